/- what the functions compute, as plain Lean functions, and that they do -/
import Derived.Test.YtacgigkonoegiaaCl0
namespace Go.Proofs.Ytacgigkonoegiaa.Mo
open Go Go.RowKit Go.Proofs.Ytacgigkonoegiaa.SL Go.Proofs.Ytacgigkonoegiaa.GX
set_option linter.unusedVariables false
set_option linter.unusedSimpArgs false
set_option maxRecDepth 100000
set_option maxHeartbeats 4000000

/-- plunder/plunderref2.New -/
def plunderref2_New (p0 : Int) : Option (T_plunderref2_Arena × Int) :=
  (if p0 < 0 then some ((⟨0, ([] : List Int), false, 0, ([] : List T_api_Access)⟩ : T_plunderref2_Arena), 3) else (if p0 > 1048576 then some ((⟨0, ([] : List Int), false, 0, ([] : List T_api_Access)⟩ : T_plunderref2_Arena), 3) else some ((⟨p0, ([] : List Int), false, 0, ([] : List T_api_Access)⟩ : T_plunderref2_Arena), 0)))

theorem plunderref2_New_ok {z w : World} {L : List HProp} {p0 r1 : Int} {r0 : T_plunderref2_Arena} (H : plunderref2_New p0 = some (r0, r1)) (h : Fit z (sepL (L)) w)  :
    Calls Try.prog 27 #[vI p0] w fun e w => ∃ Bn0 car0_1 ccr0_2 car0_3 ccr0_4, e = .returned (.tuple #[pA Bn0 0, vI r1]) ∧ Fit z (sepL (ob62 Bn0 r0 car0_1 ccr0_2 car0_3 ccr0_4 :: ro2 car0_1 ccr0_2 r0.Held :: ro90 car0_3 ccr0_4 r0.Book :: L)) w := by
 unfold plunderref2_New at H
 refine enter Try.func27 rfl 15 rfl rfl [(0, vI p0)] ⟨rfl, trivial⟩ ?_
 intro j a hr
 refine sr ?_
 refine oo [2, 3] [pN, vI 0] hr fun a hr => ?_
 refine ln ?_
 refine wp_seq ?_
 refine sr ?_
 refine oo [4, 5, 6] [vI p0, vB (decide (p0 < 0)), vB (decide (p0 < 0))] hr fun a hr => ?_
 by_cases c1 : p0 < 0
 ·
  replace H := ifT c1 H
  refine offl (decide_eq_true c1) [7, 8] hr fun a hr => ?_
  refine opv (wn rfl) hr (vB true) (rp_t (b := (decide (p0 < 0))) rfl (by kernel_rfl) (decide_eq_true c1) (by kernel_rfl)) fun a hr => ?_
  refine ln ?_
  refine cond_tt hr (b := true) rfl ?_
  refine sr ?_
  refine o1 hr (.agg #[vI 0, .slice none 0 0, vB false, vI 0, .slice none 0 0]) fun a hr => ?_
  refine onew (wn rfl) hr h nb (#[vI 0, .slice none 0 0, vB false, vI 0, .slice none 0 0]) 62 fun b2 w a h hr => ?_
  refine oo [2, 3] [pA b2 0, vI 3] hr fun a hr => ?_
  refine ln ?_
  refine wp_ret ?_
  refine then_ret ?_
  refine end_ret2 (v := pA b2 0) (v' := vI 3) rfl hr (by kernel_rfl) (by kernel_rfl) ?_
  replace h := h.row_nil (e := 2) (sz := 1) (enc := encZ_i64)
  replace h := h.row_nil (e := 90) (sz := 6) (enc := enc_T_api_Access)
  obtain ⟨rfl, rfl⟩ := ej2 H
  exact ⟨b2, none, 0, none, 0, rfl, h.se 3 [2, 1, 0]⟩
 ·
  replace H := ifF c1 H
  refine onl (decide_eq_false c1) [7, 8] [vI p0, vB (decide (p0 > 1048576))] hr fun a hr => ?_
  refine opv (wn rfl) hr (vB (decide (p0 > 1048576))) (rp_f (b := (decide (p0 < 0))) rfl (by kernel_rfl) (decide_eq_false c1) (by kernel_rfl)) fun a hr => ?_
  refine ln ?_
  refine cD hr H (fun c3 H => ?_) fun c3 H => ?_
  ·
   refine sr ?_
   refine o1 hr (.agg #[vI 0, .slice none 0 0, vB false, vI 0, .slice none 0 0]) fun a hr => ?_
   refine onew (wn rfl) hr h nb (#[vI 0, .slice none 0 0, vB false, vI 0, .slice none 0 0]) 62 fun b4 w a h hr => ?_
   refine oo [2, 3] [pA b4 0, vI 3] hr fun a hr => ?_
   refine ln ?_
   refine wp_ret ?_
   refine then_ret ?_
   refine end_ret2 (v := pA b4 0) (v' := vI 3) rfl hr (by kernel_rfl) (by kernel_rfl) ?_
   replace h := h.row_nil (e := 2) (sz := 1) (enc := encZ_i64)
   replace h := h.row_nil (e := 90) (sz := 6) (enc := enc_T_api_Access)
   obtain ⟨rfl, rfl⟩ := ej2 H
   exact ⟨b4, none, 0, none, 0, rfl, h.se 3 [2, 1, 0]⟩
  ·
   refine wp_skip ?_
   refine then_normal ?_
   refine sr ?_
   refine oo [12, 13] [vI p0, .agg #[vI p0, .slice none 0 0, vB false, vI 0, .slice none 0 0]] hr fun a hr => ?_
   refine onew (wn rfl) hr h nb (#[vI p0, .slice none 0 0, vB false, vI 0, .slice none 0 0]) 62 fun b5 w a h hr => ?_
   refine oo [2, 3] [pA b5 0, vI 0] hr fun a hr => ?_
   refine ln ?_
   refine wp_ret ?_
   refine end_ret2 (v := pA b5 0) (v' := vI 0) rfl hr (by kernel_rfl) (by kernel_rfl) ?_
   replace h := h.row_nil (e := 2) (sz := 1) (enc := encZ_i64)
   replace h := h.row_nil (e := 90) (sz := 6) (enc := enc_T_api_Access)
   obtain ⟨rfl, rfl⟩ := ej2 H
   exact ⟨b5, none, 0, none, 0, rfl, h.se 3 [2, 1, 0]⟩

/-- plunder/cells.good -/
def cells_good (p0 : Int) : Option (Bool) :=
  (if p0 ≥ 0 then some (decide (p0 ≤ 1048576)) else some false)

theorem cells_good_ok {z w : World} {L : List HProp} {p0 : Int} {r0 : Bool} (H : cells_good p0 = some r0) (h : Fit z (sepL (L)) w)  :
    Calls Try.prog 61 #[vI p0] w fun e w => e = .returned (vB r0) ∧ Fit z (sepL (L)) w := by
 unfold cells_good at H
 refine enter Try.func61 rfl 9 rfl rfl [(0, vI p0)] ⟨rfl, trivial⟩ ?_
 intro j a hr
 refine sr ?_
 refine o1 hr (vB false) fun a hr => ?_
 refine ln ?_
 refine sr ?_
 refine oo [3, 4, 5] [vI p0, vB (decide (p0 ≥ 0)), vB (decide (p0 ≥ 0))] hr fun a hr => ?_
 by_cases c1 : p0 ≥ 0
 ·
  replace H := ifT c1 H
  refine onl (decide_eq_true c1) [6, 7] [vI p0, vB (decide (p0 ≤ 1048576))] hr fun a hr => ?_
  refine opv (wn rfl) hr (vB (decide (p0 ≤ 1048576))) (rp_t (b := (decide (p0 ≥ 0))) rfl (by kernel_rfl) (decide_eq_true c1) (by kernel_rfl)) fun a hr => ?_
  refine o1 hr (vB (decide (p0 ≤ 1048576))) fun a hr => ?_
  refine ln ?_
  refine wp_ret ?_
  refine end_ret1 (v := vB (decide (p0 ≤ 1048576))) rfl hr (by kernel_rfl) ?_
  replace H := ej1 H; subst H
  exact ⟨rfl, h⟩
 ·
  replace H := ifF c1 H
  refine offl (decide_eq_false c1) [6, 7] hr fun a hr => ?_
  refine opv (wn rfl) hr (vB false) (rp_f (b := (decide (p0 ≥ 0))) rfl (by kernel_rfl) (decide_eq_false c1) (by kernel_rfl)) fun a hr => ?_
  refine o1 hr (vB false) fun a hr => ?_
  refine ln ?_
  refine wp_ret ?_
  refine end_ret1 (v := vB false) rfl hr (by kernel_rfl) ?_
  replace H := ej1 H; subst H
  exact ⟨rfl, h⟩

/-- plunder/cells.New -/
def cells_New (p0 : Int) : Option ((Option T_cells_Arena) × Int) :=
  ob1 (cells_good p0) (fun r1 => (if r1 = true then some (some (⟨p0, 0, ([] : List Int), ([] : List T_api_Access), 0, false⟩ : T_cells_Arena), 0) else some (none, 3)))

theorem cells_New_ok0 {z w : World} {L : List HProp} {p0 r1 : Int} {r0 : T_cells_Arena} (H : cells_New p0 = some ((some r0), r1)) (h : Fit z (sepL (L)) w)  :
    Calls Try.prog 19 #[vI p0] w fun e w => ∃ Bn0 car0_1 ccr0_2 car0_3 ccr0_4, e = .returned (.tuple #[pA Bn0 0, vI r1]) ∧ Fit z (sepL (ob96 Bn0 r0 car0_1 ccr0_2 car0_3 ccr0_4 :: ro2 car0_1 ccr0_2 r0.cell :: ro90 car0_3 ccr0_4 r0.log :: L)) w := by
 unfold cells_New at H
 refine enter Try.func19 rfl 11 rfl rfl [(0, vI p0)] ⟨rfl, trivial⟩ ?_
 intro j a hr
 refine sr ?_
 refine oo [2, 3] [pN, vI 0] hr fun a hr => ?_
 refine ln ?_
 refine wp_seq ?_
 refine sr ?_
 obtain ⟨r1, e2, H⟩ := bd1 H
 refine o1 hr (vI p0) fun a hr => ?_
 have hc := cells_good_ok (H := e2) (h := h)
 refine cl (wn rfl) hr hc ?_; clear hc h
 rintro _ w ⟨rfl, h⟩; refine ⟨_, rfl, fun a hr => ?_⟩
 refine o1 hr (vB (!r1)) fun a hr => ?_
 refine ln ?_
 refine cM hr H (fun c3 H => ?_) fun c3 H => ?_
 ·
  refine wp_skip ?_
  refine then_normal ?_
  refine sr ?_
  refine oo [7, 8, 9] [vI p0, .agg #[vI p0, vI 0], .agg #[vI p0, vI 0, .slice none 0 0, .slice none 0 0, vI 0, vB false]] hr fun a hr => ?_
  refine onew (wn rfl) hr h nb (#[vI p0, vI 0, .slice none 0 0, .slice none 0 0, vI 0, vB false]) 96 fun b4 w a h hr => ?_
  refine oo [2, 3] [pA b4 0, vI 0] hr fun a hr => ?_
  refine ln ?_
  refine wp_ret ?_
  refine end_ret2 (v := pA b4 0) (v' := vI 0) rfl hr (by kernel_rfl) (by kernel_rfl) ?_
  replace h := h.row_nil (e := 2) (sz := 1) (enc := encZ_i64)
  replace h := h.row_nil (e := 90) (sz := 6) (enc := enc_T_api_Access)
  cases H
  exact ⟨b4, none, 0, none, 0, rfl, h.se 3 [2, 1, 0]⟩
 ·
  refine sr ?_
  refine oo [2, 3] [pN, vI 3] hr fun a hr => ?_
  refine ln ?_
  refine wp_ret ?_
  refine then_ret ?_
  refine end_ret2 (v := pN) (v' := vI 3) rfl hr (by kernel_rfl) (by kernel_rfl) ?_
  cases H

theorem cells_New_ok1 {z w : World} {L : List HProp} {p0 r1 : Int} (H : cells_New p0 = some (none, r1)) (h : Fit z (sepL (L)) w)  :
    Calls Try.prog 19 #[vI p0] w fun e w => e = .returned (.tuple #[pN, vI r1]) ∧ Fit z (sepL (L)) w := by
 unfold cells_New at H
 refine enter Try.func19 rfl 11 rfl rfl [(0, vI p0)] ⟨rfl, trivial⟩ ?_
 intro j a hr
 refine sr ?_
 refine oo [2, 3] [pN, vI 0] hr fun a hr => ?_
 refine ln ?_
 refine wp_seq ?_
 refine sr ?_
 obtain ⟨r1, e2, H⟩ := bd1 H
 refine o1 hr (vI p0) fun a hr => ?_
 have hc := cells_good_ok (H := e2) (h := h)
 refine cl (wn rfl) hr hc ?_; clear hc h
 rintro _ w ⟨rfl, h⟩; refine ⟨_, rfl, fun a hr => ?_⟩
 refine o1 hr (vB (!r1)) fun a hr => ?_
 refine ln ?_
 refine cM hr H (fun c3 H => ?_) fun c3 H => ?_
 ·
  refine wp_skip ?_
  refine then_normal ?_
  refine sr ?_
  refine oo [7, 8, 9] [vI p0, .agg #[vI p0, vI 0], .agg #[vI p0, vI 0, .slice none 0 0, .slice none 0 0, vI 0, vB false]] hr fun a hr => ?_
  refine onew (wn rfl) hr h nb (#[vI p0, vI 0, .slice none 0 0, .slice none 0 0, vI 0, vB false]) 96 fun b4 w a h hr => ?_
  refine oo [2, 3] [pA b4 0, vI 0] hr fun a hr => ?_
  refine ln ?_
  refine wp_ret ?_
  refine end_ret2 (v := pA b4 0) (v' := vI 0) rfl hr (by kernel_rfl) (by kernel_rfl) ?_
  replace h := h.row_nil (e := 2) (sz := 1) (enc := encZ_i64)
  replace h := h.row_nil (e := 90) (sz := 6) (enc := enc_T_api_Access)
  cases H
 ·
  refine sr ?_
  refine oo [2, 3] [pN, vI 3] hr fun a hr => ?_
  refine ln ?_
  refine wp_ret ?_
  refine then_ret ?_
  refine end_ret2 (v := pN) (v' := vI 3) rfl hr (by kernel_rfl) (by kernel_rfl) ?_
  cases H
  exact ⟨rfl, h⟩

/-- plunder/plunderlaw2.mod -/
def plunderlaw2_mod (p0 : Int) (p1 : Int) : Option (Int) :=
  if p1 ≠ 0 then (if (p0.tmod p1) < 0 then some (wi ((p0.tmod p1) + p1)) else some (p0.tmod p1)) else none

theorem plunderlaw2_mod_ok {z w : World} {L : List HProp} {p0 p1 r0 : Int} (H : plunderlaw2_mod p0 p1 = some r0) (h : Fit z (sepL (L)) w)  :
    Calls Try.prog 23 #[vI p0, vI p1] w fun e w => e = .returned (vI r0) ∧ Fit z (sepL (L)) w := by
 unfold plunderlaw2_mod at H
 refine enter Try.func23 rfl 15 rfl rfl [(0, vI p0), (1, vI p1)] ⟨rfl, rfl, trivial⟩ ?_
 intro j a hr
 refine sr ?_
 refine o1 hr (vI 0) fun a hr => ?_
 refine ln ?_
 refine sr ?_
 obtain ⟨c1, H⟩ := gd H
 refine oo [6, 7] [vI p0, vI p1] hr fun a hr => ?_
 refine opv (wn rfl) hr (vI (p0.tmod p1)) (rrem rfl (by kernel_rfl) (by kernel_rfl) c1) fun a hr => ?_
 refine o1 hr (vI (p0.tmod p1)) fun a hr => ?_
 refine ln ?_
 refine wp_seq ?_
 refine sr ?_
 refine oo [9, 10] [vI (p0.tmod p1), vB (decide ((p0.tmod p1) < 0))] hr fun a hr => ?_
 refine ln ?_
 refine cD hr H (fun c2 H => ?_) fun c2 H => ?_
 ·
  refine wp_region_lit ?_
  refine oo [11, 12, 13, 5] [vI (p0.tmod p1), vI p1, vI (wi ((p0.tmod p1) + p1)), vI (wi ((p0.tmod p1) + p1))] hr fun a hr => ?_
  refine ln ?_
  refine sr ?_
  refine oo [14, 4] [vI (wi ((p0.tmod p1) + p1)), vI (wi ((p0.tmod p1) + p1))] hr fun a hr => ?_
  refine ln ?_
  refine wp_ret ?_
  refine end_ret1 (v := vI (wi ((p0.tmod p1) + p1))) rfl hr (by kernel_rfl) ?_
  replace H := ej1 H; subst H
  exact ⟨rfl, h⟩
 ·
  refine wp_skip ?_
  refine then_normal ?_
  refine sr ?_
  refine oo [14, 4] [vI (p0.tmod p1), vI (p0.tmod p1)] hr fun a hr => ?_
  refine ln ?_
  refine wp_ret ?_
  refine end_ret1 (v := vI (p0.tmod p1)) rfl hr (by kernel_rfl) ?_
  replace H := ej1 H; subst H
  exact ⟨rfl, h⟩

/-- (*plunder/cells.ledger).has -/
def cells_ledger_has (p0 : T_cells_Arena) (p1 : Int) : Option (Bool) :=
  (if p1 ≥ 0 then some (decide (p1 < p0.ledger_mark)) else some false)

theorem cells_ledger_has_ok {z w : World} {L : List HProp} {p0 : T_cells_Arena} {p1 : Int} {B0 cc2 cc4 : Nat} {ca1 ca3 : Option Addr} {r0 : Bool} (H : cells_ledger_has p0 p1 = some r0) (h : Fit z (sepL (ob96 B0 p0 ca1 cc2 ca3 cc4 :: ro2 ca1 cc2 p0.cell :: ro90 ca3 cc4 p0.log :: L)) w)  :
    Calls Try.prog 100 #[pA B0 0, vI p1] w fun e w => e = .returned (vB r0) ∧ Fit z (sepL (ob96 B0 p0 ca1 cc2 ca3 cc4 :: ro2 ca1 cc2 p0.cell :: ro90 ca3 cc4 p0.log :: L)) w := by
 unfold cells_ledger_has at H
 refine enter Try.func100 rfl 15 rfl rfl [(0, pA B0 0), (1, vI p1)] ⟨rfl, rfl, trivial⟩ ?_
 intro j a hr
 refine sr ?_
 refine o1 hr (vB false) fun a hr => ?_
 refine ln ?_
 refine sr ?_
 refine oo [5, 6, 7] [vI p1, vB (decide (p1 ≥ 0)), vB (decide (p1 ≥ 0))] hr fun a hr => ?_
 by_cases c5 : p1 ≥ 0
 ·
  replace H := ifT c5 H
  refine onl (decide_eq_true c5) [8, 9, 10, 11] [vI p1, pA B0 0, pA B0 0, pA B0 1] hr fun a hr => ?_
  refine ld (wgt hr (decide_eq_true c5)) hr (vI p0.ledger_mark) (h.cell 1 rfl) fun a hr => ?_
  refine onl (decide_eq_true c5) [13] [vB (decide (p1 < p0.ledger_mark))] hr fun a hr => ?_
  refine opv (wn rfl) hr (vB (decide (p1 < p0.ledger_mark))) (rp_t (b := (decide (p1 ≥ 0))) rfl (by kernel_rfl) (decide_eq_true c5) (by kernel_rfl)) fun a hr => ?_
  refine o1 hr (vB (decide (p1 < p0.ledger_mark))) fun a hr => ?_
  refine ln ?_
  refine wp_ret ?_
  refine end_ret1 (v := vB (decide (p1 < p0.ledger_mark))) rfl hr (by kernel_rfl) ?_
  replace H := ej1 H; subst H
  exact ⟨rfl, h⟩
 ·
  replace H := ifF c5 H
  refine offl (decide_eq_false c5) [8, 9, 10, 11, 12, 13] hr fun a hr => ?_
  refine opv (wn rfl) hr (vB false) (rp_f (b := (decide (p1 ≥ 0))) rfl (by kernel_rfl) (decide_eq_false c5) (by kernel_rfl)) fun a hr => ?_
  refine o1 hr (vB false) fun a hr => ?_
  refine ln ?_
  refine wp_ret ?_
  refine end_ret1 (v := vB false) rfl hr (by kernel_rfl) ?_
  replace H := ej1 H; subst H
  exact ⟨rfl, h⟩

/-- (*plunder/cells.Arena).outside -/
def cells_Arena_outside (p0 : T_cells_Arena) (p1 : Int) : Option (Bool) :=
  ob1 (cells_ledger_has p0 p1) (fun r5 => some (!r5))

theorem cells_Arena_outside_ok {z w : World} {L : List HProp} {p0 : T_cells_Arena} {p1 : Int} {B0 cc2 cc4 : Nat} {ca1 ca3 : Option Addr} {r0 : Bool} (H : cells_Arena_outside p0 p1 = some r0) (h : Fit z (sepL (ob96 B0 p0 ca1 cc2 ca3 cc4 :: ro2 ca1 cc2 p0.cell :: ro90 ca3 cc4 p0.log :: L)) w)  :
    Calls Try.prog 65 #[pA B0 0, vI p1] w fun e w => e = .returned (vB r0) ∧ Fit z (sepL (ob96 B0 p0 ca1 cc2 ca3 cc4 :: ro2 ca1 cc2 p0.cell :: ro90 ca3 cc4 p0.log :: L)) w := by
 unfold cells_Arena_outside at H
 refine enter Try.func65 rfl 15 rfl rfl [(0, pA B0 0), (1, vI p1)] ⟨rfl, rfl, trivial⟩ ?_
 intro j a hr
 refine sr ?_
 refine o1 hr (vB false) fun a hr => ?_
 refine ln ?_
 refine sr ?_
 obtain ⟨r5, e6, H⟩ := bd1 H
 refine oo [5, 6, 7] [pA B0 0, vB false, vB false] hr fun a hr => ?_
 refine onl (rfl : false = false) [8, 9, 10, 11] [pA B0 0, pA B0 0, pA B0 0, vI p1] hr fun a hr => ?_
 have hc := cells_ledger_has_ok (H := e6) (h := h)
 refine cl (wgt hr (c := false) rfl) hr hc ?_; clear hc h
 rintro _ w ⟨rfl, h⟩; refine ⟨_, rfl, fun a hr => ?_⟩
 refine onl (rfl : false = false) [13] [vB (!r5)] hr fun a hr => ?_
 refine oo [14, 4] [vB (!r5), vB (!r5)] hr fun a hr => ?_
 refine ln ?_
 refine wp_ret ?_
 refine end_ret1 (v := vB (!r5)) rfl hr (by kernel_rfl) ?_
 replace H := ej1 H; subst H
 exact ⟨rfl, h⟩

/-- (*plunder/cells.Arena).note -/
def cells_Arena_note (p0 : T_cells_Arena) (p1 : Int) (p2 : Int) (p3 : Int) (p4 : Int) (p5 : Bool) : Option (T_cells_Arena) :=
  (if p0.watched = true then if (p0.log.length + 1) * 48 ≤ 140737488355328 then some ({ p0 with log := p0.log ++ [(⟨p0.actor, p1, p2, p3, p4, p5⟩ : T_api_Access)] }) else none else some p0)

theorem cells_Arena_note_ok {z w : World} {L : List HProp} {p0 q0 : T_cells_Arena} {p1 p2 p3 p4 : Int} {p5 : Bool} {B0 cc2 cc4 : Nat} {ca1 ca3 : Option Addr} (H : cells_Arena_note p0 p1 p2 p3 p4 p5 = some q0) (h : Fit z (sepL (ob96 B0 p0 ca1 cc2 ca3 cc4 :: ro2 ca1 cc2 p0.cell :: ro90 ca3 cc4 p0.log :: L)) w)  :
    Calls Try.prog 64 #[pA B0 0, vI p1, vI p2, vI p3, vI p4, vB p5] w fun e w => ∃ caq0_1 ccq0_2 caq0_3 ccq0_4, e = .returned (.tuple #[]) ∧ Fit z (sepL (ob96 B0 q0 caq0_1 ccq0_2 caq0_3 ccq0_4 :: ro2 caq0_1 ccq0_2 q0.cell :: ro90 caq0_3 ccq0_4 q0.log :: L)) w := by
 unfold cells_Arena_note at H
 refine enter Try.func64 rfl 35 rfl rfl [(0, pA B0 0), (1, vI p1), (2, vI p2), (3, vI p3), (4, vI p4), (5, vB p5)] ⟨rfl, rfl, rfl, rfl, rfl, rfl, trivial⟩ ?_
 intro j a hr
 refine sr ?_
 refine oo [12, 13, 14] [pA B0 0, pA B0 0, pA B0 5] hr fun a hr => ?_
 refine ld (wn rfl) hr (vB p0.watched) (h.cell 5 rfl) fun a hr => ?_
 refine ln ?_
 refine cV hr H (fun c5 H => ?_) fun c5 H => ?_
 ·
  obtain ⟨c9, H⟩ := gd H
  refine regL [(B0, 3, [.slice ca3 p0.log.length cc4]), (B0, 4, [vI p0.actor])] [2, 3, 6, 7, 14] 20 h (fun h => ⟨⟨h.cell 3 rfl, trivial⟩, ⟨h.cell 4 rfl, trivial⟩, trivial⟩) fun w h hd => ?_
  refine evs' hd 8 [(0, 16, pA B0 0), (1, 17, pA B0 0), (2, 18, pA B0 0), (3, 19, pA B0 3), (5, 21, pA B0 0), (6, 22, pA B0 0), (7, 23, pA B0 4), (9, 25, vI p1), (10, 26, vI p2), (11, 27, vI p3), (12, 28, vI p4), (13, 29, vB p5)] hr fun a hr => ?_
  refine elx hd 0 7 4 hr (wn rfl) rfl rfl fun a hr => ?_
  refine elx hd 1 6 8 hr (wn rfl) rfl rfl fun a hr => ?_
  refine evs' hd 5 [(14, 30, .agg #[vI p0.actor, vI p1, vI p2, vI p3, vI p4, vB p5])] hr fun a hr => ?_
  refine eo1 15 rfl ?_
  refine onew (wn rfl) hr h (fun b => .slice (some ⟨b, 0, none⟩) 1 1) (#[vI p0.actor, vI p1, vI p2, vI p3, vI p4, vB p5]) 90 fun b6 w a h hr => ?_
  refine ln ?_
  refine xE ?_
  refine eo1 16 rfl ?_
  replace h := h.m3
  refine op_append (n0 := p0.log.length) (c := 1) (bytes := 48) (wn rfl) rfl rfl hr rfl (by kernel_rfl) (by kernel_rfl) enc_T_api_Access_ok (E := 90) (xs := p0.log) (by kernel_rfl) (by kernel_rfl) h (news := [(⟨p0.actor, p1, p2, p3, p4, p5⟩ : T_api_Access)]) (m := 1) rfl ((h.pick 1).news rfl) c9 rfl fun ca7 cc8 w a h hr => ?_
  refine ln ?_
  refine xE ?_
  refine evs 2 17 rfl (wn rfl) hr (pA B0 0) fun a hr => ?_
  refine evs 1 18 rfl (wn rfl) hr (pA B0 3) fun a hr => ?_
  refine eo1 19 rfl ?_
  replace h := h.m2
  refine st1 (wn rfl) hr h 3 (.slice ca7 (p0.log ++ [(⟨p0.actor, p1, p2, p3, p4, p5⟩ : T_api_Access)]).length cc8) (pts B0 (.cells #[vI p0.ledger_size, vI p0.ledger_mark, .slice ca1 p0.cell.length cc2, .slice ca7 (p0.log ++ [(⟨p0.actor, p1, p2, p3, p4, p5⟩ : T_api_Access)]).length cc8, vI p0.actor, vB p0.watched] 96)) fun w h => ?_
  refine ln ?_
  refine xE ?_
  refine een ?_
  refine end_norm0 rfl hr ?_
  replace H := ej1 H; subst H
  exact ⟨ca1, cc2, ca7, cc8, rfl, h.se 4 [0, 3, 1]⟩
 ·
  refine wp_skip ?_
  refine end_norm0 rfl hr ?_
  replace H := ej1 H; subst H
  exact ⟨ca1, cc2, ca3, cc4, rfl, h⟩

/-- (*plunder/cells.Arena).Load -/
def cells_Arena_Load (p0 : T_cells_Arena) (p1 : Int) : Option (Int × Int × T_cells_Arena) :=
  ob1 (cells_Arena_outside p0 p1) (fun r5 => (if r5 = true then some (0, 20, p0) else if inr_ p1 p0.cell.length then ob1 (cells_Arena_note p0 0 p1 (at_ p0.cell p1.toNat) 0 true) (fun S9 => some ((at_ p0.cell p1.toNat), 0, S9)) else none))

theorem cells_Arena_Load_ok {z w : World} {L : List HProp} {p0 q0 : T_cells_Arena} {p1 r0 r1 : Int} {B0 cc2 cc4 : Nat} {ca1 ca3 : Option Addr} (H : cells_Arena_Load p0 p1 = some (r0, r1, q0)) (h : Fit z (sepL (ob96 B0 p0 ca1 cc2 ca3 cc4 :: ro2 ca1 cc2 p0.cell :: ro90 ca3 cc4 p0.log :: L)) w)  :
    Calls Try.prog 66 #[pA B0 0, vI p1] w fun e w => ∃ caq0_1 ccq0_2 caq0_3 ccq0_4, e = .returned (.tuple #[vI r0, vI r1]) ∧ Fit z (sepL (ob96 B0 q0 caq0_1 ccq0_2 caq0_3 ccq0_4 :: ro2 caq0_1 ccq0_2 q0.cell :: ro90 caq0_3 ccq0_4 q0.log :: L)) w := by
 unfold cells_Arena_Load at H
 refine enter Try.func66 rfl 22 rfl rfl [(0, pA B0 0), (1, vI p1)] ⟨rfl, rfl, trivial⟩ ?_
 intro j a hr
 refine sr ?_
 refine oo [4, 5] [vI 0, vI 0] hr fun a hr => ?_
 refine ln ?_
 refine wp_seq ?_
 refine sr ?_
 obtain ⟨r5, e6, H⟩ := bd1 H
 refine oo [7, 8] [pA B0 0, vI p1] hr fun a hr => ?_
 have hc := cells_Arena_outside_ok (H := e6) (h := h)
 refine cl (wn rfl) hr hc ?_; clear hc h
 rintro _ w ⟨rfl, h⟩; refine ⟨_, rfl, fun a hr => ?_⟩
 refine ln ?_
 refine cV hr H (fun c7 H => ?_) fun c7 H => ?_
 ·
  refine sr ?_
  refine oo [4, 5] [vI 0, vI 20] hr fun a hr => ?_
  refine ln ?_
  refine wp_ret ?_
  refine then_ret ?_
  refine end_ret2 (v := vI 0) (v' := vI 20) rfl hr (by kernel_rfl) (by kernel_rfl) ?_
  obtain ⟨rfl, rfl, rfl⟩ := ej3 H
  exact ⟨ca1, cc2, ca3, cc4, rfl, h⟩
 ·
  refine wp_skip ?_
  refine then_normal ?_
  refine sr ?_
  refine oo [10, 11, 12] [pA B0 0, pA B0 0, pA B0 2] hr fun a hr => ?_
  refine ld (wn rfl) hr (.slice ca1 p0.cell.length cc2) (h.cell 2 rfl) fun a hr => ?_
  obtain ⟨c8, H⟩ := gd H
  refine o1 hr (vI p1) fun a hr => ?_
  refine opv (wn rfl) hr (pA (blk ca1) (p1.toNat * 1)) (ri_row (k := .i64) (E := 2) rfl (by kernel_rfl) (by kernel_rfl) (by kernel_rfl) (by kernel_rfl) (h.pick 1) c8) fun a hr => ?_
  refine ld (wn rfl) hr (vI (at_ p0.cell p1.toNat)) ((h.pick 1).row_cell encZ_i64_ok (f := 0) (at_ok c8) rfl) fun a hr => ?_
  refine o1 hr (vI (at_ p0.cell p1.toNat)) fun a hr => ?_
  refine ln ?_
  refine sr ?_
  obtain ⟨S9, e10, H⟩ := bd1 H
  refine oo [17, 18, 19] [pA B0 0, vI p1, vI (at_ p0.cell p1.toNat)] hr fun a hr => ?_
  have hc := cells_Arena_note_ok (H := e10) (h := h)
  refine cl (wn rfl) hr hc ?_; clear hc h
  rintro _ w ⟨caq11, ccq12, caq13, ccq14, rfl, h⟩; refine ⟨_, rfl, fun a hr => ?_⟩
  refine ln ?_
  refine sr ?_
  refine oo [21, 4, 5] [vI (at_ p0.cell p1.toNat), vI (at_ p0.cell p1.toNat), vI 0] hr fun a hr => ?_
  refine ln ?_
  refine wp_ret ?_
  refine end_ret2 (v := vI (at_ p0.cell p1.toNat)) (v' := vI 0) rfl hr (by kernel_rfl) (by kernel_rfl) ?_
  obtain ⟨rfl, rfl, rfl⟩ := ej3 H
  exact ⟨caq11, ccq12, caq13, ccq14, rfl, h⟩

/-- (*plunder/cells.Arena).Store -/
def cells_Arena_Store (p0 : T_cells_Arena) (p1 : Int) (p2 : Int) : Option (Int × T_cells_Arena) :=
  ob1 (cells_Arena_outside p0 p1) (fun r5 => (if r5 = true then some (20, p0) else if inr_ p1 p0.cell.length then ob1 (cells_Arena_note ({ p0 with cell := p0.cell.set p1.toNat p2 }) 1 p1 p2 0 true) (fun S10 => some (0, S10)) else none))

theorem cells_Arena_Store_ok {z w : World} {L : List HProp} {p0 q0 : T_cells_Arena} {p1 p2 r0 : Int} {B0 cc2 cc4 : Nat} {ca1 ca3 : Option Addr} (H : cells_Arena_Store p0 p1 p2 = some (r0, q0)) (h : Fit z (sepL (ob96 B0 p0 ca1 cc2 ca3 cc4 :: ro2 ca1 cc2 p0.cell :: ro90 ca3 cc4 p0.log :: L)) w)  :
    Calls Try.prog 21 #[pA B0 0, vI p1, vI p2] w fun e w => ∃ caq0_1 ccq0_2 caq0_3 ccq0_4, e = .returned (vI r0) ∧ Fit z (sepL (ob96 B0 q0 caq0_1 ccq0_2 caq0_3 ccq0_4 :: ro2 caq0_1 ccq0_2 q0.cell :: ro90 caq0_3 ccq0_4 q0.log :: L)) w := by
 unfold cells_Arena_Store at H
 refine enter Try.func21 rfl 21 rfl rfl [(0, pA B0 0), (1, vI p1), (2, vI p2)] ⟨rfl, rfl, rfl, trivial⟩ ?_
 intro j a hr
 refine sr ?_
 refine o1 hr (vI 0) fun a hr => ?_
 refine ln ?_
 refine wp_seq ?_
 refine sr ?_
 obtain ⟨r5, e6, H⟩ := bd1 H
 refine oo [7, 8] [pA B0 0, vI p1] hr fun a hr => ?_
 have hc := cells_Arena_outside_ok (H := e6) (h := h)
 refine cl (wn rfl) hr hc ?_; clear hc h
 rintro _ w ⟨rfl, h⟩; refine ⟨_, rfl, fun a hr => ?_⟩
 refine ln ?_
 refine cV hr H (fun c7 H => ?_) fun c7 H => ?_
 ·
  refine sr ?_
  refine o1 hr (vI 20) fun a hr => ?_
  refine ln ?_
  refine wp_ret ?_
  refine then_ret ?_
  refine end_ret1 (v := vI 20) rfl hr (by kernel_rfl) ?_
  obtain ⟨rfl, rfl⟩ := ej2 H
  exact ⟨ca1, cc2, ca3, cc4, rfl, h⟩
 ·
  refine wp_skip ?_
  refine then_normal ?_
  refine sr ?_
  refine oo [10, 11, 12] [pA B0 0, pA B0 0, pA B0 2] hr fun a hr => ?_
  refine ld (wn rfl) hr (.slice ca1 p0.cell.length cc2) (h.cell 2 rfl) fun a hr => ?_
  obtain ⟨c8, H⟩ := gd H
  refine oo [14, 15] [vI p1, vI p2] hr fun a hr => ?_
  refine opv (wn rfl) hr (pA (blk ca1) (p1.toNat * 1)) (ri_row (k := .i64) (E := 2) rfl (by kernel_rfl) (by kernel_rfl) (by kernel_rfl) (by kernel_rfl) (h.pick 1) c8) fun a hr => ?_
  replace h := h.m1
  refine stor (wn rfl) hr encZ_i64_ok h p1.toNat 0 (vI p2) (at_ p0.cell p1.toNat) p2 (at_ok c8) fun w h => ?_
  refine ln ?_
  refine sr ?_
  refine oo [17, 18, 19] [pA B0 0, vI p1, vI p2] hr fun a hr => ?_
  have hn8 : p0.cell.length = (p0.cell.set p1.toNat p2).length := h.row_n; replace h := Fit.ren1 hn8 (fun q_ => rowOf 2 1 encZ_i64 (.slice ca1 q_ cc2) (p0.cell.set p1.toNat p2)) (fun q_ => pts B0 (.cells #[vI p0.ledger_size, vI p0.ledger_mark, .slice ca1 q_ cc2, .slice ca3 p0.log.length cc4, vI p0.actor, vB p0.watched] 96)) h
  obtain ⟨S10, e11, H⟩ := bd1 H
  replace h := h.m2.m1.m2
  have hc := cells_Arena_note_ok (H := e11) (h := h)
  refine cl (wn rfl) hr hc ?_; clear hc h
  rintro _ w ⟨caq12, ccq13, caq14, ccq15, rfl, h⟩; refine ⟨_, rfl, fun a hr => ?_⟩
  refine ln ?_
  refine sr ?_
  refine o1 hr (vI 0) fun a hr => ?_
  refine ln ?_
  refine wp_ret ?_
  refine end_ret1 (v := vI 0) rfl hr (by kernel_rfl) ?_
  obtain ⟨rfl, rfl⟩ := ej2 H
  exact ⟨caq12, ccq13, caq14, ccq15, rfl, h⟩

/-- (*plunder/cells.Arena).CAS -/
def cells_Arena_CAS (p0 : T_cells_Arena) (p1 : Int) (p2 : Int) (p3 : Int) : Option (Bool × Int × T_cells_Arena) :=
  ob1 (cells_Arena_outside p0 p1) (fun r5 => (if r5 = true then some (false, 20, p0) else if inr_ p1 p0.cell.length then (if (at_ p0.cell p1.toNat) = p2 then ob1 (cells_Arena_note ({ p0 with cell := p0.cell.set p1.toNat p3 }) 2 p1 p2 p3 ((at_ p0.cell p1.toNat) == p2)) (fun S11 => some ((at_ p0.cell p1.toNat) == p2, 0, S11)) else ob1 (cells_Arena_note p0 2 p1 p2 p3 ((at_ p0.cell p1.toNat) == p2)) (fun S17 => some ((at_ p0.cell p1.toNat) == p2, 0, S17))) else none))

theorem cells_Arena_CAS_ok {z w : World} {L : List HProp} {p0 q0 : T_cells_Arena} {p1 p2 p3 r1 : Int} {B0 cc2 cc4 : Nat} {ca1 ca3 : Option Addr} {r0 : Bool} (H : cells_Arena_CAS p0 p1 p2 p3 = some (r0, r1, q0)) (h : Fit z (sepL (ob96 B0 p0 ca1 cc2 ca3 cc4 :: ro2 ca1 cc2 p0.cell :: ro90 ca3 cc4 p0.log :: L)) w)  :
    Calls Try.prog 67 #[pA B0 0, vI p1, vI p2, vI p3] w fun e w => ∃ caq0_1 ccq0_2 caq0_3 ccq0_4, e = .returned (.tuple #[vB r0, vI r1]) ∧ Fit z (sepL (ob96 B0 q0 caq0_1 ccq0_2 caq0_3 ccq0_4 :: ro2 caq0_1 ccq0_2 q0.cell :: ro90 caq0_3 ccq0_4 q0.log :: L)) w := by
 unfold cells_Arena_CAS at H
 refine enter Try.func67 rfl 38 rfl rfl [(0, pA B0 0), (1, vI p1), (2, vI p2), (3, vI p3)] ⟨rfl, rfl, rfl, rfl, trivial⟩ ?_
 intro j a hr
 refine sr ?_
 refine oo [8, 9] [vB false, vI 0] hr fun a hr => ?_
 refine ln ?_
 refine wp_seq ?_
 refine sr ?_
 obtain ⟨r5, e6, H⟩ := bd1 H
 refine oo [11, 12] [pA B0 0, vI p1] hr fun a hr => ?_
 have hc := cells_Arena_outside_ok (H := e6) (h := h)
 refine cl (wn rfl) hr hc ?_; clear hc h
 rintro _ w ⟨rfl, h⟩; refine ⟨_, rfl, fun a hr => ?_⟩
 refine ln ?_
 refine cV hr H (fun c7 H => ?_) fun c7 H => ?_
 ·
  refine sr ?_
  refine oo [8, 9] [vB false, vI 20] hr fun a hr => ?_
  refine ln ?_
  refine wp_ret ?_
  refine then_ret ?_
  refine end_ret2 (v := vB false) (v' := vI 20) rfl hr (by kernel_rfl) (by kernel_rfl) ?_
  obtain ⟨rfl, rfl, rfl⟩ := ej3 H
  exact ⟨ca1, cc2, ca3, cc4, rfl, h⟩
 ·
  refine wp_skip ?_
  refine then_normal ?_
  refine sr ?_
  refine oo [14, 15, 16] [pA B0 0, pA B0 0, pA B0 2] hr fun a hr => ?_
  refine ld (wn rfl) hr (.slice ca1 p0.cell.length cc2) (h.cell 2 rfl) fun a hr => ?_
  obtain ⟨c8, H⟩ := gd H
  refine o1 hr (vI p1) fun a hr => ?_
  refine opv (wn rfl) hr (pA (blk ca1) (p1.toNat * 1)) (ri_row (k := .i64) (E := 2) rfl (by kernel_rfl) (by kernel_rfl) (by kernel_rfl) (by kernel_rfl) (h.pick 1) c8) fun a hr => ?_
  refine ld (wn rfl) hr (vI (at_ p0.cell p1.toNat)) ((h.pick 1).row_cell encZ_i64_ok (f := 0) (at_ok c8) rfl) fun a hr => ?_
  refine oo [21, 22, 10] [vI p2, vB ((at_ p0.cell p1.toNat) == p2), vB ((at_ p0.cell p1.toNat) == p2)] hr fun a hr => ?_
  refine ln ?_
  refine wp_seq ?_
  refine sr ?_
  refine o1 hr (vB ((at_ p0.cell p1.toNat) == p2)) fun a hr => ?_
  refine ln ?_
  refine cD hr H (fun c9 H => ?_) fun c9 H => ?_
  ·
   refine wp_region_lit ?_
   refine oo [24, 25, 26] [pA B0 0, pA B0 0, pA B0 2] hr fun a hr => ?_
   refine ld (wn rfl) hr (.slice ca1 p0.cell.length cc2) (h.cell 2 rfl) fun a hr => ?_
   refine oo [28, 29] [vI p1, vI p3] hr fun a hr => ?_
   refine opv (wn rfl) hr (pA (blk ca1) (p1.toNat * 1)) (ri_row (k := .i64) (E := 2) rfl (by kernel_rfl) (by kernel_rfl) (by kernel_rfl) (by kernel_rfl) (h.pick 1) c8) fun a hr => ?_
   replace h := h.m1
   refine stor (wn rfl) hr encZ_i64_ok h p1.toNat 0 (vI p3) (at_ p0.cell p1.toNat) p3 (at_ok c8) fun w h => ?_
   refine ln ?_
   refine sr ?_
   refine oo [31, 32, 33, 34, 35] [pA B0 0, vI p1, vI p2, vI p3, vB ((at_ p0.cell p1.toNat) == p2)] hr fun a hr => ?_
   have hn9 : p0.cell.length = (p0.cell.set p1.toNat p3).length := h.row_n; replace h := Fit.ren1 hn9 (fun q_ => rowOf 2 1 encZ_i64 (.slice ca1 q_ cc2) (p0.cell.set p1.toNat p3)) (fun q_ => pts B0 (.cells #[vI p0.ledger_size, vI p0.ledger_mark, .slice ca1 q_ cc2, .slice ca3 p0.log.length cc4, vI p0.actor, vB p0.watched] 96)) h
   obtain ⟨S11, e12, H⟩ := bd1 H
   replace h := h.m2.m1.m2
   have hc := cells_Arena_note_ok (H := e12) (h := h)
   refine cl (wn rfl) hr hc ?_; clear hc h
   rintro _ w ⟨caq13, ccq14, caq15, ccq16, rfl, h⟩; refine ⟨_, rfl, fun a hr => ?_⟩
   refine ln ?_
   refine sr ?_
   refine oo [37, 8, 9] [vB ((at_ p0.cell p1.toNat) == p2), vB ((at_ p0.cell p1.toNat) == p2), vI 0] hr fun a hr => ?_
   refine ln ?_
   refine wp_ret ?_
   refine end_ret2 (v := vB ((at_ p0.cell p1.toNat) == p2)) (v' := vI 0) rfl hr (by kernel_rfl) (by kernel_rfl) ?_
   obtain ⟨rfl, rfl, rfl⟩ := ej3 H
   exact ⟨caq13, ccq14, caq15, ccq16, rfl, h⟩
  ·
   refine wp_skip ?_
   refine then_normal ?_
   refine sr ?_
   obtain ⟨S17, e18, H⟩ := bd1 H
   refine oo [31, 32, 33, 34, 35] [pA B0 0, vI p1, vI p2, vI p3, vB ((at_ p0.cell p1.toNat) == p2)] hr fun a hr => ?_
   have hc := cells_Arena_note_ok (H := e18) (h := h)
   refine cl (wn rfl) hr hc ?_; clear hc h
   rintro _ w ⟨caq19, ccq20, caq21, ccq22, rfl, h⟩; refine ⟨_, rfl, fun a hr => ?_⟩
   refine ln ?_
   refine sr ?_
   refine oo [37, 8, 9] [vB ((at_ p0.cell p1.toNat) == p2), vB ((at_ p0.cell p1.toNat) == p2), vI 0] hr fun a hr => ?_
   refine ln ?_
   refine wp_ret ?_
   refine end_ret2 (v := vB ((at_ p0.cell p1.toNat) == p2)) (v' := vI 0) rfl hr (by kernel_rfl) (by kernel_rfl) ?_
   obtain ⟨rfl, rfl, rfl⟩ := ej3 H
   exact ⟨caq19, ccq20, caq21, ccq22, rfl, h⟩

/-- (*plunder/cells.Arena).Add -/
def cells_Arena_Add (p0 : T_cells_Arena) (p1 : Int) (p2 : Int) : Option (Int × Int × T_cells_Arena) :=
  ob1 (cells_Arena_outside p0 p1) (fun r5 => (if r5 = true then some (0, 20, p0) else if inr_ p1 p0.cell.length then if inr_ p1 (p0.cell.set p1.toNat (wi ((at_ p0.cell p1.toNat) + p2))).length then ob1 (cells_Arena_note ({ p0 with cell := p0.cell.set p1.toNat (wi ((at_ p0.cell p1.toNat) + p2)) }) 3 p1 p2 (wi ((at_ p0.cell p1.toNat) + p2)) true) (fun S11 => if inr_ p1 S11.cell.length then some ((at_ S11.cell p1.toNat), 0, S11) else none) else none else none))

theorem cells_Arena_Add_ok {z w : World} {L : List HProp} {p0 q0 : T_cells_Arena} {p1 p2 r0 r1 : Int} {B0 cc2 cc4 : Nat} {ca1 ca3 : Option Addr} (H : cells_Arena_Add p0 p1 p2 = some (r0, r1, q0)) (h : Fit z (sepL (ob96 B0 p0 ca1 cc2 ca3 cc4 :: ro2 ca1 cc2 p0.cell :: ro90 ca3 cc4 p0.log :: L)) w)  :
    Calls Try.prog 68 #[pA B0 0, vI p1, vI p2] w fun e w => ∃ caq0_1 ccq0_2 caq0_3 ccq0_4, e = .returned (.tuple #[vI r0, vI r1]) ∧ Fit z (sepL (ob96 B0 q0 caq0_1 ccq0_2 caq0_3 ccq0_4 :: ro2 caq0_1 ccq0_2 q0.cell :: ro90 caq0_3 ccq0_4 q0.log :: L)) w := by
 unfold cells_Arena_Add at H
 refine enter Try.func68 rfl 39 rfl rfl [(0, pA B0 0), (1, vI p1), (2, vI p2)] ⟨rfl, rfl, rfl, trivial⟩ ?_
 intro j a hr
 refine sr ?_
 refine oo [6, 7] [vI 0, vI 0] hr fun a hr => ?_
 refine ln ?_
 refine wp_seq ?_
 refine sr ?_
 obtain ⟨r5, e6, H⟩ := bd1 H
 refine oo [8, 9] [pA B0 0, vI p1] hr fun a hr => ?_
 have hc := cells_Arena_outside_ok (H := e6) (h := h)
 refine cl (wn rfl) hr hc ?_; clear hc h
 rintro _ w ⟨rfl, h⟩; refine ⟨_, rfl, fun a hr => ?_⟩
 refine ln ?_
 refine cV hr H (fun c7 H => ?_) fun c7 H => ?_
 ·
  refine sr ?_
  refine oo [6, 7] [vI 0, vI 20] hr fun a hr => ?_
  refine ln ?_
  refine wp_ret ?_
  refine then_ret ?_
  refine end_ret2 (v := vI 0) (v' := vI 20) rfl hr (by kernel_rfl) (by kernel_rfl) ?_
  obtain ⟨rfl, rfl, rfl⟩ := ej3 H
  exact ⟨ca1, cc2, ca3, cc4, rfl, h⟩
 ·
  refine wp_skip ?_
  refine then_normal ?_
  refine sr ?_
  refine oo [11, 12, 13] [pA B0 0, pA B0 0, pA B0 2] hr fun a hr => ?_
  refine ld (wn rfl) hr (.slice ca1 p0.cell.length cc2) (h.cell 2 rfl) fun a hr => ?_
  obtain ⟨c8, H⟩ := gd H
  refine o1 hr (vI p1) fun a hr => ?_
  refine opv (wn rfl) hr (pA (blk ca1) (p1.toNat * 1)) (ri_row (k := .i64) (E := 2) rfl (by kernel_rfl) (by kernel_rfl) (by kernel_rfl) (by kernel_rfl) (h.pick 1) c8) fun a hr => ?_
  refine ld (wn rfl) hr (vI (at_ p0.cell p1.toNat)) ((h.pick 1).row_cell encZ_i64_ok (f := 0) (at_ok c8) rfl) fun a hr => ?_
  refine oo [18, 19] [vI p2, vI (wi ((at_ p0.cell p1.toNat) + p2))] hr fun a hr => ?_
  refine opv (wn rfl) hr (pA (blk ca1) (p1.toNat * 1)) (ri_row (k := .i64) (E := 2) rfl (by kernel_rfl) (by kernel_rfl) (by kernel_rfl) (by kernel_rfl) (h.pick 1) c8) fun a hr => ?_
  replace h := h.m1
  refine stor (wn rfl) hr encZ_i64_ok h p1.toNat 0 (vI (wi ((at_ p0.cell p1.toNat) + p2))) (at_ p0.cell p1.toNat) (wi ((at_ p0.cell p1.toNat) + p2)) (at_ok c8) fun w h => ?_
  refine ln ?_
  refine sr ?_
  refine oo [21, 22, 23, 24, 25, 26] [pA B0 0, vI p1, vI p2, pA B0 0, pA B0 0, pA B0 2] hr fun a hr => ?_
  refine ld (wn rfl) hr (.slice ca1 p0.cell.length cc2) ((h.pick 1).cell 2 rfl) fun a hr => ?_
  obtain ⟨c9, H⟩ := gd H
  refine o1 hr (vI p1) fun a hr => ?_
  refine opv (wn rfl) hr (pA (blk ca1) (p1.toNat * 1)) (ri_row (k := .i64) (E := 2) rfl (by kernel_rfl) (by kernel_rfl) (by kernel_rfl) (by kernel_rfl) h c9) fun a hr => ?_
  refine ld (wn rfl) hr (vI (wi ((at_ p0.cell p1.toNat) + p2))) (h.row_cell encZ_i64_ok (f := 0) (get_set ((at_okL (by simpa [inr_] using c9)))) rfl) fun a hr => ?_
  have hn9 : p0.cell.length = (p0.cell.set p1.toNat (wi ((at_ p0.cell p1.toNat) + p2))).length := h.row_n; replace h := Fit.ren1 hn9 (fun q_ => rowOf 2 1 encZ_i64 (.slice ca1 q_ cc2) (p0.cell.set p1.toNat (wi ((at_ p0.cell p1.toNat) + p2)))) (fun q_ => pts B0 (.cells #[vI p0.ledger_size, vI p0.ledger_mark, .slice ca1 q_ cc2, .slice ca3 p0.log.length cc4, vI p0.actor, vB p0.watched] 96)) h
  obtain ⟨S11, e12, H⟩ := bd1 H
  replace h := h.m2.m1.m2
  have hc := cells_Arena_note_ok (H := e12) (h := h)
  refine cl (wn rfl) hr hc ?_; clear hc h
  rintro _ w ⟨caq13, ccq14, caq15, ccq16, rfl, h⟩; refine ⟨_, rfl, fun a hr => ?_⟩
  refine ln ?_
  refine sr ?_
  refine oo [32, 33, 34] [pA B0 0, pA B0 0, pA B0 2] hr fun a hr => ?_
  refine ld (wn rfl) hr (.slice caq13 S11.cell.length ccq14) (h.cell 2 rfl) fun a hr => ?_
  obtain ⟨c17, H⟩ := gd H
  refine o1 hr (vI p1) fun a hr => ?_
  refine opv (wn rfl) hr (pA (blk caq13) (p1.toNat * 1)) (ri_row (k := .i64) (E := 2) rfl (by kernel_rfl) (by kernel_rfl) (by kernel_rfl) (by kernel_rfl) (h.pick 1) c17) fun a hr => ?_
  refine ld (wn rfl) hr (vI (at_ S11.cell p1.toNat)) ((h.pick 1).row_cell encZ_i64_ok (f := 0) (at_ok c17) rfl) fun a hr => ?_
  refine oo [6, 7] [vI (at_ S11.cell p1.toNat), vI 0] hr fun a hr => ?_
  refine ln ?_
  refine wp_ret ?_
  refine end_ret2 (v := vI (at_ S11.cell p1.toNat)) (v' := vI 0) rfl hr (by kernel_rfl) (by kernel_rfl) ?_
  obtain ⟨rfl, rfl, rfl⟩ := ej3 H
  exact ⟨caq13, ccq14, caq15, ccq16, rfl, h⟩

/-- (*plunder/cells.ledger).refuse -/
def cells_ledger_refuse (p0 : T_cells_Arena) (p1 : Int) : Option (Int) :=
  (if p1 < 1 then some 21 else (if p1 > (wi (p0.ledger_size - p0.ledger_mark)) then some 22 else some 0))

theorem cells_ledger_refuse_ok {z w : World} {L : List HProp} {p0 : T_cells_Arena} {p1 r0 : Int} {B0 cc2 cc4 : Nat} {ca1 ca3 : Option Addr} (H : cells_ledger_refuse p0 p1 = some r0) (h : Fit z (sepL (ob96 B0 p0 ca1 cc2 ca3 cc4 :: ro2 ca1 cc2 p0.cell :: ro90 ca3 cc4 p0.log :: L)) w)  :
    Calls Try.prog 62 #[pA B0 0, vI p1] w fun e w => e = .returned (vI r0) ∧ Fit z (sepL (ob96 B0 p0 ca1 cc2 ca3 cc4 :: ro2 ca1 cc2 p0.cell :: ro90 ca3 cc4 p0.log :: L)) w := by
 unfold cells_ledger_refuse at H
 refine enter Try.func62 rfl 22 rfl rfl [(0, pA B0 0), (1, vI p1)] ⟨rfl, rfl, trivial⟩ ?_
 intro j a hr
 refine sr ?_
 refine o1 hr (vI 0) fun a hr => ?_
 refine ln ?_
 refine wp_seq ?_
 refine sr ?_
 refine oo [5, 6] [vI p1, vB (decide (p1 < 1))] hr fun a hr => ?_
 refine ln ?_
 refine cD hr H (fun c5 H => ?_) fun c5 H => ?_
 ·
  refine sr ?_
  refine o1 hr (vI 21) fun a hr => ?_
  refine ln ?_
  refine wp_ret ?_
  refine then_ret ?_
  refine end_ret1 (v := vI 21) rfl hr (by kernel_rfl) ?_
  replace H := ej1 H; subst H
  exact ⟨rfl, h⟩
 ·
  refine wp_skip ?_
  refine then_normal ?_
  refine wp_seq ?_
  refine wp_seq ?_
  refine regL [(B0, 0, [vI p0.ledger_size]), (B0, 1, [vI p0.ledger_mark])] [1, 5, 6, 9, 10] 15 h (fun h => ⟨⟨h.cell 0 rfl, trivial⟩, ⟨h.cell 1 rfl, trivial⟩, trivial⟩) fun w h hd => ?_
  refine evs' hd 12 [(0, 7, pA B0 0), (1, 8, vB false), (2, 9, vB false)] hr fun a hr => ?_
  refine eon hd 11 3 rfl (wgt hr (c := false) rfl) hr (vI p1) fun a hr => ?_
  refine eon hd 10 4 rfl (wgt hr (c := false) rfl) hr (pA B0 0) fun a hr => ?_
  refine eon hd 9 5 rfl (wgt hr (c := false) rfl) hr (pA B0 0) fun a hr => ?_
  refine eon hd 8 6 rfl (wgt hr (c := false) rfl) hr (pA B0 0) fun a hr => ?_
  refine eon hd 7 8 rfl (wgt hr (c := false) rfl) hr (pA B0 0) fun a hr => ?_
  refine eon hd 6 9 rfl (wgt hr (c := false) rfl) hr (pA B0 0) fun a hr => ?_
  refine eon hd 5 10 rfl (wgt hr (c := false) rfl) hr (pA B0 1) fun a hr => ?_
  refine elx hd 0 4 7 hr (wgt hr (c := false) rfl) rfl rfl fun a hr => ?_
  refine elx hd 1 3 11 hr (wgt hr (c := false) rfl) rfl rfl fun a hr => ?_
  refine eon hd 2 12 rfl (wgt hr (c := false) rfl) hr (vI (wi (p0.ledger_size - p0.ledger_mark))) fun a hr => ?_
  refine eon hd 1 13 rfl (wgt hr (c := false) rfl) hr (vB (decide (p1 > (wi (p0.ledger_size - p0.ledger_mark))))) fun a hr => ?_
  refine evs' hd 0 [(14, 21, vB (decide (p1 > (wi (p0.ledger_size - p0.ledger_mark)))))] hr fun a hr => ?_
  refine een ?_
  refine then_normal ?_
  refine cD hr H (fun c6 H => ?_) fun c6 H => ?_
  ·
   refine sr ?_
   refine o1 hr (vI 22) fun a hr => ?_
   refine ln ?_
   refine wp_ret ?_
   refine then_ret ?_
   refine end_ret1 (v := vI 22) rfl hr (by kernel_rfl) ?_
   replace H := ej1 H; subst H
   exact ⟨rfl, h⟩
  ·
   refine wp_skip ?_
   refine then_normal ?_
   refine sr ?_
   refine o1 hr (vI 0) fun a hr => ?_
   refine ln ?_
   refine wp_ret ?_
   refine end_ret1 (v := vI 0) rfl hr (by kernel_rfl) ?_
   replace H := ej1 H; subst H
   exact ⟨rfl, h⟩

/-- (*plunder/cells.ledger).take -/
def cells_ledger_take (p0 : T_cells_Arena) (p1 : Int) : Option (Int × T_cells_Arena) :=
  some (p0.ledger_mark, { p0 with ledger_mark := wi (p0.ledger_mark + p1) })

theorem cells_ledger_take_ok {z w : World} {L : List HProp} {p0 q0 : T_cells_Arena} {p1 r0 : Int} {B0 cc2 cc4 : Nat} {ca1 ca3 : Option Addr} (H : cells_ledger_take p0 p1 = some (r0, q0)) (h : Fit z (sepL (ob96 B0 p0 ca1 cc2 ca3 cc4 :: ro2 ca1 cc2 p0.cell :: ro90 ca3 cc4 p0.log :: L)) w)  :
    Calls Try.prog 63 #[pA B0 0, vI p1] w fun e w => ∃ caq0_1 ccq0_2 caq0_3 ccq0_4, e = .returned (vI r0) ∧ Fit z (sepL (ob96 B0 q0 caq0_1 ccq0_2 caq0_3 ccq0_4 :: ro2 caq0_1 ccq0_2 q0.cell :: ro90 caq0_3 ccq0_4 q0.log :: L)) w := by
 unfold cells_ledger_take at H
 refine enter Try.func63 rfl 19 rfl rfl [(0, pA B0 0), (1, vI p1)] ⟨rfl, rfl, trivial⟩ ?_
 intro j a hr
 refine sr ?_
 refine o1 hr (vI 0) fun a hr => ?_
 refine ln ?_
 refine sr ?_
 refine oo [6, 7, 8] [pA B0 0, pA B0 0, pA B0 1] hr fun a hr => ?_
 refine ld (wn rfl) hr (vI p0.ledger_mark) (h.cell 1 rfl) fun a hr => ?_
 refine o1 hr (vI p0.ledger_mark) fun a hr => ?_
 refine ln ?_
 refine sr ?_
 refine oo [10, 11, 12] [pA B0 0, pA B0 0, pA B0 1] hr fun a hr => ?_
 refine ld (wn rfl) hr (vI p0.ledger_mark) (h.cell 1 rfl) fun a hr => ?_
 refine oo [14, 15, 16, 17] [vI p1, vI (wi (p0.ledger_mark + p1)), pA B0 0, pA B0 1] hr fun a hr => ?_
 refine st1 (wn rfl) hr h 1 (vI (wi (p0.ledger_mark + p1))) (pts B0 (.cells #[vI p0.ledger_size, vI (wi (p0.ledger_mark + p1)), .slice ca1 p0.cell.length cc2, .slice ca3 p0.log.length cc4, vI p0.actor, vB p0.watched] 96)) fun w h => ?_
 refine ln ?_
 refine sr ?_
 refine oo [18, 4] [vI p0.ledger_mark, vI p0.ledger_mark] hr fun a hr => ?_
 refine ln ?_
 refine wp_ret ?_
 refine end_ret1 (v := vI p0.ledger_mark) rfl hr (by kernel_rfl) ?_
 obtain ⟨rfl, rfl⟩ := ej2 H
 exact ⟨ca1, cc2, ca3, cc4, rfl, h⟩

/-- (*plunder/cells.Arena).Reserve -/
def cells_Arena_Reserve (p0 : T_cells_Arena) (p1 : Int) : Option (Int × Int × T_cells_Arena) :=
  ob0 (some ()) (ob1 (cells_ledger_refuse p0 p1) (fun r7 => (if r7 = 0 then ob2 (cells_ledger_take p0 p1) (fun r10 S11 => if 0 ≤ p1 ∧ (S11.cell.length + p1.toNat) * 8 ≤ 140737488355328 then ob1 (cells_Arena_note ({ S11 with cell := S11.cell ++ List.replicate p1.toNat (0 : Int) }) 4 r10 p1 0 true) (fun S20 => some (r10, 0, S20)) else none) else some (0, r7, p0))))

theorem cells_Arena_Reserve_ok {z w : World} {L : List HProp} {p0 q0 : T_cells_Arena} {p1 r0 r1 : Int} {B0 cc2 cc4 : Nat} {ca1 ca3 : Option Addr} (H : cells_Arena_Reserve p0 p1 = some (r0, r1, q0)) (h : Fit z (sepL (ob96 B0 p0 ca1 cc2 ca3 cc4 :: ro2 ca1 cc2 p0.cell :: ro90 ca3 cc4 p0.log :: L)) w)  :
    Calls Try.prog 20 #[pA B0 0, vI p1] w fun e w => ∃ caq0_1 ccq0_2 caq0_3 ccq0_4, e = .returned (.tuple #[vI r0, vI r1]) ∧ Fit z (sepL (ob96 B0 q0 caq0_1 ccq0_2 caq0_3 ccq0_4 :: ro2 caq0_1 ccq0_2 q0.cell :: ro90 caq0_3 ccq0_4 q0.log :: L)) w := by
 unfold cells_Arena_Reserve at H
 refine enter Try.func20 rfl 37 rfl rfl [(0, pA B0 0), (1, vI p1)] ⟨rfl, rfl, trivial⟩ ?_
 intro j a hr
 refine sr ?_
 refine oo [4, 5] [vI 0, vI 0] hr fun a hr => ?_
 refine ln ?_
 refine sr ?_
 refine o1 hr (pN) fun a hr => ?_
 refine ln ?_
 obtain ⟨o6, H, hK5⟩ := kd0 H
 refine cut_rule (β := Unit) (fun _ a w => () = o6 ∧ ∃ j, Rep 37 (lk [(0, pA B0 0), (1, vI p1), (6, pA B0 0)] j) a ∧ Fit z (sepL (ob96 B0 p0 ca1 cc2 ca3 cc4 :: ro2 ca1 cc2 p0.cell :: ro90 ca3 cc4 p0.log :: L)) w) ?_ ?_
 ·
  refine sr ?_
  refine oo [9, 10] [pA B0 0, vB true] hr fun a hr => ?_
  refine ln ?_
  refine cond_tt hr (b := true) rfl ?_
  refine wp_region_lit ?_
  refine oo [11, 12, 13, 6] [pA B0 0, pA B0 0, pA B0 0, pA B0 0] hr fun a hr => ?_
  refine ln ?_
  exact ⟨(), sinj H, hr.fj h⟩
 clear h hr a; rintro _ a w ⟨rfl, j, hr, h⟩
 replace H := kk0 hK5
 refine wp_seq ?_
 refine sr ?_
 obtain ⟨r7, e8, H⟩ := bd1 H
 refine oo [14, 15] [pA B0 0, vI p1] hr fun a hr => ?_
 have hc := cells_ledger_refuse_ok (H := e8) (h := h)
 refine cl (wn rfl) hr hc ?_; clear hc h
 rintro _ w ⟨rfl, h⟩; refine ⟨_, rfl, fun a hr => ?_⟩
 refine o1 hr (vI r7) fun a hr => ?_
 refine ln ?_
 refine sr ?_
 refine oo [17, 18] [vI r7, vB (r7 != 0)] hr fun a hr => ?_
 refine ln ?_
 refine cN hr H (fun c9 H => ?_) fun c9 H => ?_
 ·
  refine wp_skip ?_
  refine then_normal ?_
  refine sr ?_
  obtain ⟨r10, S11, e12, H⟩ := bd2 H
  refine oo [20, 21] [pA B0 0, vI p1] hr fun a hr => ?_
  have hc := cells_ledger_take_ok (H := e12) (h := h)
  refine cl (wn rfl) hr hc ?_; clear hc h
  rintro _ w ⟨caq13, ccq14, caq15, ccq16, rfl, h⟩; refine ⟨_, rfl, fun a hr => ?_⟩
  refine o1 hr (vI r10) fun a hr => ?_
  refine ln ?_
  refine sr ?_
  refine oo [23, 24, 25, 26] [pA B0 0, pA B0 0, pA B0 0, pA B0 2] hr fun a hr => ?_
  refine ld (wn rfl) hr (.slice caq13 S11.cell.length ccq14) (h.cell 2 rfl) fun a hr => ?_
  refine o1 hr (vI p1) fun a hr => ?_
  replace h := h.m1
  obtain ⟨c19, H⟩ := gd H
  refine op_extend (kx := .i64) (n0 := S11.cell.length) (i := p1) (m := p1.toNat) (bytes := 8) (zc := #[vI 0]) (0 : Int) (wn rfl) rfl rfl hr rfl (by kernel_rfl) (by kernel_rfl) (Int.toNat_of_nonneg c19.1).symm encZ_i64_ok (E := 2) (xs := S11.cell) (by kernel_rfl) (by kernel_rfl) (by kernel_rfl) rfl h c19.2 rfl fun ca17 cc18 w a h hr => ?_
  refine oo [30, 31] [pA B0 0, pA B0 2] hr fun a hr => ?_
  replace h := h.m1
  refine st1 (wn rfl) hr h 2 (.slice ca17 (S11.cell ++ List.replicate p1.toNat (0 : Int)).length cc18) (pts B0 (.cells #[vI S11.ledger_size, vI S11.ledger_mark, .slice ca17 (S11.cell ++ List.replicate p1.toNat (0 : Int)).length cc18, .slice caq15 S11.log.length ccq16, vI S11.actor, vB S11.watched] 96)) fun w h => ?_
  refine ln ?_
  refine sr ?_
  obtain ⟨S20, e21, H⟩ := bd1 H
  refine oo [32, 33, 34] [pA B0 0, vI r10, vI p1] hr fun a hr => ?_
  have hc := cells_Arena_note_ok (H := e21) (h := h)
  refine cl (wn rfl) hr hc ?_; clear hc h
  rintro _ w ⟨caq22, ccq23, caq24, ccq25, rfl, h⟩; refine ⟨_, rfl, fun a hr => ?_⟩
  refine ln ?_
  refine sr ?_
  refine oo [36, 4, 5] [vI r10, vI r10, vI 0] hr fun a hr => ?_
  refine ln ?_
  refine wp_ret ?_
  refine end_ret2 (v := vI r10) (v' := vI 0) rfl hr (by kernel_rfl) (by kernel_rfl) ?_
  obtain ⟨rfl, rfl, rfl⟩ := ej3 H
  exact ⟨caq22, ccq23, caq24, ccq25, rfl, h⟩
 ·
  refine sr ?_
  refine oo [19, 4, 5] [vI r7, vI 0, vI r7] hr fun a hr => ?_
  refine ln ?_
  refine wp_ret ?_
  refine then_ret ?_
  refine end_ret2 (v := vI 0) (v' := vI r7) rfl hr (by kernel_rfl) (by kernel_rfl) ?_
  obtain ⟨rfl, rfl, rfl⟩ := ej3 H
  exact ⟨ca1, cc2, ca3, cc4, rfl, h⟩

/-- plunder/plunderlaw2.done -/
def plunderlaw2_done (p0 : T_cells_Arena) (p1 : T_plunderlaw2_Move) : Option (T_api_Effect × T_cells_Arena) :=
  (if p1.Kind = 0 then ob3 (cells_Arena_Load p0 p1.Addr) (fun r8 r9 S10 => some ((⟨r8, r9 == 0, r9⟩ : T_api_Effect), S10)) else (if p1.Kind = 1 then ob2 (cells_Arena_Store p0 p1.Addr p1.A) (fun r17 S18 => some ((⟨0, r17 == 0, r17⟩ : T_api_Effect), S18)) else (if p1.Kind = 2 then ob3 (cells_Arena_CAS p0 p1.Addr p1.A p1.B) (fun r25 r26 S27 => some ((⟨0, r25, r26⟩ : T_api_Effect), S27)) else (if p1.Kind = 3 then ob3 (cells_Arena_Add p0 p1.Addr p1.A) (fun r34 r35 S36 => some ((⟨r34, r35 == 0, r35⟩ : T_api_Effect), S36)) else ob3 (cells_Arena_Reserve p0 p1.A) (fun r42 r43 S44 => some ((⟨r42, r43 == 0, r43⟩ : T_api_Effect), S44))))))

theorem plunderlaw2_done_ok {z w : World} {L : List HProp} {p0 q0 : T_cells_Arena} {p1 : T_plunderlaw2_Move} {B0 cc2 cc4 : Nat} {ca1 ca3 : Option Addr} {r0 : T_api_Effect} (H : plunderlaw2_done p0 p1 = some (r0, q0)) (h : Fit z (sepL (ob96 B0 p0 ca1 cc2 ca3 cc4 :: ro2 ca1 cc2 p0.cell :: ro90 ca3 cc4 p0.log :: L)) w)  :
    Calls Try.prog 22 #[pA B0 0, ag_T_plunderlaw2_Move p1] w fun e w => ∃ caq0_1 ccq0_2 caq0_3 ccq0_4, e = .returned (ag_T_api_Effect r0) ∧ Fit z (sepL (ob96 B0 q0 caq0_1 ccq0_2 caq0_3 ccq0_4 :: ro2 caq0_1 ccq0_2 q0.cell :: ro90 caq0_3 ccq0_4 q0.log :: L)) w := by
 unfold plunderlaw2_done at H
 refine enter Try.func22 rfl 86 rfl rfl [(0, pA B0 0), (1, ag_T_plunderlaw2_Move p1)] ⟨rfl, rfl, trivial⟩ ?_
 intro j a hr
 refine sr ?_
 refine onew (wn rfl) hr h nb (ca_T_plunderlaw2_Move p1) 30 fun b5 w a h hr => ?_
 refine onew (wn rfl) hr h nb (#[vI 0, vB false, vI 0]) 39 fun b6 w a h hr => ?_
 refine ln ?_
 refine wp_seq ?_
 refine sr ?_
 refine o1 hr (pA b5 1) fun a hr => ?_
 refine ld (wn rfl) hr (vI p1.Kind) ((h.pick 1).cell 1 rfl) fun a hr => ?_
 refine ln ?_
 refine wp_block ?_
 refine sr ?_
 refine oo [17, 16] [vB (p1.Kind == 0), vB (p1.Kind == 0)] hr fun a hr => ?_
 refine ln ?_
 refine cD hr H (fun c7 H => ?_) fun c7 H => ?_
 ·
  refine sr ?_
  refine oo [19, 20] [pA B0 0, pA b5 2] hr fun a hr => ?_
  refine ld (wn rfl) hr (vI p1.Addr) ((h.pick 1).cell 2 rfl) fun a hr => ?_
  obtain ⟨r8, r9, S10, e11, H⟩ := bd3 H
  replace h := h.m4.m4.m4
  have hc := cells_Arena_Load_ok (H := e11) (h := h)
  refine cl (wn rfl) hr hc ?_; clear hc h
  rintro _ w ⟨caq12, ccq13, caq14, ccq15, rfl, h⟩; refine ⟨_, rfl, fun a hr => ?_⟩
  refine oo [18, 23, 24, 5, 6] [.tuple #[vI r8, vI r9], vI r8, vI r9, vI r8, vI r9] hr fun a hr => ?_
  refine ln ?_
  refine sr ?_
  refine oo [25, 26, 27, 28, 29] [vI r8, vI r9, vB (r9 == 0), vI r9, .agg #[vI r8, vB (r9 == 0), vI r9]] hr fun a hr => ?_
  replace h := h.m3
  refine stm (wn rfl) hr h 0 ([vI r8, vB (r9 == 0), vI r9]) (pts b6 (.cells #[vI r8, vB (r9 == 0), vI r9] 39)) fun w h => ?_
  refine ln ?_
  refine wp_ret ?_
  refine blk_ret ?_
  refine then_ret ?_
  refine end_retC (cs := [vI r8, vB (r9 == 0), vI r9]) rfl hr (by kernel_rfl) (by kernel_rfl) (by kernel_rfl) (h.held 0 rfl) ?_
  obtain ⟨rfl, rfl⟩ := ej2 H
  exact ⟨caq12, ccq13, caq14, ccq15, rfl, h.se 5 [1, 2, 3]⟩
 ·
  refine sr ?_
  refine oo [31, 30] [vB (p1.Kind == 1), vB (p1.Kind == 1)] hr fun a hr => ?_
  refine ln ?_
  refine cD hr H (fun c16 H => ?_) fun c16 H => ?_
  ·
   refine sr ?_
   refine oo [32, 33] [pA B0 0, pA b5 2] hr fun a hr => ?_
   refine ld (wn rfl) hr (vI p1.Addr) ((h.pick 1).cell 2 rfl) fun a hr => ?_
   refine o1 hr (pA b5 3) fun a hr => ?_
   refine ld (wn rfl) hr (vI p1.A) ((h.pick 1).cell 3 rfl) fun a hr => ?_
   obtain ⟨r17, S18, e19, H⟩ := bd2 H
   replace h := h.m4.m4.m4
   have hc := cells_Arena_Store_ok (H := e19) (h := h)
   refine cl (wn rfl) hr hc ?_; clear hc h
   rintro _ w ⟨caq20, ccq21, caq22, ccq23, rfl, h⟩; refine ⟨_, rfl, fun a hr => ?_⟩
   refine o1 hr (vI r17) fun a hr => ?_
   refine ln ?_
   refine sr ?_
   refine oo [38, 39, 40, 41] [vI r17, vB (r17 == 0), vI r17, .agg #[vI 0, vB (r17 == 0), vI r17]] hr fun a hr => ?_
   replace h := h.m3
   refine stm (wn rfl) hr h 0 ([vI 0, vB (r17 == 0), vI r17]) (pts b6 (.cells #[vI 0, vB (r17 == 0), vI r17] 39)) fun w h => ?_
   refine ln ?_
   refine wp_ret ?_
   refine blk_ret ?_
   refine then_ret ?_
   refine end_retC (cs := [vI 0, vB (r17 == 0), vI r17]) rfl hr (by kernel_rfl) (by kernel_rfl) (by kernel_rfl) (h.held 0 rfl) ?_
   obtain ⟨rfl, rfl⟩ := ej2 H
   exact ⟨caq20, ccq21, caq22, ccq23, rfl, h.se 5 [1, 2, 3]⟩
  ·
   refine sr ?_
   refine oo [43, 42] [vB (p1.Kind == 2), vB (p1.Kind == 2)] hr fun a hr => ?_
   refine ln ?_
   refine cD hr H (fun c24 H => ?_) fun c24 H => ?_
   ·
    refine sr ?_
    refine oo [45, 46] [pA B0 0, pA b5 2] hr fun a hr => ?_
    refine ld (wn rfl) hr (vI p1.Addr) ((h.pick 1).cell 2 rfl) fun a hr => ?_
    refine o1 hr (pA b5 3) fun a hr => ?_
    refine ld (wn rfl) hr (vI p1.A) ((h.pick 1).cell 3 rfl) fun a hr => ?_
    refine o1 hr (pA b5 4) fun a hr => ?_
    refine ld (wn rfl) hr (vI p1.B) ((h.pick 1).cell 4 rfl) fun a hr => ?_
    obtain ⟨r25, r26, S27, e28, H⟩ := bd3 H
    replace h := h.m4.m4.m4
    have hc := cells_Arena_CAS_ok (H := e28) (h := h)
    refine cl (wn rfl) hr hc ?_; clear hc h
    rintro _ w ⟨caq29, ccq30, caq31, ccq32, rfl, h⟩; refine ⟨_, rfl, fun a hr => ?_⟩
    refine oo [44, 53, 54, 8, 9] [.tuple #[vB r25, vI r26], vB r25, vI r26, vB r25, vI r26] hr fun a hr => ?_
    refine ln ?_
    refine sr ?_
    refine oo [55, 56, 57] [vB r25, vI r26, .agg #[vI 0, vB r25, vI r26]] hr fun a hr => ?_
    replace h := h.m3
    refine stm (wn rfl) hr h 0 ([vI 0, vB r25, vI r26]) (pts b6 (.cells #[vI 0, vB r25, vI r26] 39)) fun w h => ?_
    refine ln ?_
    refine wp_ret ?_
    refine blk_ret ?_
    refine then_ret ?_
    refine end_retC (cs := [vI 0, vB r25, vI r26]) rfl hr (by kernel_rfl) (by kernel_rfl) (by kernel_rfl) (h.held 0 rfl) ?_
    obtain ⟨rfl, rfl⟩ := ej2 H
    exact ⟨caq29, ccq30, caq31, ccq32, rfl, h.se 5 [1, 2, 3]⟩
   ·
    refine sr ?_
    refine oo [59, 58] [vB (p1.Kind == 3), vB (p1.Kind == 3)] hr fun a hr => ?_
    refine ln ?_
    refine cD hr H (fun c33 H => ?_) fun c33 H => ?_
    ·
     refine sr ?_
     refine oo [61, 62] [pA B0 0, pA b5 2] hr fun a hr => ?_
     refine ld (wn rfl) hr (vI p1.Addr) ((h.pick 1).cell 2 rfl) fun a hr => ?_
     refine o1 hr (pA b5 3) fun a hr => ?_
     refine ld (wn rfl) hr (vI p1.A) ((h.pick 1).cell 3 rfl) fun a hr => ?_
     obtain ⟨r34, r35, S36, e37, H⟩ := bd3 H
     replace h := h.m4.m4.m4
     have hc := cells_Arena_Add_ok (H := e37) (h := h)
     refine cl (wn rfl) hr hc ?_; clear hc h
     rintro _ w ⟨caq38, ccq39, caq40, ccq41, rfl, h⟩; refine ⟨_, rfl, fun a hr => ?_⟩
     refine oo [60, 67, 68, 10, 11] [.tuple #[vI r34, vI r35], vI r34, vI r35, vI r34, vI r35] hr fun a hr => ?_
     refine ln ?_
     refine sr ?_
     refine oo [69, 70, 71, 72, 73] [vI r34, vI r35, vB (r35 == 0), vI r35, .agg #[vI r34, vB (r35 == 0), vI r35]] hr fun a hr => ?_
     replace h := h.m3
     refine stm (wn rfl) hr h 0 ([vI r34, vB (r35 == 0), vI r35]) (pts b6 (.cells #[vI r34, vB (r35 == 0), vI r35] 39)) fun w h => ?_
     refine ln ?_
     refine wp_ret ?_
     refine blk_ret ?_
     refine then_ret ?_
     refine end_retC (cs := [vI r34, vB (r35 == 0), vI r35]) rfl hr (by kernel_rfl) (by kernel_rfl) (by kernel_rfl) (h.held 0 rfl) ?_
     obtain ⟨rfl, rfl⟩ := ej2 H
     exact ⟨caq38, ccq39, caq40, ccq41, rfl, h.se 5 [1, 2, 3]⟩
    ·
     refine wp_skip ?_
     refine blk_normal ?_
     refine then_normal ?_
     refine sr ?_
     refine oo [75, 76] [pA B0 0, pA b5 3] hr fun a hr => ?_
     refine ld (wn rfl) hr (vI p1.A) ((h.pick 1).cell 3 rfl) fun a hr => ?_
     obtain ⟨r42, r43, S44, e45, H⟩ := bd3 H
     replace h := h.m4.m4.m4
     have hc := cells_Arena_Reserve_ok (H := e45) (h := h)
     refine cl (wn rfl) hr hc ?_; clear hc h
     rintro _ w ⟨caq46, ccq47, caq48, ccq49, rfl, h⟩; refine ⟨_, rfl, fun a hr => ?_⟩
     refine oo [74, 79, 80, 12, 13] [.tuple #[vI r42, vI r43], vI r42, vI r43, vI r42, vI r43] hr fun a hr => ?_
     refine ln ?_
     refine sr ?_
     refine oo [81, 82, 83, 84, 85] [vI r42, vI r43, vB (r43 == 0), vI r43, .agg #[vI r42, vB (r43 == 0), vI r43]] hr fun a hr => ?_
     replace h := h.m3
     refine stm (wn rfl) hr h 0 ([vI r42, vB (r43 == 0), vI r43]) (pts b6 (.cells #[vI r42, vB (r43 == 0), vI r43] 39)) fun w h => ?_
     refine ln ?_
     refine wp_ret ?_
     refine end_retC (cs := [vI r42, vB (r43 == 0), vI r43]) rfl hr (by kernel_rfl) (by kernel_rfl) (by kernel_rfl) (h.held 0 rfl) ?_
     obtain ⟨rfl, rfl⟩ := ej2 H
     exact ⟨caq46, ccq47, caq48, ccq49, rfl, h.se 5 [1, 2, 3]⟩

/-- plunder/plunderlaw2.act -/
def plunderlaw2_act (p0 : T_plunderlaw2_Move) : Option (T_api_Act) :=
  some (⟨0, p0.Kind, p0.Addr, p0.A, p0.B⟩ : T_api_Act)

theorem plunderlaw2_act_ok {z w : World} {L : List HProp} {p0 : T_plunderlaw2_Move} {r0 : T_api_Act} (H : plunderlaw2_act p0 = some r0) (h : Fit z (sepL (L)) w)  :
    Calls Try.prog 31 #[ag_T_plunderlaw2_Move p0] w fun e w => e = .returned (ag_T_api_Act r0) ∧ Fit z (sepL (L)) w := by
 unfold plunderlaw2_act at H
 refine enter Try.func31 rfl 12 rfl rfl [(0, ag_T_plunderlaw2_Move p0)] ⟨rfl, trivial⟩ ?_
 intro j a hr
 refine sr ?_
 refine onew (wn rfl) hr h nb (ca_T_plunderlaw2_Move p0) 30 fun b1 w a h hr => ?_
 refine onew (wn rfl) hr h nb (#[vI 0, vI 0, vI 0, vI 0, vI 0]) 57 fun b2 w a h hr => ?_
 refine ln ?_
 refine sr ?_
 refine o1 hr (pA b1 1) fun a hr => ?_
 refine ld (wn rfl) hr (vI p0.Kind) ((h.pick 1).cell 1 rfl) fun a hr => ?_
 refine o1 hr (pA b1 2) fun a hr => ?_
 refine ld (wn rfl) hr (vI p0.Addr) ((h.pick 1).cell 2 rfl) fun a hr => ?_
 refine o1 hr (pA b1 3) fun a hr => ?_
 refine ld (wn rfl) hr (vI p0.A) ((h.pick 1).cell 3 rfl) fun a hr => ?_
 refine o1 hr (pA b1 4) fun a hr => ?_
 refine ld (wn rfl) hr (vI p0.B) ((h.pick 1).cell 4 rfl) fun a hr => ?_
 refine o1 hr (.agg #[vI 0, vI p0.Kind, vI p0.Addr, vI p0.A, vI p0.B]) fun a hr => ?_
 refine stm (wn rfl) hr h 0 ([vI 0, vI p0.Kind, vI p0.Addr, vI p0.A, vI p0.B]) (pts b2 (.cells #[vI 0, vI p0.Kind, vI p0.Addr, vI p0.A, vI p0.B] 57)) fun w h => ?_
 refine ln ?_
 refine wp_ret ?_
 refine end_retC (cs := [vI 0, vI p0.Kind, vI p0.Addr, vI p0.A, vI p0.B]) rfl hr (by kernel_rfl) (by kernel_rfl) (by kernel_rfl) (h.held 0 rfl) ?_
 replace H := ej1 H; subst H
 exact ⟨rfl, h.se 2 []⟩

/-- plunder/plunderref2.refused -/
def plunderref2_refused (p0 : Int) : Option (T_api_Effect) :=
  some (⟨0, false, p0⟩ : T_api_Effect)

theorem plunderref2_refused_ok {z w : World} {L : List HProp} {p0 : Int} {r0 : T_api_Effect} (H : plunderref2_refused p0 = some r0) (h : Fit z (sepL (L)) w)  :
    Calls Try.prog 78 #[vI p0] w fun e w => e = .returned (ag_T_api_Effect r0) ∧ Fit z (sepL (L)) w := by
 unfold plunderref2_refused at H
 refine enter Try.func78 rfl 5 rfl rfl [(0, vI p0)] ⟨rfl, trivial⟩ ?_
 intro j a hr
 refine sr ?_
 refine onew (wn rfl) hr h nb (#[vI 0, vB false, vI 0]) 39 fun b1 w a h hr => ?_
 refine ln ?_
 refine sr ?_
 refine oo [3, 4] [vI p0, .agg #[vI 0, vB false, vI p0]] hr fun a hr => ?_
 refine stm (wn rfl) hr h 0 ([vI 0, vB false, vI p0]) (pts b1 (.cells #[vI 0, vB false, vI p0] 39)) fun w h => ?_
 refine ln ?_
 refine wp_ret ?_
 refine end_retC (cs := [vI 0, vB false, vI p0]) rfl hr (by kernel_rfl) (by kernel_rfl) (by kernel_rfl) (h.held 0 rfl) ?_
 replace H := ej1 H; subst H
 exact ⟨rfl, h.se 1 []⟩

/-- (*plunder/plunderref2.Arena).note -/
def plunderref2_Arena_note (p0 : T_plunderref2_Arena) (p1 : T_api_Access) : Option (T_plunderref2_Arena) :=
  (if p0.On = true then if (p0.Book.length + 1) * 48 ≤ 140737488355328 then some ({ p0 with Book := p0.Book ++ [p1] }) else none else some p0)

theorem plunderref2_Arena_note_ok {z w : World} {L : List HProp} {p0 q0 : T_plunderref2_Arena} {p1 : T_api_Access} {B0 cc2 cc4 : Nat} {ca1 ca3 : Option Addr} (H : plunderref2_Arena_note p0 p1 = some q0) (h : Fit z (sepL (ob62 B0 p0 ca1 cc2 ca3 cc4 :: ro2 ca1 cc2 p0.Held :: ro90 ca3 cc4 p0.Book :: L)) w)  :
    Calls Try.prog 80 #[pA B0 0, ag_T_api_Access p1] w fun e w => ∃ caq0_1 ccq0_2 caq0_3 ccq0_4, e = .returned (.tuple #[]) ∧ Fit z (sepL (ob62 B0 q0 caq0_1 ccq0_2 caq0_3 ccq0_4 :: ro2 caq0_1 ccq0_2 q0.Held :: ro90 caq0_3 ccq0_4 q0.Book :: L)) w := by
 unfold plunderref2_Arena_note at H
 refine enter Try.func80 rfl 18 rfl rfl [(0, pA B0 0), (1, ag_T_api_Access p1)] ⟨rfl, rfl, trivial⟩ ?_
 intro j a hr
 refine sr ?_
 refine onew (wn rfl) hr h nb (ca_T_api_Access p1) 90 fun b5 w a h hr => ?_
 refine ln ?_
 refine sr ?_
 refine oo [4, 5, 6] [pA B0 0, pA B0 0, pA B0 2] hr fun a hr => ?_
 refine ld (wn rfl) hr (vB p0.On) ((h.pick 1).cell 2 rfl) fun a hr => ?_
 refine ln ?_
 refine cV hr H (fun c6 H => ?_) fun c6 H => ?_
 ·
  obtain ⟨c10, H⟩ := gd H
  refine regL [(B0, 4, [.slice ca3 p0.Book.length cc4]), (b5, 0, cl_T_api_Access p1)] [2, 3] 11 h (fun h => ⟨⟨(h.pick 1).cell 4 rfl, trivial⟩, (h.held 0 rfl), trivial⟩) fun w h hd => ?_
  refine evs' hd 7 [(0, 8, pA B0 0), (1, 9, pA B0 0), (2, 10, pA B0 0), (3, 11, pA B0 4)] hr fun a hr => ?_
  refine elx hd 0 6 4 hr (wn rfl) rfl rfl fun a hr => ?_
  refine elm hd 1 5 5 hr (wn rfl) rfl rfl fun a hr => ?_
  refine eo1 6 rfl ?_
  refine onew (wn rfl) hr h (fun b => .slice (some ⟨b, 0, none⟩) 1 1) (ca_T_api_Access p1) 90 fun b7 w a h hr => ?_
  refine ln ?_
  refine xE ?_
  refine eo1 7 rfl ?_
  replace h := h.m4
  refine op_append (n0 := p0.Book.length) (c := 1) (bytes := 48) (wn rfl) rfl rfl hr rfl (by kernel_rfl) (by kernel_rfl) enc_T_api_Access_ok (E := 90) (xs := p0.Book) (by kernel_rfl) (by kernel_rfl) h (news := [p1]) (m := 1) rfl ((h.pick 1).news rfl) c10 rfl fun ca8 cc9 w a h hr => ?_
  refine ln ?_
  refine xE ?_
  refine evs 2 8 rfl (wn rfl) hr (pA B0 0) fun a hr => ?_
  refine evs 1 9 rfl (wn rfl) hr (pA B0 4) fun a hr => ?_
  refine eo1 10 rfl ?_
  replace h := h.m3
  refine st1 (wn rfl) hr h 4 (.slice ca8 (p0.Book ++ [p1]).length cc9) (pts B0 (.cells #[vI p0.Most, .slice ca1 p0.Held.length cc2, vB p0.On, vI p0.Actor, .slice ca8 (p0.Book ++ [p1]).length cc9] 62)) fun w h => ?_
  refine ln ?_
  refine xE ?_
  refine een ?_
  refine end_norm0 rfl hr ?_
  replace H := ej1 H; subst H
  exact ⟨ca1, cc2, ca8, cc9, rfl, h.se 5 [0, 4, 1]⟩
 ·
  refine wp_skip ?_
  refine end_norm0 rfl hr ?_
  replace H := ej1 H; subst H
  exact ⟨ca1, cc2, ca3, cc4, rfl, h.se 4 [1, 2, 3]⟩

def plunderref2_Arena_reserve_l1 (K : Nat) (p1 : Int) : Nat → (List Int) → Int → Option ((List Int))
  | 0, _, _ => none
  | k1 + 1, l19, g20 => (if g20 < p1 then if (l19.length + 1) * 8 ≤ 140737488355328 then (plunderref2_Arena_reserve_l1 K p1 k1 (l19 ++ [0]) (wi (g20 + 1))) else none else some l19)
/-- (*plunder/plunderref2.Arena).reserve -/
def plunderref2_Arena_reserve (K : Nat) (p0 : T_plunderref2_Arena) (p1 : Int) : Option (T_api_Effect × T_plunderref2_Arena) :=
  (if p1 < 1 then ob1 (plunderref2_refused 21) (fun r7 => some (r7, p0)) else (if p1 > (wi (p0.Most - ((p0.Held.length : Nat) : Int))) then ob1 (plunderref2_refused 22) (fun r10 => some (r10, p0)) else ob1 ((plunderref2_Arena_reserve_l1 K p1 K p0.Held 0)) (fun l14 => ob1 (plunderref2_Arena_note ({ p0 with Held := l14 }) (⟨p0.Actor, 4, ((p0.Held.length : Nat) : Int), p1, 0, true⟩ : T_api_Access)) (fun S26 => some ((⟨((p0.Held.length : Nat) : Int), true, 0⟩ : T_api_Effect), S26)))))

theorem plunderref2_Arena_reserve_ok {z w : World} {L : List HProp} {K : Nat} {p0 q0 : T_plunderref2_Arena} {p1 : Int} {B0 cc2 cc4 : Nat} {ca1 ca3 : Option Addr} {r0 : T_api_Effect} (H : plunderref2_Arena_reserve K p0 p1 = some (r0, q0)) (h : Fit z (sepL (ob62 B0 p0 ca1 cc2 ca3 cc4 :: ro2 ca1 cc2 p0.Held :: ro90 ca3 cc4 p0.Book :: L)) w)  :
    Calls Try.prog 79 #[pA B0 0, vI p1] w fun e w => ∃ caq0_1 ccq0_2 caq0_3 ccq0_4, e = .returned (ag_T_api_Effect r0) ∧ Fit z (sepL (ob62 B0 q0 caq0_1 ccq0_2 caq0_3 ccq0_4 :: ro2 caq0_1 ccq0_2 q0.Held :: ro90 caq0_3 ccq0_4 q0.Book :: L)) w := by
 unfold plunderref2_Arena_reserve at H
 refine enter Try.func79 rfl 53 rfl rfl [(0, pA B0 0), (1, vI p1)] ⟨rfl, rfl, trivial⟩ ?_
 intro j a hr
 refine sr ?_
 refine onew (wn rfl) hr h nb (#[vI 0, vB false, vI 0]) 39 fun b5 w a h hr => ?_
 refine ln ?_
 refine wp_seq ?_
 refine sr ?_
 refine oo [7, 8] [vI p1, vB (decide (p1 < 1))] hr fun a hr => ?_
 refine ln ?_
 refine cD hr H (fun c6 H => ?_) fun c6 H => ?_
 ·
  refine sr ?_
  obtain ⟨r7, e8, H⟩ := bd1 H
  have hc := plunderref2_refused_ok (H := e8) (h := h)
  refine cl (wn rfl) hr hc ?_; clear hc h
  rintro _ w ⟨rfl, h⟩; refine ⟨_, rfl, fun a hr => ?_⟩
  refine stm (wn rfl) hr h 0 (cl_T_api_Effect r7) (ob39 b5 r7) fun w h => ?_
  refine ln ?_
  refine wp_ret ?_
  refine then_ret ?_
  refine end_retC (cs := cl_T_api_Effect r7) rfl hr (by kernel_rfl) (by kernel_rfl) (by kernel_rfl) (h.held 0 rfl) ?_
  obtain ⟨rfl, rfl⟩ := ej2 H
  exact ⟨ca1, cc2, ca3, cc4, rfl, h.se 4 [1, 2, 3]⟩
 ·
  refine wp_skip ?_
  refine then_normal ?_
  refine wp_seq ?_
  refine wp_seq ?_
  refine regL [(B0, 0, [vI p0.Most]), (B0, 1, [.slice ca1 p0.Held.length cc2])] [2, 3, 6, 7, 9] 12 h (fun h => ⟨⟨(h.pick 1).cell 0 rfl, trivial⟩, ⟨(h.pick 1).cell 1 rfl, trivial⟩, trivial⟩) fun w h hd => ?_
  refine evs' hd 5 [(0, 10, vI p1), (1, 11, pA B0 0), (2, 12, pA B0 0), (3, 13, pA B0 0), (5, 15, pA B0 0), (6, 16, pA B0 0), (7, 17, pA B0 1)] hr fun a hr => ?_
  refine elx hd 0 4 4 hr (wn rfl) rfl rfl fun a hr => ?_
  refine elx hd 1 3 8 hr (wn rfl) rfl rfl fun a hr => ?_
  refine evs' hd 0 [(9, 19, vI ((p0.Held.length : Nat) : Int)), (10, 20, vI (wi (p0.Most - ((p0.Held.length : Nat) : Int)))), (11, 21, vB (decide (p1 > (wi (p0.Most - ((p0.Held.length : Nat) : Int))))))] hr fun a hr => ?_
  refine een ?_
  refine then_normal ?_
  refine cD hr H (fun c9 H => ?_) fun c9 H => ?_
  ·
   refine sr ?_
   obtain ⟨r10, e11, H⟩ := bd1 H
   have hc := plunderref2_refused_ok (H := e11) (h := h)
   refine cl (wn rfl) hr hc ?_; clear hc h
   rintro _ w ⟨rfl, h⟩; refine ⟨_, rfl, fun a hr => ?_⟩
   refine stm (wn rfl) hr h 0 (cl_T_api_Effect r10) (ob39 b5 r10) fun w h => ?_
   refine ln ?_
   refine wp_ret ?_
   refine then_ret ?_
   refine end_retC (cs := cl_T_api_Effect r10) rfl hr (by kernel_rfl) (by kernel_rfl) (by kernel_rfl) (h.held 0 rfl) ?_
   obtain ⟨rfl, rfl⟩ := ej2 H
   exact ⟨ca1, cc2, ca3, cc4, rfl, h.se 4 [1, 2, 3]⟩
  ·
   refine wp_skip ?_
   refine then_normal ?_
   refine sr ?_
   refine oo [23, 24, 25] [pA B0 0, pA B0 0, pA B0 1] hr fun a hr => ?_
   refine ld (wn rfl) hr (.slice ca1 p0.Held.length cc2) ((h.pick 1).cell 1 rfl) fun a hr => ?_
   refine oo [27, 5] [vI ((p0.Held.length : Nat) : Int), vI ((p0.Held.length : Nat) : Int)] hr fun a hr => ?_
   refine ln ?_
   obtain ⟨o16, H, hK15⟩ := kd1 H
   refine cut_rule (β := Unit) (fun _ a w => ∃ ca12 : Option Addr, ∃ cc13 : Nat, ∃ l14 : List Int, l14 = o16 ∧ ∃ j, Rep 53 (lk [(0, pA B0 0), (1, vI p1), (4, pA b5 0), (5, vI ((p0.Held.length : Nat) : Int))] j) a ∧ Fit z (sepL (pts B0 (.cells #[vI p0.Most, .slice ca12 l14.length cc13, vB p0.On, vI p0.Actor, .slice ca3 p0.Book.length cc4] 62) :: ro2 ca12 cc13 l14 :: ro90 ca3 cc4 p0.Book :: pts b5 (.cells #[vI 0, vB false, vI 0] 39) :: L)) w) ?_ ?_
   ·
    refine sr ?_
    refine o1 hr (vI 0) fun a hr => ?_
    refine ln ?_
    refine wp_block ?_
    refine loop_rule (β := Nat) id (fun m a w => ∃ ca17 : Option Addr, ∃ cc18 : Nat, ∃ l19 : List Int, ∃ g20 : Int, (plunderref2_Arena_reserve_l1 K p1 m l19 g20) = some o16 ∧ ∃ j, Rep 53 (lk [(0, pA B0 0), (1, vI p1), (4, pA b5 0), (5, vI ((p0.Held.length : Nat) : Int)), (6, vI g20)] j) a ∧ Fit z (sepL (pts B0 (.cells #[vI p0.Most, .slice ca17 l19.length cc18, vB p0.On, vI p0.Actor, .slice ca3 p0.Book.length cc4] 62) :: ro2 ca17 cc18 l19 :: ro90 ca3 cc4 p0.Book :: pts b5 (.cells #[vI 0, vB false, vI 0] 39) :: L)) w) K ⟨ca1, cc2, p0.Held, 0, H, hr.fj (h.se 4 [1, 2, 3, 0])⟩ ?_
    clear h hr a H; rintro k1 a w ⟨ca17, cc18, l19, g20, H, j, hr, h⟩
    cases k1 with
    | zero => exact absurd H (by simp [plunderref2_Arena_reserve_l1])
    | succ k1 =>
     rw [plunderref2_Arena_reserve_l1] at H
     refine wp_seq ?_
     refine sr ?_
     refine oo [28, 29, 30] [vI g20, vI p1, vB (decide (g20 < p1))] hr fun a hr => ?_
     refine ln ?_
     refine cD hr H (fun c21 H => ?_) fun c21 H => ?_
     ·
      refine wp_skip ?_
      refine then_normal ?_
      refine wp_seq ?_
      refine wp_block ?_
      refine wp_region_lit ?_
      refine oo [33, 34, 35, 36] [pA B0 0, pA B0 0, pA B0 0, pA B0 1] hr fun a hr => ?_
      refine ld (wn rfl) hr (.slice ca17 l19.length cc18) (h.cell 1 rfl) fun a hr => ?_
      refine onew (wn rfl) hr h (fun b => .slice (some ⟨b, 0, none⟩) 1 1) (#[vI 0]) 2 fun b22 w a h hr => ?_
      replace h := h.m2
      obtain ⟨c25, H⟩ := gd H
      refine op_append (n0 := l19.length) (c := 1) (bytes := 8) (wn rfl) rfl rfl hr rfl (by kernel_rfl) (by kernel_rfl) encZ_i64_ok (E := 2) (xs := l19) (by kernel_rfl) (by kernel_rfl) h (news := [0]) (m := 1) rfl ((h.pick 1).news rfl) c25 rfl fun ca23 cc24 w a h hr => ?_
      refine oo [40, 41] [pA B0 0, pA B0 1] hr fun a hr => ?_
      replace h := h.m2
      refine st1 (wn rfl) hr h 1 (.slice ca23 (l19 ++ [0]).length cc24) (pts B0 (.cells #[vI p0.Most, .slice ca23 (l19 ++ [0]).length cc24, vB p0.On, vI p0.Actor, .slice ca3 p0.Book.length cc4] 62)) fun w h => ?_
      refine wpList_nil ?_
      refine blk_normal ?_
      refine then_normal ?_
      refine wp_region_lit ?_
      refine oo [31, 32, 6] [vI g20, vI (wi (g20 + 1)), vI (wi (g20 + 1))] hr fun a hr => ?_
      refine ln ?_
      exact ⟨_, ⟨ca23, cc24, (l19 ++ [0]), (wi (g20 + 1)), H, hr.fj (h.se 5 [0, 1, 3, 4])⟩, Nat.lt_succ_self _⟩
     ·
      refine wp_exit ?_
      refine then_exit ?_
      refine then_exit ?_
      refine blk_here ?_
      refine then_normal ?_
      exact ⟨(), ca17, cc18, l19, sinj H, hr.fj h⟩
   clear h hr a; rintro _ a w ⟨ca12, cc13, l14, rfl, j, hr, h⟩
   replace H := kk1 hK15
   refine sr ?_
   refine oo [42, 43, 44, 45] [pA B0 0, pA B0 0, pA B0 0, pA B0 3] hr fun a hr => ?_
   refine ld (wn rfl) hr (vI p0.Actor) (h.cell 3 rfl) fun a hr => ?_
   obtain ⟨S26, e27, H⟩ := bd1 H
   refine oo [47, 48, 49] [vI ((p0.Held.length : Nat) : Int), vI p1, .agg #[vI p0.Actor, vI 4, vI ((p0.Held.length : Nat) : Int), vI p1, vI 0, vB true]] hr fun a hr => ?_
   have hc := plunderref2_Arena_note_ok (H := e27) (h := h)
   refine cl (wn rfl) hr hc ?_; clear hc h
   rintro _ w ⟨caq28, ccq29, caq30, ccq31, rfl, h⟩; refine ⟨_, rfl, fun a hr => ?_⟩
   refine ln ?_
   refine sr ?_
   refine oo [51, 52] [vI ((p0.Held.length : Nat) : Int), .agg #[vI ((p0.Held.length : Nat) : Int), vB true, vI 0]] hr fun a hr => ?_
   replace h := h.m3
   refine stm (wn rfl) hr h 0 ([vI ((p0.Held.length : Nat) : Int), vB true, vI 0]) (pts b5 (.cells #[vI ((p0.Held.length : Nat) : Int), vB true, vI 0] 39)) fun w h => ?_
   refine ln ?_
   refine wp_ret ?_
   refine end_retC (cs := [vI ((p0.Held.length : Nat) : Int), vB true, vI 0]) rfl hr (by kernel_rfl) (by kernel_rfl) (by kernel_rfl) (h.held 0 rfl) ?_
   obtain ⟨rfl, rfl⟩ := ej2 H
   exact ⟨caq28, ccq29, caq30, ccq31, rfl, h.se 4 [1, 2, 3]⟩

/-- (*plunder/plunderref2.Arena).Do -/
def plunderref2_Arena_Do (K : Nat) (p0 : T_plunderref2_Arena) (p1 : T_api_Act) : Option (T_api_Effect × T_plunderref2_Arena) :=
  jn0 ((if p1.Kind < 0 then ob1 (plunderref2_refused 23) (fun r10 => some (.inr (r10, p0))) else (if p1.Kind > 4 then ob1 (plunderref2_refused 23) (fun r13 => some (.inr (r13, p0))) else some (.inl ())))) ((if p1.Kind = 4 then ob2 (plunderref2_Arena_reserve K p0 p1.A) (fun r16 S17 => some (r16, S17)) else jn0 ((if p1.Addr < 0 then ob1 (plunderref2_refused 20) (fun r27 => some (.inr (r27, p0))) else (if p1.Addr ≥ ((p0.Held.length : Nat) : Int) then ob1 (plunderref2_refused 20) (fun r30 => some (.inr (r30, p0))) else some (.inl ())))) (if inr_ p1.Addr p0.Held.length then (if p1.Kind = 0 then ob1 (plunderref2_Arena_note p0 (⟨p0.Actor, p1.Kind, p1.Addr, (at_ p0.Held p1.Addr.toNat), 0, true⟩ : T_api_Access)) (fun S36 => some ((⟨(at_ p0.Held p1.Addr.toNat), true, 0⟩ : T_api_Effect), S36)) else (if p1.Kind = 1 then ob1 (plunderref2_Arena_note ({ p0 with Held := p0.Held.set p1.Addr.toNat p1.A }) (⟨p0.Actor, p1.Kind, p1.Addr, p1.A, 0, true⟩ : T_api_Access)) (fun S44 => some ((⟨0, true, 0⟩ : T_api_Effect), S44)) else (if p1.Kind = 2 then (if (at_ p0.Held p1.Addr.toNat) = p1.A then ob1 (plunderref2_Arena_note ({ p0 with Held := p0.Held.set p1.Addr.toNat p1.B }) (⟨p0.Actor, p1.Kind, p1.Addr, p1.A, p1.B, (at_ p0.Held p1.Addr.toNat) == p1.A⟩ : T_api_Access)) (fun S53 => some ((⟨0, (at_ p0.Held p1.Addr.toNat) == p1.A, 0⟩ : T_api_Effect), S53)) else ob1 (plunderref2_Arena_note p0 (⟨p0.Actor, p1.Kind, p1.Addr, p1.A, p1.B, (at_ p0.Held p1.Addr.toNat) == p1.A⟩ : T_api_Access)) (fun S59 => some ((⟨0, (at_ p0.Held p1.Addr.toNat) == p1.A, 0⟩ : T_api_Effect), S59))) else ob1 (plunderref2_Arena_note ({ p0 with Held := p0.Held.set p1.Addr.toNat (wi ((at_ p0.Held p1.Addr.toNat) + p1.A)) }) (⟨p0.Actor, p1.Kind, p1.Addr, p1.A, wi ((at_ p0.Held p1.Addr.toNat) + p1.A), true⟩ : T_api_Access)) (fun S66 => some ((⟨wi ((at_ p0.Held p1.Addr.toNat) + p1.A), true, 0⟩ : T_api_Effect), S66))))) else none)))

theorem plunderref2_Arena_Do_ok {z w : World} {L : List HProp} {K : Nat} {p0 q0 : T_plunderref2_Arena} {p1 : T_api_Act} {B0 cc2 cc4 : Nat} {ca1 ca3 : Option Addr} {r0 : T_api_Effect} (H : plunderref2_Arena_Do K p0 p1 = some (r0, q0)) (h : Fit z (sepL (ob62 B0 p0 ca1 cc2 ca3 cc4 :: ro2 ca1 cc2 p0.Held :: ro90 ca3 cc4 p0.Book :: L)) w)  :
    Calls Try.prog 30 #[pA B0 0, ag_T_api_Act p1] w fun e w => ∃ caq0_1 ccq0_2 caq0_3 ccq0_4, e = .returned (ag_T_api_Effect r0) ∧ Fit z (sepL (ob62 B0 q0 caq0_1 ccq0_2 caq0_3 ccq0_4 :: ro2 caq0_1 ccq0_2 q0.Held :: ro90 caq0_3 ccq0_4 q0.Book :: L)) w := by
 unfold plunderref2_Arena_Do at H
 refine enter Try.func30 rfl 139 rfl rfl [(0, pA B0 0), (1, ag_T_api_Act p1)] ⟨rfl, rfl, trivial⟩ ?_
 intro j a hr
 refine sr ?_
 refine onew (wn rfl) hr h nb (ca_T_api_Act p1) 57 fun b5 w a h hr => ?_
 refine onew (wn rfl) hr h nb (#[vI 0, vB false, vI 0]) 39 fun b6 w a h hr => ?_
 refine ln ?_
 obtain ⟨o8, H, hK7⟩ := jd0 H
 refine cut_rule (β := Unit) (fun _ a w => .inl () = o8 ∧ ∃ j, Rep 139 (lk [(0, pA B0 0), (3, pA b5 0), (4, pA b6 0)] j) a ∧ Fit z (sepL (ob62 B0 p0 ca1 cc2 ca3 cc4 :: ro2 ca1 cc2 p0.Held :: ro90 ca3 cc4 p0.Book :: ob57 b5 p1 :: pts b6 (.cells #[vI 0, vB false, vI 0] 39) :: L)) w) ?_ ?_
 ·
  refine sr ?_
  refine o1 hr (pA b5 1) fun a hr => ?_
  refine ld (wn rfl) hr (vI p1.Kind) ((h.pick 1).cell 1 rfl) fun a hr => ?_
  refine oo [11, 12] [vB (decide (p1.Kind < 0)), vB (decide (p1.Kind < 0))] hr fun a hr => ?_
  by_cases c9 : p1.Kind < 0
  ·
   replace H := ifT c9 H
   refine offl (decide_eq_true c9) [13, 14, 15] hr fun a hr => ?_
   refine opv (wn rfl) hr (vB true) (rp_t (b := (decide (p1.Kind < 0))) rfl (by kernel_rfl) (decide_eq_true c9) (by kernel_rfl)) fun a hr => ?_
   refine ln ?_
   refine cond_tt hr (b := true) rfl ?_
   refine sr ?_
   obtain ⟨r10, e11, H⟩ := bd1 H
   have hc := plunderref2_refused_ok (H := e11) (h := h)
   refine cl (wn rfl) hr hc ?_; clear hc h
   rintro _ w ⟨rfl, h⟩; refine ⟨_, rfl, fun a hr => ?_⟩
   refine stm (wn rfl) hr h 0 (cl_T_api_Effect r10) (ob39 b6 r10) fun w h => ?_
   refine ln ?_
   refine wp_ret ?_
   refine then_ret ?_
   refine end_retC (cs := cl_T_api_Effect r10) rfl hr (by kernel_rfl) (by kernel_rfl) (by kernel_rfl) (h.held 0 rfl) ?_
   replace H := jx0 H hK7
   obtain ⟨rfl, rfl⟩ := ej2 H
   exact ⟨ca1, cc2, ca3, cc4, rfl, h.se 5 [2, 3, 4]⟩
  ·
   replace H := ifF c9 H
   refine onl (decide_eq_false c9) [13] [pA b5 1] hr fun a hr => ?_
   refine ld (wgt hr (decide_eq_false c9)) hr (vI p1.Kind) ((h.pick 1).cell 1 rfl) fun a hr => ?_
   refine onl (decide_eq_false c9) [15] [vB (decide (p1.Kind > 4))] hr fun a hr => ?_
   refine opv (wn rfl) hr (vB (decide (p1.Kind > 4))) (rp_f (b := (decide (p1.Kind < 0))) rfl (by kernel_rfl) (decide_eq_false c9) (by kernel_rfl)) fun a hr => ?_
   refine ln ?_
   refine cD hr H (fun c12 H => ?_) fun c12 H => ?_
   ·
    refine sr ?_
    obtain ⟨r13, e14, H⟩ := bd1 H
    have hc := plunderref2_refused_ok (H := e14) (h := h)
    refine cl (wn rfl) hr hc ?_; clear hc h
    rintro _ w ⟨rfl, h⟩; refine ⟨_, rfl, fun a hr => ?_⟩
    refine stm (wn rfl) hr h 0 (cl_T_api_Effect r13) (ob39 b6 r13) fun w h => ?_
    refine ln ?_
    refine wp_ret ?_
    refine then_ret ?_
    refine end_retC (cs := cl_T_api_Effect r13) rfl hr (by kernel_rfl) (by kernel_rfl) (by kernel_rfl) (h.held 0 rfl) ?_
    replace H := jx0 H hK7
    obtain ⟨rfl, rfl⟩ := ej2 H
    exact ⟨ca1, cc2, ca3, cc4, rfl, h.se 5 [2, 3, 4]⟩
   ·
    refine wp_skip ?_
    refine then_normal ?_
    exact ⟨(), sinj H, hr.fj (h.se 5 [2, 3, 4, 1, 0])⟩
 clear h hr a; rintro _ a w ⟨rfl, j, hr, h⟩
 replace H := jk0 hK7
 refine wp_seq ?_
 refine sr ?_
 refine o1 hr (pA b5 1) fun a hr => ?_
 refine ld (wn rfl) hr (vI p1.Kind) ((h.pick 3).cell 1 rfl) fun a hr => ?_
 refine o1 hr (vB (p1.Kind == 4)) fun a hr => ?_
 refine ln ?_
 refine cD hr H (fun c15 H => ?_) fun c15 H => ?_
 ·
  refine sr ?_
  refine oo [21, 22] [pA B0 0, pA b5 3] hr fun a hr => ?_
  refine ld (wn rfl) hr (vI p1.A) ((h.pick 3).cell 3 rfl) fun a hr => ?_
  obtain ⟨r16, S17, e18, H⟩ := bd2 H
  have hc := plunderref2_Arena_reserve_ok (H := e18) (h := h)
  refine cl (wn rfl) hr hc ?_; clear hc h
  rintro _ w ⟨caq19, ccq20, caq21, ccq22, rfl, h⟩; refine ⟨_, rfl, fun a hr => ?_⟩
  refine onew (wn rfl) hr h nb (#[vI 0, vB false, vI 0]) 39 fun b23 w a h hr => ?_
  refine stm (wn rfl) hr h 0 (cl_T_api_Effect r16) (ob39 b23 r16) fun w h => ?_
  refine ln ?_
  refine sr ?_
  refine ldm (wn rfl) hr (ag_T_api_Effect r16) (cs := cl_T_api_Effect r16) (h.held 0 rfl) fun a hr => ?_
  replace h := h.m5
  refine stm (wn rfl) hr h 0 (cl_T_api_Effect r16) (ob39 b6 r16) fun w h => ?_
  refine ln ?_
  refine wp_ret ?_
  refine then_ret ?_
  refine end_retC (cs := cl_T_api_Effect r16) rfl hr (by kernel_rfl) (by kernel_rfl) (by kernel_rfl) (h.held 0 rfl) ?_
  obtain ⟨rfl, rfl⟩ := ej2 H
  exact ⟨caq19, ccq20, caq21, ccq22, rfl, h.se 6 [2, 3, 4]⟩
 ·
  refine wp_skip ?_
  refine then_normal ?_
  obtain ⟨o25, H, hK24⟩ := jd0 H
  refine cut_rule (β := Unit) (fun _ a w => .inl () = o25 ∧ ∃ j, Rep 139 (lk [(0, pA B0 0), (3, pA b5 0), (4, pA b6 0)] j) a ∧ Fit z (sepL (ob62 B0 p0 ca1 cc2 ca3 cc4 :: ro2 ca1 cc2 p0.Held :: ro90 ca3 cc4 p0.Book :: ob57 b5 p1 :: pts b6 (.cells #[vI 0, vB false, vI 0] 39) :: L)) w) ?_ ?_
  ·
   refine wp_seq ?_
   by_cases c26 : p1.Addr < 0
   ·
    replace H := ifT c26 H
    refine regL [(b5, 2, [vI p1.Addr])] [0] 13 h (fun h => ⟨⟨(h.pick 3).cell 2 rfl, trivial⟩, trivial⟩) fun w h hd => ?_
    refine evs' hd 12 [(0, 26, pA b5 2)] hr fun a hr => ?_
    refine elx hd 0 11 1 hr (wn rfl) rfl rfl fun a hr => ?_
    refine evs' hd 9 [(2, 28, vB (decide (p1.Addr < 0))), (3, 29, vB (decide (p1.Addr < 0)))] hr fun a hr => ?_
    refine eof hd 8 4 rfl (wgt hr (decide_eq_true c26)) hr fun a hr => ?_
    refine eof hd 7 6 rfl (wgt hr (decide_eq_true c26)) hr fun a hr => ?_
    refine eof hd 6 7 rfl (wgt hr (decide_eq_true c26)) hr fun a hr => ?_
    refine eof hd 5 8 rfl (wgt hr (decide_eq_true c26)) hr fun a hr => ?_
    refine eof hd 4 5 rfl (wgt hr (decide_eq_true c26)) hr fun a hr => ?_
    refine eof hd 3 9 rfl (wgt hr (decide_eq_true c26)) hr fun a hr => ?_
    refine eof hd 2 10 rfl (wgt hr (decide_eq_true c26)) hr fun a hr => ?_
    refine eof hd 1 11 rfl (wgt hr (decide_eq_true c26)) hr fun a hr => ?_
    refine eon hd 0 12 rfl (wn rfl) hr (vB true) (hrun := fun w => rp_t (b := (decide (p1.Addr < 0))) rfl (by kernel_rfl) (decide_eq_true c26) (by kernel_rfl)) fun a hr => ?_
    refine een ?_
    refine then_normal ?_
    refine cond_tt hr (b := true) rfl ?_
    refine sr ?_
    obtain ⟨r27, e28, H⟩ := bd1 H
    have hc := plunderref2_refused_ok (H := e28) (h := h)
    refine cl (wn rfl) hr hc ?_; clear hc h
    rintro _ w ⟨rfl, h⟩; refine ⟨_, rfl, fun a hr => ?_⟩
    replace h := h.m4
    refine stm (wn rfl) hr h 0 (cl_T_api_Effect r27) (ob39 b6 r27) fun w h => ?_
    refine ln ?_
    refine wp_ret ?_
    refine then_ret ?_
    refine end_retC (cs := cl_T_api_Effect r27) rfl hr (by kernel_rfl) (by kernel_rfl) (by kernel_rfl) (h.held 0 rfl) ?_
    replace H := jx0 H hK24
    obtain ⟨rfl, rfl⟩ := ej2 H
    exact ⟨ca1, cc2, ca3, cc4, rfl, h.se 5 [1, 2, 3]⟩
   ·
    replace H := ifF c26 H
    refine regL [(b5, 2, [vI p1.Addr]), (b5, 2, [vI p1.Addr]), (B0, 1, [.slice ca1 p0.Held.length cc2])] [0, 2, 4, 7, 8, 10] 13 h (fun h => ⟨⟨(h.pick 3).cell 2 rfl, trivial⟩, ⟨(h.pick 3).cell 2 rfl, trivial⟩, ⟨h.cell 1 rfl, trivial⟩, trivial⟩) fun w h hd => ?_
    refine evs' hd 12 [(0, 26, pA b5 2)] hr fun a hr => ?_
    refine elx hd 0 11 1 hr (wn rfl) rfl rfl fun a hr => ?_
    refine evs' hd 9 [(2, 28, vB (decide (p1.Addr < 0))), (3, 29, vB (decide (p1.Addr < 0)))] hr fun a hr => ?_
    refine eon hd 8 4 rfl (wgt hr (decide_eq_false c26)) hr (pA b5 2) fun a hr => ?_
    refine eon hd 7 6 rfl (wgt hr (decide_eq_false c26)) hr (pA B0 0) fun a hr => ?_
    refine eon hd 6 7 rfl (wgt hr (decide_eq_false c26)) hr (pA B0 0) fun a hr => ?_
    refine eon hd 5 8 rfl (wgt hr (decide_eq_false c26)) hr (pA B0 1) fun a hr => ?_
    refine elx hd 1 4 5 hr (wgt hr (decide_eq_false c26)) rfl rfl fun a hr => ?_
    refine elx hd 2 3 9 hr (wgt hr (decide_eq_false c26)) rfl rfl fun a hr => ?_
    refine eon hd 2 10 rfl (wgt hr (decide_eq_false c26)) hr (vI ((p0.Held.length : Nat) : Int)) fun a hr => ?_
    refine eon hd 1 11 rfl (wgt hr (decide_eq_false c26)) hr (vB (decide (p1.Addr ≥ ((p0.Held.length : Nat) : Int)))) fun a hr => ?_
    refine eon hd 0 12 rfl (wn rfl) hr (vB (decide (p1.Addr ≥ ((p0.Held.length : Nat) : Int)))) (hrun := fun w => rp_f (b := (decide (p1.Addr < 0))) rfl (by kernel_rfl) (decide_eq_false c26) (by kernel_rfl)) fun a hr => ?_
    refine een ?_
    refine then_normal ?_
    refine cD hr H (fun c29 H => ?_) fun c29 H => ?_
    ·
     refine sr ?_
     obtain ⟨r30, e31, H⟩ := bd1 H
     have hc := plunderref2_refused_ok (H := e31) (h := h)
     refine cl (wn rfl) hr hc ?_; clear hc h
     rintro _ w ⟨rfl, h⟩; refine ⟨_, rfl, fun a hr => ?_⟩
     replace h := h.m4
     refine stm (wn rfl) hr h 0 (cl_T_api_Effect r30) (ob39 b6 r30) fun w h => ?_
     refine ln ?_
     refine wp_ret ?_
     refine then_ret ?_
     refine end_retC (cs := cl_T_api_Effect r30) rfl hr (by kernel_rfl) (by kernel_rfl) (by kernel_rfl) (h.held 0 rfl) ?_
     replace H := jx0 H hK24
     obtain ⟨rfl, rfl⟩ := ej2 H
     exact ⟨ca1, cc2, ca3, cc4, rfl, h.se 5 [1, 2, 3]⟩
    ·
     refine wp_skip ?_
     refine then_normal ?_
     exact ⟨(), sinj H, hr.fj h⟩
  clear h hr a; rintro _ a w ⟨rfl, j, hr, h⟩
  replace H := jk0 hK24
  refine wp_seq ?_
  obtain ⟨c32, H⟩ := gd H
  refine regL [(B0, 1, [.slice ca1 p0.Held.length cc2]), (b5, 2, [vI p1.Addr]), (blk ca1, p1.Addr.toNat * 1, [vI (at_ p0.Held p1.Addr.toNat)])] [1, 2, 4, 6] 9 h (fun h => ⟨⟨h.cell 1 rfl, trivial⟩, ⟨(h.pick 3).cell 2 rfl, trivial⟩, ⟨(h.pick 1).row_cell encZ_i64_ok (f := 0) (at_ok c32) rfl, trivial⟩, trivial⟩) fun w h hd => ?_
  refine evs' hd 5 [(0, 40, pA B0 0), (1, 41, pA B0 0), (2, 42, pA B0 1), (4, 44, pA b5 2)] hr fun a hr => ?_
  refine elx hd 0 4 3 hr (wn rfl) rfl rfl fun a hr => ?_
  refine elx hd 1 3 5 hr (wn rfl) rfl rfl fun a hr => ?_
  refine eon hd 2 6 rfl (wn rfl) hr (pA (blk ca1) (p1.Addr.toNat * 1)) (hrun := fun w => ri_row (k := .i64) (E := 2) rfl (by kernel_rfl) (by kernel_rfl) (by kernel_rfl) (by kernel_rfl) (h.pick 1) c32) fun a hr => ?_
  refine elx hd 2 1 7 hr (wn rfl) rfl rfl fun a hr => ?_
  refine evs' hd 0 [(8, 6, vI (at_ p0.Held p1.Addr.toNat))] hr fun a hr => ?_
  refine een ?_
  refine then_normal ?_
  refine wp_seq ?_
  refine regL [(B0, 3, [vI p0.Actor]), (b5, 1, [vI p1.Kind]), (b5, 2, [vI p1.Addr])] [1, 2, 4, 6] 11 h (fun h => ⟨⟨h.cell 3 rfl, trivial⟩, ⟨(h.pick 3).cell 1 rfl, trivial⟩, ⟨(h.pick 3).cell 2 rfl, trivial⟩, trivial⟩) fun w h hd => ?_
  refine evs' hd 6 [(0, 48, pA B0 0), (1, 49, pA B0 0), (2, 50, pA B0 3), (4, 52, pA b5 1), (6, 54, pA b5 2)] hr fun a hr => ?_
  refine elx hd 0 5 3 hr (wn rfl) rfl rfl fun a hr => ?_
  refine elx hd 1 4 5 hr (wn rfl) rfl rfl fun a hr => ?_
  refine elx hd 2 3 7 hr (wn rfl) rfl rfl fun a hr => ?_
  refine evs' hd 2 [(8, 56, .agg #[vI p0.Actor, vI p1.Kind, vI p1.Addr, vI 0, vI 0, vB true])] hr fun a hr => ?_
  refine eo1 9 rfl ?_
  refine onew (wn rfl) hr h nb (#[vI 0, vI 0, vI 0, vI 0, vI 0, vB false]) 90 fun b33 w a h hr => ?_
  refine ln ?_
  refine xE ?_
  refine eo1 10 rfl ?_
  refine stm (wn rfl) hr h 0 ([vI p0.Actor, vI p1.Kind, vI p1.Addr, vI 0, vI 0, vB true]) (pts b33 (.cells #[vI p0.Actor, vI p1.Kind, vI p1.Addr, vI 0, vI 0, vB true] 90)) fun w h => ?_
  refine ln ?_
  refine xE ?_
  refine een ?_
  refine then_normal ?_
  refine sr ?_
  refine o1 hr (.agg #[vI 0, vB true, vI 0]) fun a hr => ?_
  refine onew (wn rfl) hr h nb (#[vI 0, vB false, vI 0]) 39 fun b34 w a h hr => ?_
  refine stm (wn rfl) hr h 0 ([vI 0, vB true, vI 0]) (pts b34 (.cells #[vI 0, vB true, vI 0] 39)) fun w h => ?_
  refine ln ?_
  refine wp_seq ?_
  refine sr ?_
  refine o1 hr (pA b5 1) fun a hr => ?_
  refine ld (wn rfl) hr (vI p1.Kind) ((h.pick 5).cell 1 rfl) fun a hr => ?_
  refine ln ?_
  refine wp_block ?_
  refine sr ?_
  refine oo [85, 84] [vB (p1.Kind == 0), vB (p1.Kind == 0)] hr fun a hr => ?_
  refine ln ?_
  refine cD hr H (fun c35 H => ?_) fun c35 H => ?_
  ·
   refine sr ?_
   refine oo [86, 87] [vI (at_ p0.Held p1.Addr.toNat), pA b33 3] hr fun a hr => ?_
   replace h := h.m1
   refine st1 (wn rfl) hr h 3 (vI (at_ p0.Held p1.Addr.toNat)) (pts b33 (.cells #[vI p0.Actor, vI p1.Kind, vI p1.Addr, vI (at_ p0.Held p1.Addr.toNat), vI 0, vB true] 90)) fun w h => ?_
   refine ln ?_
   refine wp_region_lit ?_
   refine oo [88, 89] [vI (at_ p0.Held p1.Addr.toNat), pA b34 0] hr fun a hr => ?_
   replace h := h.m1
   refine st1 (wn rfl) hr h 0 (vI (at_ p0.Held p1.Addr.toNat)) (pts b34 (.cells #[vI (at_ p0.Held p1.Addr.toNat), vB true, vI 0] 39)) fun w h => ?_
   refine wpList_nil ?_
   refine blk_normal ?_
   refine then_normal ?_
   refine sr ?_
   refine o1 hr (pA B0 0) fun a hr => ?_
   refine ldm (wn rfl) hr (.agg #[vI p0.Actor, vI p1.Kind, vI p1.Addr, vI (at_ p0.Held p1.Addr.toNat), vI 0, vB true]) (cs := [vI p0.Actor, vI p1.Kind, vI p1.Addr, vI (at_ p0.Held p1.Addr.toNat), vI 0, vB true]) ((h.pick 1).held 0 rfl) fun a hr => ?_
   obtain ⟨S36, e37, H⟩ := bd1 H
   replace h := h.m4.m4.m4
   have hc := plunderref2_Arena_note_ok (H := e37) (h := h)
   refine cl (wn rfl) hr hc ?_; clear hc h
   rintro _ w ⟨caq38, ccq39, caq40, ccq41, rfl, h⟩; refine ⟨_, rfl, fun a hr => ?_⟩
   refine ln ?_
   refine sr ?_
   refine ldm (wn rfl) hr (.agg #[vI (at_ p0.Held p1.Addr.toNat), vB true, vI 0]) (cs := [vI (at_ p0.Held p1.Addr.toNat), vB true, vI 0]) ((h.pick 3).held 0 rfl) fun a hr => ?_
   replace h := h.m6
   refine stm (wn rfl) hr h 0 ([vI (at_ p0.Held p1.Addr.toNat), vB true, vI 0]) (pts b6 (.cells #[vI (at_ p0.Held p1.Addr.toNat), vB true, vI 0] 39)) fun w h => ?_
   refine ln ?_
   refine wp_ret ?_
   refine end_retC (cs := [vI (at_ p0.Held p1.Addr.toNat), vB true, vI 0]) rfl hr (by kernel_rfl) (by kernel_rfl) (by kernel_rfl) (h.held 0 rfl) ?_
   obtain ⟨rfl, rfl⟩ := ej2 H
   exact ⟨caq38, ccq39, caq40, ccq41, rfl, h.se 7 [1, 2, 3]⟩
  ·
   refine sr ?_
   refine oo [91, 90] [vB (p1.Kind == 1), vB (p1.Kind == 1)] hr fun a hr => ?_
   refine ln ?_
   refine cD hr H (fun c42 H => ?_) fun c42 H => ?_
   ·
    refine sr ?_
    refine o1 hr (pA b5 3) fun a hr => ?_
    refine ld (wn rfl) hr (vI p1.A) ((h.pick 5).cell 3 rfl) fun a hr => ?_
    refine o1 hr (pA b33 3) fun a hr => ?_
    replace h := h.m1
    refine st1 (wn rfl) hr h 3 (vI p1.A) (pts b33 (.cells #[vI p0.Actor, vI p1.Kind, vI p1.Addr, vI p1.A, vI 0, vB true] 90)) fun w h => ?_
    refine ln ?_
    refine regL [(B0, 1, [.slice ca1 p0.Held.length cc2]), (b5, 2, [vI p1.Addr]), (b5, 3, [vI p1.A])] [1, 2, 4, 6] 10 h (fun h => ⟨⟨(h.pick 2).cell 1 rfl, trivial⟩, ⟨(h.pick 5).cell 2 rfl, trivial⟩, ⟨(h.pick 5).cell 3 rfl, trivial⟩, trivial⟩) fun w h hd => ?_
    refine evs' hd 5 [(0, 95, pA B0 0), (1, 96, pA B0 0), (2, 97, pA B0 1), (4, 99, pA b5 2), (6, 101, pA b5 3)] hr fun a hr => ?_
    refine elx hd 0 4 3 hr (wn rfl) rfl rfl fun a hr => ?_
    refine elx hd 1 3 5 hr (wn rfl) rfl rfl fun a hr => ?_
    refine elx hd 2 2 7 hr (wn rfl) rfl rfl fun a hr => ?_
    refine eon hd 1 8 rfl (wn rfl) hr (pA (blk ca1) (p1.Addr.toNat * 1)) (hrun := fun w => ri_row (k := .i64) (E := 2) rfl (by kernel_rfl) (by kernel_rfl) (by kernel_rfl) (by kernel_rfl) (h.pick 3) c32) fun a hr => ?_
    refine eo1 9 rfl ?_
    replace h := h.m3
    refine stor (wn rfl) hr encZ_i64_ok h p1.Addr.toNat 0 (vI p1.A) (at_ p0.Held p1.Addr.toNat) p1.A (at_ok c32) fun w h => ?_
    refine ln ?_
    refine xE ?_
    refine een ?_
    refine blk_normal ?_
    refine then_normal ?_
    refine sr ?_
    refine o1 hr (pA B0 0) fun a hr => ?_
    refine ldm (wn rfl) hr (.agg #[vI p0.Actor, vI p1.Kind, vI p1.Addr, vI p1.A, vI 0, vB true]) (cs := [vI p0.Actor, vI p1.Kind, vI p1.Addr, vI p1.A, vI 0, vB true]) ((h.pick 1).held 0 rfl) fun a hr => ?_
    replace h := h.m3.m1
    have hn42 : p0.Held.length = (p0.Held.set p1.Addr.toNat p1.A).length := h.row_n; replace h := Fit.ren1 hn42 (fun q_ => rowOf 2 1 encZ_i64 (.slice ca1 q_ cc2) (p0.Held.set p1.Addr.toNat p1.A)) (fun q_ => pts B0 (.cells #[vI p0.Most, .slice ca1 q_ cc2, vB p0.On, vI p0.Actor, .slice ca3 p0.Book.length cc4] 62)) h
    obtain ⟨S44, e45, H⟩ := bd1 H
    replace h := h.m4.m1.m2
    have hc := plunderref2_Arena_note_ok (H := e45) (h := h)
    refine cl (wn rfl) hr hc ?_; clear hc h
    rintro _ w ⟨caq46, ccq47, caq48, ccq49, rfl, h⟩; refine ⟨_, rfl, fun a hr => ?_⟩
    refine ln ?_
    refine sr ?_
    refine ldm (wn rfl) hr (.agg #[vI 0, vB true, vI 0]) (cs := [vI 0, vB true, vI 0]) ((h.pick 4).held 0 rfl) fun a hr => ?_
    replace h := h.m6
    refine stm (wn rfl) hr h 0 ([vI 0, vB true, vI 0]) (pts b6 (.cells #[vI 0, vB true, vI 0] 39)) fun w h => ?_
    refine ln ?_
    refine wp_ret ?_
    refine end_retC (cs := [vI 0, vB true, vI 0]) rfl hr (by kernel_rfl) (by kernel_rfl) (by kernel_rfl) (h.held 0 rfl) ?_
    obtain ⟨rfl, rfl⟩ := ej2 H
    exact ⟨caq46, ccq47, caq48, ccq49, rfl, h.se 7 [1, 2, 3]⟩
   ·
    refine sr ?_
    refine oo [105, 104] [vB (p1.Kind == 2), vB (p1.Kind == 2)] hr fun a hr => ?_
    refine ln ?_
    refine cD hr H (fun c50 H => ?_) fun c50 H => ?_
    ·
     refine sr ?_
     refine o1 hr (pA b5 3) fun a hr => ?_
     refine ld (wn rfl) hr (vI p1.A) ((h.pick 5).cell 3 rfl) fun a hr => ?_
     refine o1 hr (pA b33 3) fun a hr => ?_
     replace h := h.m1
     refine st1 (wn rfl) hr h 3 (vI p1.A) (pts b33 (.cells #[vI p0.Actor, vI p1.Kind, vI p1.Addr, vI p1.A, vI 0, vB true] 90)) fun w h => ?_
     refine ln ?_
     refine sr ?_
     refine o1 hr (pA b5 4) fun a hr => ?_
     refine ld (wn rfl) hr (vI p1.B) ((h.pick 5).cell 4 rfl) fun a hr => ?_
     refine o1 hr (pA b33 4) fun a hr => ?_
     refine st1 (wn rfl) hr h 4 (vI p1.B) (pts b33 (.cells #[vI p0.Actor, vI p1.Kind, vI p1.Addr, vI p1.A, vI p1.B, vB true] 90)) fun w h => ?_
     refine ln ?_
     refine sr ?_
     refine oo [112, 113] [vI (at_ p0.Held p1.Addr.toNat), pA b5 3] hr fun a hr => ?_
     refine ld (wn rfl) hr (vI p1.A) ((h.pick 5).cell 3 rfl) fun a hr => ?_
     refine oo [115, 116] [vB ((at_ p0.Held p1.Addr.toNat) == p1.A), pA b33 5] hr fun a hr => ?_
     refine st1 (wn rfl) hr h 5 (vB ((at_ p0.Held p1.Addr.toNat) == p1.A)) (pts b33 (.cells #[vI p0.Actor, vI p1.Kind, vI p1.Addr, vI p1.A, vI p1.B, vB ((at_ p0.Held p1.Addr.toNat) == p1.A)] 90)) fun w h => ?_
     refine ln ?_
     refine sr ?_
     refine oo [117, 118] [vI (at_ p0.Held p1.Addr.toNat), pA b5 3] hr fun a hr => ?_
     refine ld (wn rfl) hr (vI p1.A) ((h.pick 5).cell 3 rfl) fun a hr => ?_
     refine oo [120, 121] [vB ((at_ p0.Held p1.Addr.toNat) == p1.A), pA b34 1] hr fun a hr => ?_
     replace h := h.m1
     refine st1 (wn rfl) hr h 1 (vB ((at_ p0.Held p1.Addr.toNat) == p1.A)) (pts b34 (.cells #[vI 0, vB ((at_ p0.Held p1.Addr.toNat) == p1.A), vI 0] 39)) fun w h => ?_
     refine ln ?_
     refine sr ?_
     refine oo [122, 123] [vI (at_ p0.Held p1.Addr.toNat), pA b5 3] hr fun a hr => ?_
     refine ld (wn rfl) hr (vI p1.A) ((h.pick 5).cell 3 rfl) fun a hr => ?_
     refine o1 hr (vB ((at_ p0.Held p1.Addr.toNat) == p1.A)) fun a hr => ?_
     refine ln ?_
     refine cD hr H (fun c51 H => ?_) fun c51 H => ?_
     ·
      refine regL [(B0, 1, [.slice ca1 p0.Held.length cc2]), (b5, 2, [vI p1.Addr]), (b5, 4, [vI p1.B])] [1, 2, 4, 6] 10 h (fun h => ⟨⟨(h.pick 2).cell 1 rfl, trivial⟩, ⟨(h.pick 5).cell 2 rfl, trivial⟩, ⟨(h.pick 5).cell 4 rfl, trivial⟩, trivial⟩) fun w h hd => ?_
      refine evs' hd 5 [(0, 126, pA B0 0), (1, 127, pA B0 0), (2, 128, pA B0 1), (4, 130, pA b5 2), (6, 132, pA b5 4)] hr fun a hr => ?_
      refine elx hd 0 4 3 hr (wn rfl) rfl rfl fun a hr => ?_
      refine elx hd 1 3 5 hr (wn rfl) rfl rfl fun a hr => ?_
      refine elx hd 2 2 7 hr (wn rfl) rfl rfl fun a hr => ?_
      refine eon hd 1 8 rfl (wn rfl) hr (pA (blk ca1) (p1.Addr.toNat * 1)) (hrun := fun w => ri_row (k := .i64) (E := 2) rfl (by kernel_rfl) (by kernel_rfl) (by kernel_rfl) (by kernel_rfl) (h.pick 3) c32) fun a hr => ?_
      refine eo1 9 rfl ?_
      replace h := h.m3
      refine stor (wn rfl) hr encZ_i64_ok h p1.Addr.toNat 0 (vI p1.B) (at_ p0.Held p1.Addr.toNat) p1.B (at_ok c32) fun w h => ?_
      refine ln ?_
      refine xE ?_
      refine een ?_
      refine blk_normal ?_
      refine then_normal ?_
      refine sr ?_
      refine o1 hr (pA B0 0) fun a hr => ?_
      refine ldm (wn rfl) hr (.agg #[vI p0.Actor, vI p1.Kind, vI p1.Addr, vI p1.A, vI p1.B, vB ((at_ p0.Held p1.Addr.toNat) == p1.A)]) (cs := [vI p0.Actor, vI p1.Kind, vI p1.Addr, vI p1.A, vI p1.B, vB ((at_ p0.Held p1.Addr.toNat) == p1.A)]) ((h.pick 2).held 0 rfl) fun a hr => ?_
      replace h := h.m3.m1
      have hn51 : p0.Held.length = (p0.Held.set p1.Addr.toNat p1.B).length := h.row_n; replace h := Fit.ren1 hn51 (fun q_ => rowOf 2 1 encZ_i64 (.slice ca1 q_ cc2) (p0.Held.set p1.Addr.toNat p1.B)) (fun q_ => pts B0 (.cells #[vI p0.Most, .slice ca1 q_ cc2, vB p0.On, vI p0.Actor, .slice ca3 p0.Book.length cc4] 62)) h
      obtain ⟨S53, e54, H⟩ := bd1 H
      replace h := h.m4.m1.m2
      have hc := plunderref2_Arena_note_ok (H := e54) (h := h)
      refine cl (wn rfl) hr hc ?_; clear hc h
      rintro _ w ⟨caq55, ccq56, caq57, ccq58, rfl, h⟩; refine ⟨_, rfl, fun a hr => ?_⟩
      refine ln ?_
      refine sr ?_
      refine ldm (wn rfl) hr (.agg #[vI 0, vB ((at_ p0.Held p1.Addr.toNat) == p1.A), vI 0]) (cs := [vI 0, vB ((at_ p0.Held p1.Addr.toNat) == p1.A), vI 0]) ((h.pick 3).held 0 rfl) fun a hr => ?_
      replace h := h.m6
      refine stm (wn rfl) hr h 0 ([vI 0, vB ((at_ p0.Held p1.Addr.toNat) == p1.A), vI 0]) (pts b6 (.cells #[vI 0, vB ((at_ p0.Held p1.Addr.toNat) == p1.A), vI 0] 39)) fun w h => ?_
      refine ln ?_
      refine wp_ret ?_
      refine end_retC (cs := [vI 0, vB ((at_ p0.Held p1.Addr.toNat) == p1.A), vI 0]) rfl hr (by kernel_rfl) (by kernel_rfl) (by kernel_rfl) (h.held 0 rfl) ?_
      obtain ⟨rfl, rfl⟩ := ej2 H
      exact ⟨caq55, ccq56, caq57, ccq58, rfl, h.se 7 [1, 2, 3]⟩
     ·
      refine wp_skip ?_
      refine blk_normal ?_
      refine then_normal ?_
      refine sr ?_
      refine o1 hr (pA B0 0) fun a hr => ?_
      refine ldm (wn rfl) hr (.agg #[vI p0.Actor, vI p1.Kind, vI p1.Addr, vI p1.A, vI p1.B, vB ((at_ p0.Held p1.Addr.toNat) == p1.A)]) (cs := [vI p0.Actor, vI p1.Kind, vI p1.Addr, vI p1.A, vI p1.B, vB ((at_ p0.Held p1.Addr.toNat) == p1.A)]) ((h.pick 1).held 0 rfl) fun a hr => ?_
      obtain ⟨S59, e60, H⟩ := bd1 H
      replace h := h.m4.m4.m4
      have hc := plunderref2_Arena_note_ok (H := e60) (h := h)
      refine cl (wn rfl) hr hc ?_; clear hc h
      rintro _ w ⟨caq61, ccq62, caq63, ccq64, rfl, h⟩; refine ⟨_, rfl, fun a hr => ?_⟩
      refine ln ?_
      refine sr ?_
      refine ldm (wn rfl) hr (.agg #[vI 0, vB ((at_ p0.Held p1.Addr.toNat) == p1.A), vI 0]) (cs := [vI 0, vB ((at_ p0.Held p1.Addr.toNat) == p1.A), vI 0]) ((h.pick 3).held 0 rfl) fun a hr => ?_
      replace h := h.m6
      refine stm (wn rfl) hr h 0 ([vI 0, vB ((at_ p0.Held p1.Addr.toNat) == p1.A), vI 0]) (pts b6 (.cells #[vI 0, vB ((at_ p0.Held p1.Addr.toNat) == p1.A), vI 0] 39)) fun w h => ?_
      refine ln ?_
      refine wp_ret ?_
      refine end_retC (cs := [vI 0, vB ((at_ p0.Held p1.Addr.toNat) == p1.A), vI 0]) rfl hr (by kernel_rfl) (by kernel_rfl) (by kernel_rfl) (h.held 0 rfl) ?_
      obtain ⟨rfl, rfl⟩ := ej2 H
      exact ⟨caq61, ccq62, caq63, ccq64, rfl, h.se 7 [1, 2, 3]⟩
    ·
     refine sr ?_
     refine o1 hr (pA b5 3) fun a hr => ?_
     refine ld (wn rfl) hr (vI p1.A) ((h.pick 5).cell 3 rfl) fun a hr => ?_
     refine o1 hr (pA b33 3) fun a hr => ?_
     replace h := h.m1
     refine st1 (wn rfl) hr h 3 (vI p1.A) (pts b33 (.cells #[vI p0.Actor, vI p1.Kind, vI p1.Addr, vI p1.A, vI 0, vB true] 90)) fun w h => ?_
     refine ln ?_
     refine sr ?_
     refine oo [63, 64] [vI (at_ p0.Held p1.Addr.toNat), pA b5 3] hr fun a hr => ?_
     refine ld (wn rfl) hr (vI p1.A) ((h.pick 5).cell 3 rfl) fun a hr => ?_
     refine oo [66, 67] [vI (wi ((at_ p0.Held p1.Addr.toNat) + p1.A)), pA b33 4] hr fun a hr => ?_
     refine st1 (wn rfl) hr h 4 (vI (wi ((at_ p0.Held p1.Addr.toNat) + p1.A))) (pts b33 (.cells #[vI p0.Actor, vI p1.Kind, vI p1.Addr, vI p1.A, vI (wi ((at_ p0.Held p1.Addr.toNat) + p1.A)), vB true] 90)) fun w h => ?_
     refine ln ?_
     refine sr ?_
     refine oo [68, 69] [vI (at_ p0.Held p1.Addr.toNat), pA b5 3] hr fun a hr => ?_
     refine ld (wn rfl) hr (vI p1.A) ((h.pick 5).cell 3 rfl) fun a hr => ?_
     refine oo [71, 72] [vI (wi ((at_ p0.Held p1.Addr.toNat) + p1.A)), pA b34 0] hr fun a hr => ?_
     replace h := h.m1
     refine st1 (wn rfl) hr h 0 (vI (wi ((at_ p0.Held p1.Addr.toNat) + p1.A))) (pts b34 (.cells #[vI (wi ((at_ p0.Held p1.Addr.toNat) + p1.A)), vB true, vI 0] 39)) fun w h => ?_
     refine ln ?_
     refine regL [(B0, 1, [.slice ca1 p0.Held.length cc2]), (b5, 2, [vI p1.Addr]), (b5, 3, [vI p1.A])] [1, 2, 4, 7, 9] 12 h (fun h => ⟨⟨(h.pick 2).cell 1 rfl, trivial⟩, ⟨(h.pick 5).cell 2 rfl, trivial⟩, ⟨(h.pick 5).cell 3 rfl, trivial⟩, trivial⟩) fun w h hd => ?_
     refine evs' hd 6 [(0, 73, pA B0 0), (1, 74, pA B0 0), (2, 75, pA B0 1), (4, 77, pA b5 2), (6, 79, vI (at_ p0.Held p1.Addr.toNat)), (7, 80, pA b5 3)] hr fun a hr => ?_
     refine elx hd 0 5 3 hr (wn rfl) rfl rfl fun a hr => ?_
     refine elx hd 1 4 5 hr (wn rfl) rfl rfl fun a hr => ?_
     refine elx hd 2 3 8 hr (wn rfl) rfl rfl fun a hr => ?_
     refine evs' hd 2 [(9, 82, vI (wi ((at_ p0.Held p1.Addr.toNat) + p1.A)))] hr fun a hr => ?_
     refine eon hd 1 10 rfl (wn rfl) hr (pA (blk ca1) (p1.Addr.toNat * 1)) (hrun := fun w => ri_row (k := .i64) (E := 2) rfl (by kernel_rfl) (by kernel_rfl) (by kernel_rfl) (by kernel_rfl) (h.pick 3) c32) fun a hr => ?_
     refine eo1 11 rfl ?_
     replace h := h.m3
     refine stor (wn rfl) hr encZ_i64_ok h p1.Addr.toNat 0 (vI (wi ((at_ p0.Held p1.Addr.toNat) + p1.A))) (at_ p0.Held p1.Addr.toNat) (wi ((at_ p0.Held p1.Addr.toNat) + p1.A)) (at_ok c32) fun w h => ?_
     refine ln ?_
     refine xE ?_
     refine een ?_
     refine blk_normal ?_
     refine then_normal ?_
     refine sr ?_
     refine o1 hr (pA B0 0) fun a hr => ?_
     refine ldm (wn rfl) hr (.agg #[vI p0.Actor, vI p1.Kind, vI p1.Addr, vI p1.A, vI (wi ((at_ p0.Held p1.Addr.toNat) + p1.A)), vB true]) (cs := [vI p0.Actor, vI p1.Kind, vI p1.Addr, vI p1.A, vI (wi ((at_ p0.Held p1.Addr.toNat) + p1.A)), vB true]) ((h.pick 2).held 0 rfl) fun a hr => ?_
     replace h := h.m3.m1
     have hn64 : p0.Held.length = (p0.Held.set p1.Addr.toNat (wi ((at_ p0.Held p1.Addr.toNat) + p1.A))).length := h.row_n; replace h := Fit.ren1 hn64 (fun q_ => rowOf 2 1 encZ_i64 (.slice ca1 q_ cc2) (p0.Held.set p1.Addr.toNat (wi ((at_ p0.Held p1.Addr.toNat) + p1.A)))) (fun q_ => pts B0 (.cells #[vI p0.Most, .slice ca1 q_ cc2, vB p0.On, vI p0.Actor, .slice ca3 p0.Book.length cc4] 62)) h
     obtain ⟨S66, e67, H⟩ := bd1 H
     replace h := h.m4.m1.m2
     have hc := plunderref2_Arena_note_ok (H := e67) (h := h)
     refine cl (wn rfl) hr hc ?_; clear hc h
     rintro _ w ⟨caq68, ccq69, caq70, ccq71, rfl, h⟩; refine ⟨_, rfl, fun a hr => ?_⟩
     refine ln ?_
     refine sr ?_
     refine ldm (wn rfl) hr (.agg #[vI (wi ((at_ p0.Held p1.Addr.toNat) + p1.A)), vB true, vI 0]) (cs := [vI (wi ((at_ p0.Held p1.Addr.toNat) + p1.A)), vB true, vI 0]) ((h.pick 3).held 0 rfl) fun a hr => ?_
     replace h := h.m6
     refine stm (wn rfl) hr h 0 ([vI (wi ((at_ p0.Held p1.Addr.toNat) + p1.A)), vB true, vI 0]) (pts b6 (.cells #[vI (wi ((at_ p0.Held p1.Addr.toNat) + p1.A)), vB true, vI 0] 39)) fun w h => ?_
     refine ln ?_
     refine wp_ret ?_
     refine end_retC (cs := [vI (wi ((at_ p0.Held p1.Addr.toNat) + p1.A)), vB true, vI 0]) rfl hr (by kernel_rfl) (by kernel_rfl) (by kernel_rfl) (h.held 0 rfl) ?_
     obtain ⟨rfl, rfl⟩ := ej2 H
     exact ⟨caq68, ccq69, caq70, ccq71, rfl, h.se 7 [1, 2, 3]⟩

/-- (*plunder/cells.Arena).Watch -/
def cells_Arena_Watch (p0 : T_cells_Arena) (p1 : Bool) : Option (T_cells_Arena) :=
  some ({ p0 with watched := p1 })

theorem cells_Arena_Watch_ok {z w : World} {L : List HProp} {p0 q0 : T_cells_Arena} {p1 : Bool} {B0 cc2 cc4 : Nat} {ca1 ca3 : Option Addr} (H : cells_Arena_Watch p0 p1 = some q0) (h : Fit z (sepL (ob96 B0 p0 ca1 cc2 ca3 cc4 :: ro2 ca1 cc2 p0.cell :: ro90 ca3 cc4 p0.log :: L)) w)  :
    Calls Try.prog 88 #[pA B0 0, vB p1] w fun e w => ∃ caq0_1 ccq0_2 caq0_3 ccq0_4, e = .returned (.tuple #[]) ∧ Fit z (sepL (ob96 B0 q0 caq0_1 ccq0_2 caq0_3 ccq0_4 :: ro2 caq0_1 ccq0_2 q0.cell :: ro90 caq0_3 ccq0_4 q0.log :: L)) w := by
 unfold cells_Arena_Watch at H
 refine enter Try.func88 rfl 10 rfl rfl [(0, pA B0 0), (1, vB p1)] ⟨rfl, rfl, trivial⟩ ?_
 intro j a hr
 refine sr ?_
 refine oo [4, 5] [pA B0 0, vB true] hr fun a hr => ?_
 refine ln ?_
 refine cond_tt hr (b := true) rfl ?_
 refine wp_region_lit ?_
 refine oo [6, 7, 8, 9] [pA B0 0, vB p1, pA B0 0, pA B0 5] hr fun a hr => ?_
 refine st1 (wn rfl) hr h 5 (vB p1) (pts B0 (.cells #[vI p0.ledger_size, vI p0.ledger_mark, .slice ca1 p0.cell.length cc2, .slice ca3 p0.log.length cc4, vI p0.actor, vB p1] 96)) fun w h => ?_
 refine wpList_nil ?_
 refine end_norm0 rfl hr ?_
 replace H := ej1 H; subst H
 exact ⟨ca1, cc2, ca3, cc4, rfl, h⟩

/-- (*plunder/cells.Arena).Who -/
def cells_Arena_Who (p0 : T_cells_Arena) (p1 : Int) : Option (T_cells_Arena) :=
  some ({ p0 with actor := p1 })

theorem cells_Arena_Who_ok {z w : World} {L : List HProp} {p0 q0 : T_cells_Arena} {p1 : Int} {B0 cc2 cc4 : Nat} {ca1 ca3 : Option Addr} (H : cells_Arena_Who p0 p1 = some q0) (h : Fit z (sepL (ob96 B0 p0 ca1 cc2 ca3 cc4 :: ro2 ca1 cc2 p0.cell :: ro90 ca3 cc4 p0.log :: L)) w)  :
    Calls Try.prog 96 #[pA B0 0, vI p1] w fun e w => ∃ caq0_1 ccq0_2 caq0_3 ccq0_4, e = .returned (.tuple #[]) ∧ Fit z (sepL (ob96 B0 q0 caq0_1 ccq0_2 caq0_3 ccq0_4 :: ro2 caq0_1 ccq0_2 q0.cell :: ro90 caq0_3 ccq0_4 q0.log :: L)) w := by
 unfold cells_Arena_Who at H
 refine enter Try.func96 rfl 10 rfl rfl [(0, pA B0 0), (1, vI p1)] ⟨rfl, rfl, trivial⟩ ?_
 intro j a hr
 refine sr ?_
 refine oo [4, 5] [pA B0 0, vB true] hr fun a hr => ?_
 refine ln ?_
 refine cond_tt hr (b := true) rfl ?_
 refine wp_region_lit ?_
 refine oo [6, 7, 8, 9] [pA B0 0, vI p1, pA B0 0, pA B0 4] hr fun a hr => ?_
 refine st1 (wn rfl) hr h 4 (vI p1) (pts B0 (.cells #[vI p0.ledger_size, vI p0.ledger_mark, .slice ca1 p0.cell.length cc2, .slice ca3 p0.log.length cc4, vI p1, vB p0.watched] 96)) fun w h => ?_
 refine wpList_nil ?_
 refine end_norm0 rfl hr ?_
 replace H := ej1 H; subst H
 exact ⟨ca1, cc2, ca3, cc4, rfl, h⟩

/-- (*plunder/cells.ledger).Size -/
def cells_ledger_Size (p0 : T_cells_Arena) : Option (Int) :=
  some p0.ledger_size

theorem cells_ledger_Size_ok {z w : World} {L : List HProp} {p0 : T_cells_Arena} {B0 cc2 cc4 : Nat} {ca1 ca3 : Option Addr} {r0 : Int} (H : cells_ledger_Size p0 = some r0) (h : Fit z (sepL (ob96 B0 p0 ca1 cc2 ca3 cc4 :: ro2 ca1 cc2 p0.cell :: ro90 ca3 cc4 p0.log :: L)) w)  :
    Calls Try.prog 81 #[pA B0 0] w fun e w => e = .returned (vI r0) ∧ Fit z (sepL (ob96 B0 p0 ca1 cc2 ca3 cc4 :: ro2 ca1 cc2 p0.cell :: ro90 ca3 cc4 p0.log :: L)) w := by
 unfold cells_ledger_Size at H
 refine enter Try.func81 rfl 9 rfl rfl [(0, pA B0 0)] ⟨rfl, trivial⟩ ?_
 intro j a hr
 refine sr ?_
 refine o1 hr (vI 0) fun a hr => ?_
 refine ln ?_
 refine wp_seq ?_
 refine sr ?_
 refine oo [3, 4] [pA B0 0, vB false] hr fun a hr => ?_
 refine ln ?_
 refine cond_ff hr (b := false) rfl ?_
 refine wp_skip ?_
 refine then_normal ?_
 refine sr ?_
 refine oo [5, 6, 7] [pA B0 0, pA B0 0, pA B0 0] hr fun a hr => ?_
 refine ld (wn rfl) hr (vI p0.ledger_size) (h.cell 0 rfl) fun a hr => ?_
 refine o1 hr (vI p0.ledger_size) fun a hr => ?_
 refine ln ?_
 refine wp_ret ?_
 refine end_ret1 (v := vI p0.ledger_size) rfl hr (by kernel_rfl) ?_
 replace H := ej1 H; subst H
 exact ⟨rfl, h⟩

/-- (*plunder/cells.Arena).Size -/
def cells_Arena_Size (p0 : T_cells_Arena) : Option (Int) :=
  ob1 (cells_ledger_Size p0) (fun r5 => some r5)

theorem cells_Arena_Size_ok {z w : World} {L : List HProp} {p0 : T_cells_Arena} {B0 cc2 cc4 : Nat} {ca1 ca3 : Option Addr} {r0 : Int} (H : cells_Arena_Size p0 = some r0) (h : Fit z (sepL (ob96 B0 p0 ca1 cc2 ca3 cc4 :: ro2 ca1 cc2 p0.cell :: ro90 ca3 cc4 p0.log :: L)) w)  :
    Calls Try.prog 97 #[pA B0 0] w fun e w => e = .returned (vI r0) ∧ Fit z (sepL (ob96 B0 p0 ca1 cc2 ca3 cc4 :: ro2 ca1 cc2 p0.cell :: ro90 ca3 cc4 p0.log :: L)) w := by
 unfold cells_Arena_Size at H
 refine enter Try.func97 rfl 9 rfl rfl [(0, pA B0 0)] ⟨rfl, trivial⟩ ?_
 intro j a hr
 refine sr ?_
 refine o1 hr (vI 0) fun a hr => ?_
 refine ln ?_
 refine wp_seq ?_
 refine sr ?_
 refine oo [3, 4] [pA B0 0, vB false] hr fun a hr => ?_
 refine ln ?_
 refine cond_ff hr (b := false) rfl ?_
 refine wp_skip ?_
 refine then_normal ?_
 refine sr ?_
 obtain ⟨r5, e6, H⟩ := bd1 H
 refine oo [5, 6, 7] [pA B0 0, pA B0 0, pA B0 0] hr fun a hr => ?_
 have hc := cells_ledger_Size_ok (H := e6) (h := h)
 refine cl (wn rfl) hr hc ?_; clear hc h
 rintro _ w ⟨rfl, h⟩; refine ⟨_, rfl, fun a hr => ?_⟩
 refine o1 hr (vI r5) fun a hr => ?_
 refine ln ?_
 refine wp_ret ?_
 refine end_ret1 (v := vI r5) rfl hr (by kernel_rfl) ?_
 replace H := ej1 H; subst H
 exact ⟨rfl, h⟩

/-- (*plunder/cells.ledger).Mark -/
def cells_ledger_Mark (p0 : T_cells_Arena) : Option (Int) :=
  some p0.ledger_mark

theorem cells_ledger_Mark_ok {z w : World} {L : List HProp} {p0 : T_cells_Arena} {B0 cc2 cc4 : Nat} {ca1 ca3 : Option Addr} {r0 : Int} (H : cells_ledger_Mark p0 = some r0) (h : Fit z (sepL (ob96 B0 p0 ca1 cc2 ca3 cc4 :: ro2 ca1 cc2 p0.cell :: ro90 ca3 cc4 p0.log :: L)) w)  :
    Calls Try.prog 84 #[pA B0 0] w fun e w => e = .returned (vI r0) ∧ Fit z (sepL (ob96 B0 p0 ca1 cc2 ca3 cc4 :: ro2 ca1 cc2 p0.cell :: ro90 ca3 cc4 p0.log :: L)) w := by
 unfold cells_ledger_Mark at H
 refine enter Try.func84 rfl 9 rfl rfl [(0, pA B0 0)] ⟨rfl, trivial⟩ ?_
 intro j a hr
 refine sr ?_
 refine o1 hr (vI 0) fun a hr => ?_
 refine ln ?_
 refine wp_seq ?_
 refine sr ?_
 refine oo [3, 4] [pA B0 0, vB false] hr fun a hr => ?_
 refine ln ?_
 refine cond_ff hr (b := false) rfl ?_
 refine wp_skip ?_
 refine then_normal ?_
 refine sr ?_
 refine oo [5, 6, 7] [pA B0 0, pA B0 0, pA B0 1] hr fun a hr => ?_
 refine ld (wn rfl) hr (vI p0.ledger_mark) (h.cell 1 rfl) fun a hr => ?_
 refine o1 hr (vI p0.ledger_mark) fun a hr => ?_
 refine ln ?_
 refine wp_ret ?_
 refine end_ret1 (v := vI p0.ledger_mark) rfl hr (by kernel_rfl) ?_
 replace H := ej1 H; subst H
 exact ⟨rfl, h⟩

/-- (*plunder/cells.Arena).Mark -/
def cells_Arena_Mark (p0 : T_cells_Arena) : Option (Int) :=
  ob1 (cells_ledger_Mark p0) (fun r5 => some r5)

theorem cells_Arena_Mark_ok {z w : World} {L : List HProp} {p0 : T_cells_Arena} {B0 cc2 cc4 : Nat} {ca1 ca3 : Option Addr} {r0 : Int} (H : cells_Arena_Mark p0 = some r0) (h : Fit z (sepL (ob96 B0 p0 ca1 cc2 ca3 cc4 :: ro2 ca1 cc2 p0.cell :: ro90 ca3 cc4 p0.log :: L)) w)  :
    Calls Try.prog 98 #[pA B0 0] w fun e w => e = .returned (vI r0) ∧ Fit z (sepL (ob96 B0 p0 ca1 cc2 ca3 cc4 :: ro2 ca1 cc2 p0.cell :: ro90 ca3 cc4 p0.log :: L)) w := by
 unfold cells_Arena_Mark at H
 refine enter Try.func98 rfl 9 rfl rfl [(0, pA B0 0)] ⟨rfl, trivial⟩ ?_
 intro j a hr
 refine sr ?_
 refine o1 hr (vI 0) fun a hr => ?_
 refine ln ?_
 refine wp_seq ?_
 refine sr ?_
 refine oo [3, 4] [pA B0 0, vB false] hr fun a hr => ?_
 refine ln ?_
 refine cond_ff hr (b := false) rfl ?_
 refine wp_skip ?_
 refine then_normal ?_
 refine sr ?_
 obtain ⟨r5, e6, H⟩ := bd1 H
 refine oo [5, 6, 7] [pA B0 0, pA B0 0, pA B0 0] hr fun a hr => ?_
 have hc := cells_ledger_Mark_ok (H := e6) (h := h)
 refine cl (wn rfl) hr hc ?_; clear hc h
 rintro _ w ⟨rfl, h⟩; refine ⟨_, rfl, fun a hr => ?_⟩
 refine o1 hr (vI r5) fun a hr => ?_
 refine ln ?_
 refine wp_ret ?_
 refine end_ret1 (v := vI r5) rfl hr (by kernel_rfl) ?_
 replace H := ej1 H; subst H
 exact ⟨rfl, h⟩

/-- (*plunder/cells.Arena).Cells -/
def cells_Arena_Cells (p0 : T_cells_Arena) : Option ((List Int)) :=
  if 0 ≤ ((p0.cell.length : Nat) : Int) ∧ ((p0.cell.length : Nat) : Int) * 8 ≤ 140737488355328 then if p0.cell.length = (List.replicate p0.cell.length (0 : Int)).length then some p0.cell else none else none

theorem cells_Arena_Cells_ok {z w : World} {L : List HProp} {p0 : T_cells_Arena} {B0 cc2 cc4 : Nat} {ca1 ca3 : Option Addr} {r0 : List Int} (H : cells_Arena_Cells p0 = some r0) (h : Fit z (sepL (ob96 B0 p0 ca1 cc2 ca3 cc4 :: ro2 ca1 cc2 p0.cell :: ro90 ca3 cc4 p0.log :: L)) w)  :
    Calls Try.prog 24 #[pA B0 0] w fun e w => ∃ car0_1, e = .returned (.slice car0_1 r0.length r0.length) ∧ Fit z (sepL (ob96 B0 p0 ca1 cc2 ca3 cc4 :: ro2 ca1 cc2 p0.cell :: ro90 ca3 cc4 p0.log :: ro2 car0_1 r0.length r0 :: L)) w := by
 unfold cells_Arena_Cells at H
 refine enter Try.func24 rfl 19 rfl rfl [(0, pA B0 0)] ⟨rfl, trivial⟩ ?_
 intro j a hr
 refine sr ?_
 refine o1 hr (.slice none 0 0) fun a hr => ?_
 refine ln ?_
 refine wp_seq ?_
 refine sr ?_
 refine oo [4, 5] [pA B0 0, vB false] hr fun a hr => ?_
 refine ln ?_
 refine cond_ff hr (b := false) rfl ?_
 refine wp_skip ?_
 refine then_normal ?_
 refine sr ?_
 refine oo [6, 7, 8] [pA B0 0, pA B0 0, pA B0 2] hr fun a hr => ?_
 refine ld (wn rfl) hr (.slice ca1 p0.cell.length cc2) (h.cell 2 rfl) fun a hr => ?_
 obtain ⟨c5, H⟩ := gd H
 refine o1 hr (vI ((p0.cell.length : Nat) : Int)) fun a hr => ?_
 refine op_make_row (i := ((p0.cell.length : Nat) : Int)) (bytes := 8) (zc := #[vI 0]) (0 : Int) (wn rfl) rfl rfl hr rfl (by kernel_rfl) (by kernel_rfl) c5 encZ_i64_ok (E := 2) (by kernel_rfl) (by kernel_rfl) rfl rfl h fun ca6 w a h hr => ?_
 refine o1 hr (.slice ca6 (List.replicate p0.cell.length (0 : Int)).length p0.cell.length) fun a hr => ?_
 refine ln ?_
 refine sr ?_
 refine oo [12, 13, 14, 15] [.slice ca6 (List.replicate p0.cell.length (0 : Int)).length p0.cell.length, pA B0 0, pA B0 0, pA B0 2] hr fun a hr => ?_
 refine ld (wn rfl) hr (.slice ca1 p0.cell.length cc2) ((h.pick 1).cell 2 rfl) fun a hr => ?_
 obtain ⟨c7, H⟩ := gd H
 replace h := h.m2.m1
 refine op_copy_row (wn rfl) rfl rfl hr rfl (by kernel_rfl) (by kernel_rfl) encZ_i64_ok (E := 2) (by kernel_rfl) (by kernel_rfl) c7 h fun w a h hr => ?_
 refine ln ?_
 refine sr ?_
 refine oo [18, 2] [.slice ca6 (List.replicate p0.cell.length (0 : Int)).length p0.cell.length, .slice ca6 (List.replicate p0.cell.length (0 : Int)).length p0.cell.length] hr fun a hr => ?_
 refine ln ?_
 refine wp_ret ?_
 refine end_ret1 (v := .slice ca6 (List.replicate p0.cell.length (0 : Int)).length p0.cell.length) rfl hr (by kernel_rfl) ?_
 have hn7 : (List.replicate p0.cell.length (0 : Int)).length = p0.cell.length := h.row_n; replace h := Fit.ren0 hn7 (fun q_ => rowOf 2 1 encZ_i64 (.slice ca6 q_ p0.cell.length) p0.cell) h
 replace H := ej1 H; subst H
 exact ⟨ca6, (by first | rfl | simp only [hn7]), h.se 4 [2, 1, 3, 0]⟩

def plunderlaw2_sameNumbers_l1 (K : Nat) (p0 : List Int) (p1 : List Int) : Nat → Int → Option (Bool)
  | 0, _ => none
  | k1 + 1, g2 => (if g2 < ((p0.length : Nat) : Int) then if inr_ g2 p0.length then if inr_ g2 p1.length then (if (at_ p0 g2.toNat) = (at_ p1 g2.toNat) then (plunderlaw2_sameNumbers_l1 K p0 p1 k1 (wi (g2 + 1))) else some false) else none else none else some true)
/-- plunder/plunderlaw2.sameNumbers -/
def plunderlaw2_sameNumbers (K : Nat) (p0 : List Int) (p1 : List Int) : Option (Bool) :=
  (if ((p0.length : Nat) : Int) = ((p1.length : Nat) : Int) then (plunderlaw2_sameNumbers_l1 K p0 p1 K 0) else some false)

theorem plunderlaw2_sameNumbers_ok {z w : World} {L : List HProp} {K : Nat} {p0 p1 : List Int} {va0 va1 : Option Addr} {vc0 vc1 : Nat} {r0 : Bool} (H : plunderlaw2_sameNumbers K p0 p1 = some r0) (h : Fit z (sepL (L)) w) (hv0 : RdRow L 1 encZ_i64 va0 p0) (hv1 : RdRow L 1 encZ_i64 va1 p1) :
    Calls Try.prog 40 #[.slice va0 p0.length vc0, .slice va1 p1.length vc1] w fun e w => e = .returned (vB r0) ∧ Fit z (sepL (L)) w := by
 unfold plunderlaw2_sameNumbers at H
 refine enter Try.func40 rfl 26 rfl rfl [(0, .slice va0 p0.length vc0), (1, .slice va1 p1.length vc1)] ⟨rfl, rfl, trivial⟩ ?_
 intro j a hr
 refine sr ?_
 refine o1 hr (vB false) fun a hr => ?_
 refine ln ?_
 refine wp_seq ?_
 refine sr ?_
 refine oo [6, 7, 8, 9, 10] [.slice va0 p0.length vc0, vI ((p0.length : Nat) : Int), .slice va1 p1.length vc1, vI ((p1.length : Nat) : Int), vB (((p0.length : Nat) : Int) != ((p1.length : Nat) : Int))] hr fun a hr => ?_
 refine ln ?_
 refine cN hr H (fun c1 H => ?_) fun c1 H => ?_
 ·
  refine wp_skip ?_
  refine then_normal ?_
  refine wp_seq ?_
  refine sr ?_
  refine o1 hr (vI 0) fun a hr => ?_
  refine ln ?_
  refine wp_block ?_
  refine loop_rule (β := Nat) id (fun m a w => ∃ g2 : Int, (plunderlaw2_sameNumbers_l1 K p0 p1 m g2) = some r0 ∧ ∃ j, Rep 26 (lk [(0, .slice va0 p0.length vc0), (1, .slice va1 p1.length vc1), (5, vI g2)] j) a ∧ Fit z (sepL (L)) w) K ⟨0, H, hr.fj h⟩ ?_
  clear h hr a H; rintro k1 a w ⟨g2, H, j, hr, h⟩
  cases k1 with
  | zero => exact absurd H (by simp [plunderlaw2_sameNumbers_l1])
  | succ k1 =>
   rw [plunderlaw2_sameNumbers_l1] at H
   refine wp_seq ?_
   refine sr ?_
   refine oo [11, 12, 13, 14] [vI g2, .slice va0 p0.length vc0, vI ((p0.length : Nat) : Int), vB (decide (g2 < ((p0.length : Nat) : Int)))] hr fun a hr => ?_
   refine ln ?_
   refine cD hr H (fun c3 H => ?_) fun c3 H => ?_
   ·
    refine wp_skip ?_
    refine then_normal ?_
    refine wp_seq ?_
    refine wp_block ?_
    refine wp_seq ?_
    obtain ⟨c4, H⟩ := gd H
    obtain ⟨c5, H⟩ := gd H
    refine regL [(blk va0, offs va0 + g2.toNat * 1, [vI (at_ p0 g2.toNat)]), (blk va1, offs va1 + g2.toNat * 1, [vI (at_ p1 g2.toNat)])] [2, 6] 9 h (fun h => ⟨⟨hv0.cell c4 (h.dn 0) 0 rfl, trivial⟩, ⟨hv1.cell c5 (h.dn 0) 0 rfl, trivial⟩, trivial⟩) fun w h hd => ?_
    refine evs' hd 7 [(0, 17, .slice va0 p0.length vc0), (1, 18, vI g2)] hr fun a hr => ?_
    refine eon hd 6 2 rfl (wn rfl) hr (pA (blk va0) (offs va0 + g2.toNat * 1)) (hrun := fun w => ri_rd (k := .i64) (E := 2) (cc := vc0) rfl (by kernel_rfl) (by kernel_rfl) rfl (by kernel_rfl) (by kernel_rfl) hv0 c4) fun a hr => ?_
    refine evs' hd 4 [(4, 21, .slice va1 p1.length vc1), (5, 22, vI g2)] hr fun a hr => ?_
    refine eon hd 3 6 rfl (wn rfl) hr (pA (blk va1) (offs va1 + g2.toNat * 1)) (hrun := fun w => ri_rd (k := .i64) (E := 2) (cc := vc1) rfl (by kernel_rfl) (by kernel_rfl) rfl (by kernel_rfl) (by kernel_rfl) hv1 c5) fun a hr => ?_
    refine elx hd 0 2 3 hr (wn rfl) rfl rfl fun a hr => ?_
    refine elx hd 1 1 7 hr (wn rfl) rfl rfl fun a hr => ?_
    refine evs' hd 0 [(8, 25, vB ((at_ p0 g2.toNat) != (at_ p1 g2.toNat)))] hr fun a hr => ?_
    refine een ?_
    refine then_normal ?_
    refine cN hr H (fun c6 H => ?_) fun c6 H => ?_
    ·
     refine wp_skip ?_
     refine blk_normal ?_
     refine then_normal ?_
     refine wp_region_lit ?_
     refine oo [15, 16, 5] [vI g2, vI (wi (g2 + 1)), vI (wi (g2 + 1))] hr fun a hr => ?_
     refine ln ?_
     exact ⟨_, ⟨(wi (g2 + 1)), H, hr.fj h⟩, Nat.lt_succ_self _⟩
    ·
     refine sr ?_
     refine o1 hr (vB false) fun a hr => ?_
     refine ln ?_
     refine wp_ret ?_
     refine blk_ret ?_
     refine then_ret ?_
     refine then_ret ?_
     refine blk_ret ?_
     refine then_ret ?_
     refine end_ret1 (v := vB false) rfl hr (by kernel_rfl) ?_
     replace H := ej1 H; subst H
     exact ⟨rfl, h⟩
   ·
    refine wp_exit ?_
    refine then_exit ?_
    refine then_exit ?_
    refine blk_here ?_
    refine then_normal ?_
    refine sr ?_
    refine o1 hr (vB true) fun a hr => ?_
    refine ln ?_
    refine wp_ret ?_
    refine end_ret1 (v := vB true) rfl hr (by kernel_rfl) ?_
    replace H := ej1 H; subst H
    exact ⟨rfl, h⟩
 ·
  refine sr ?_
  refine o1 hr (vB false) fun a hr => ?_
  refine ln ?_
  refine wp_ret ?_
  refine then_ret ?_
  refine end_ret1 (v := vB false) rfl hr (by kernel_rfl) ?_
  replace H := ej1 H; subst H
  exact ⟨rfl, h⟩

/-- (*plunder/plunderlaw2.book).mark -/
def plunderlaw2_book_mark (p0 : T_plunderlaw2_book) : Option (Int × T_plunderlaw2_book) :=
  some (wi ((wi ((1000003 : Int) * (wi (p0.next + 16)))) + 7), { p0 with next := wi (p0.next + 16) })

theorem plunderlaw2_book_mark_ok {z w : World} {L : List HProp} {p0 q0 : T_plunderlaw2_book} {B0 cc2 cc4 : Nat} {ca1 ca3 : Option Addr} {r0 : Int} (H : plunderlaw2_book_mark p0 = some (r0, q0)) (h : Fit z (sepL (ob78 B0 p0 ca1 cc2 ca3 cc4 :: rn139 ca1 cc2 p0.numberLists :: rn142 ca3 cc4 p0.accessLists :: L)) w)  :
    Calls Try.prog 90 #[pA B0 0] w fun e w => ∃ caq0_1 ccq0_2 caq0_3 ccq0_4, e = .returned (vI r0) ∧ Fit z (sepL (ob78 B0 q0 caq0_1 ccq0_2 caq0_3 ccq0_4 :: rn139 caq0_1 ccq0_2 q0.numberLists :: rn142 caq0_3 ccq0_4 q0.accessLists :: L)) w := by
 unfold plunderlaw2_book_mark at H
 refine enter Try.func90 rfl 17 rfl rfl [(0, pA B0 0)] ⟨rfl, trivial⟩ ?_
 intro j a hr
 refine sr ?_
 refine o1 hr (vI 0) fun a hr => ?_
 refine ln ?_
 refine sr ?_
 refine oo [3, 4, 5, 6] [pA B0 0, pA B0 0, pA B0 0, pA B0 2] hr fun a hr => ?_
 refine ld (wn rfl) hr (vI p0.next) (h.cell 2 rfl) fun a hr => ?_
 refine oo [8, 9, 10] [vI (wi (p0.next + 16)), pA B0 0, pA B0 2] hr fun a hr => ?_
 refine st1 (wn rfl) hr h 2 (vI (wi (p0.next + 16))) (pts B0 (.cells #[.slice ca1 p0.numberLists.length cc2, .slice ca3 p0.accessLists.length cc4, vI (wi (p0.next + 16))] 78)) fun w h => ?_
 refine ln ?_
 refine sr ?_
 refine oo [11, 12, 13] [pA B0 0, pA B0 0, pA B0 2] hr fun a hr => ?_
 refine ld (wn rfl) hr (vI (wi (p0.next + 16))) (h.cell 2 rfl) fun a hr => ?_
 refine oo [15, 16, 2] [vI (wi ((1000003 : Int) * (wi (p0.next + 16)))), vI (wi ((wi ((1000003 : Int) * (wi (p0.next + 16)))) + 7)), vI (wi ((wi ((1000003 : Int) * (wi (p0.next + 16)))) + 7))] hr fun a hr => ?_
 refine ln ?_
 refine wp_ret ?_
 refine end_ret1 (v := vI (wi ((wi ((1000003 : Int) * (wi (p0.next + 16)))) + 7))) rfl hr (by kernel_rfl) ?_
 obtain ⟨rfl, rfl⟩ := ej2 H
 exact ⟨ca1, cc2, ca3, cc4, rfl, h⟩

def plunderlaw2_book_numbers_l1 (K : Nat) (p1 : List Int) (r6 : Int) : Nat → (List Int) → Int → Option ((List Int))
  | 0, _, _ => none
  | k1 + 1, l16, g17 => (if g17 < ((p1.length : Nat) : Int) then if inr_ g17 l16.length then (plunderlaw2_book_numbers_l1 K p1 r6 k1 (l16.set g17.toNat r6) (wi (g17 + 1))) else none else some l16)
def plunderlaw2_book_numbers_l2 (K : Nat) (r6 : Int) : Nat → (List Int) → Int → Option (Unit)
  | 0, _, _ => none
  | k2 + 1, l24, g25 => (if g25 < 64 then if (l24.length + 1) * 8 ≤ 140737488355328 then (plunderlaw2_book_numbers_l2 K r6 k2 (l24 ++ [wi (r6 + 7)]) (wi (g25 + 1))) else none else some ())
/-- (*plunder/plunderlaw2.book).numbers -/
def plunderlaw2_book_numbers (K : Nat) (p0 : T_plunderlaw2_book) (p1 : List Int) : Option (T_plunderlaw2_book) :=
  ob2 (plunderlaw2_book_mark p0) (fun r6 S7 => ob1 ((plunderlaw2_book_numbers_l1 K p1 r6 K p1 0)) (fun l13 => ob0 (if (l13.length + 1) * 8 ≤ 140737488355328 then (plunderlaw2_book_numbers_l2 K r6 K (l13 ++ [wi (r6 + 7)]) 1) else none) (if (l13.length + 1) * 8 ≤ 140737488355328 then if (l13.length + 2) * 8 ≤ 140737488355328 then if (l13.length + 3) * 8 ≤ 140737488355328 then if (S7.numberLists.length + 1) * 104 ≤ 140737488355328 then some ({ S7 with numberLists := S7.numberLists ++ [(⟨r6, l13, l13 ++ [wi (r6 + 1)], l13 ++ [wi (r6 + 2), wi (r6 + 3)], l13 ++ [wi (r6 + 4), wi (r6 + 5), wi (r6 + 6)]⟩ : T_plunderlaw2_kept)] }) else none else none else none else none)))

theorem plunderlaw2_book_numbers_ok {z w : World} {L : List HProp} {K : Nat} {p0 q0 : T_plunderlaw2_book} {p1 : List Int} {B0 cc2 cc4 : Nat} {ca1 ca3 ca5 : Option Addr} (H : plunderlaw2_book_numbers K p0 p1 = some q0) (h : Fit z (sepL (ob78 B0 p0 ca1 cc2 ca3 cc4 :: rn139 ca1 cc2 p0.numberLists :: rn142 ca3 cc4 p0.accessLists :: ro2 ca5 p1.length p1 :: L)) w)  :
    Calls Try.prog 42 #[pA B0 0, .slice ca5 p1.length p1.length] w fun e w => ∃ caq0_1 ccq0_2 caq0_3 ccq0_4, e = .returned (.tuple #[]) ∧ Fit z (sepL (ob78 B0 q0 caq0_1 ccq0_2 caq0_3 ccq0_4 :: rn139 caq0_1 ccq0_2 q0.numberLists :: rn142 caq0_3 ccq0_4 q0.accessLists :: L)) w := by
 unfold plunderlaw2_book_numbers at H
 refine enter Try.func42 rfl 69 rfl rfl [(0, pA B0 0), (1, .slice ca5 p1.length p1.length)] ⟨rfl, rfl, trivial⟩ ?_
 intro j a hr
 refine sr ?_
 obtain ⟨r6, S7, e8, H⟩ := bd2 H
 refine o1 hr (pA B0 0) fun a hr => ?_
 have hc := plunderlaw2_book_mark_ok (H := e8) (h := h)
 refine cl (wn rfl) hr hc ?_; clear hc h
 rintro _ w ⟨caq9, ccq10, caq11, ccq12, rfl, h⟩; refine ⟨_, rfl, fun a hr => ?_⟩
 refine o1 hr (vI r6) fun a hr => ?_
 refine ln ?_
 obtain ⟨o15, H, hK14⟩ := kd1 H
 refine cut_rule (β := Unit) (fun _ a w => ∃ l13 : List Int, l13 = o15 ∧ ∃ j, Rep 69 (lk [(0, pA B0 0), (1, .slice ca5 p1.length p1.length), (4, vI r6)] j) a ∧ Fit z (sepL (ob78 B0 S7 caq9 ccq10 caq11 ccq12 :: rn139 caq9 ccq10 S7.numberLists :: rn142 caq11 ccq12 S7.accessLists :: rowOf 2 1 encZ_i64 (.slice ca5 p1.length p1.length) l13 :: L)) w) ?_ ?_
 ·
  refine sr ?_
  refine o1 hr (vI 0) fun a hr => ?_
  refine ln ?_
  refine wp_block ?_
  refine loop_rule (β := Nat) id (fun m a w => ∃ l16 : List Int, ∃ g17 : Int, (plunderlaw2_book_numbers_l1 K p1 r6 m l16 g17) = some o15 ∧ ∃ j, Rep 69 (lk [(0, pA B0 0), (1, .slice ca5 p1.length p1.length), (4, vI r6), (5, vI g17)] j) a ∧ Fit z (sepL (ob78 B0 S7 caq9 ccq10 caq11 ccq12 :: rn139 caq9 ccq10 S7.numberLists :: rn142 caq11 ccq12 S7.accessLists :: rowOf 2 1 encZ_i64 (.slice ca5 p1.length p1.length) l16 :: L)) w) K ⟨p1, 0, H, hr.fj h⟩ ?_
  clear h hr a H; rintro k1 a w ⟨l16, g17, H, j, hr, h⟩
  cases k1 with
  | zero => exact absurd H (by simp [plunderlaw2_book_numbers_l1])
  | succ k1 =>
   rw [plunderlaw2_book_numbers_l1] at H
   refine wp_seq ?_
   refine sr ?_
   refine oo [13, 14, 15, 16] [vI g17, .slice ca5 p1.length p1.length, vI ((p1.length : Nat) : Int), vB (decide (g17 < ((p1.length : Nat) : Int)))] hr fun a hr => ?_
   refine ln ?_
   refine cD hr H (fun c18 H => ?_) fun c18 H => ?_
   ·
    refine wp_skip ?_
    refine then_normal ?_
    refine wp_seq ?_
    refine wp_block ?_
    refine wp_region_lit ?_
    obtain ⟨c19, H⟩ := gd H
    refine oo [19, 20, 21] [.slice ca5 p1.length p1.length, vI g17, vI r6] hr fun a hr => ?_
    refine opv (wn rfl) hr (pA (blk ca5) (g17.toNat * 1)) (ri_row (k := .i64) (E := 2) rfl (by kernel_rfl) (by kernel_rfl) (by kernel_rfl) (by kernel_rfl) (h.pick 3) c19) fun a hr => ?_
    replace h := h.m3
    refine stor (wn rfl) hr encZ_i64_ok h g17.toNat 0 (vI r6) (at_ l16 g17.toNat) r6 (at_ok c19) fun w h => ?_
    refine wpList_nil ?_
    refine blk_normal ?_
    refine then_normal ?_
    refine wp_region_lit ?_
    refine oo [17, 18, 5] [vI g17, vI (wi (g17 + 1)), vI (wi (g17 + 1))] hr fun a hr => ?_
    refine ln ?_
    exact ⟨_, ⟨(l16.set g17.toNat r6), (wi (g17 + 1)), H, hr.fj (h.se 4 [1, 2, 3, 0])⟩, Nat.lt_succ_self _⟩
   ·
    refine wp_exit ?_
    refine then_exit ?_
    refine then_exit ?_
    refine blk_here ?_
    refine then_normal ?_
    exact ⟨(), l16, sinj H, hr.fj h⟩
 clear h hr a; rintro _ a w ⟨l13, rfl, j, hr, h⟩
 replace H := kk1 hK14
 refine sr ?_
 refine oo [23, 6] [.slice ca5 p1.length p1.length, .slice ca5 p1.length p1.length] hr fun a hr => ?_
 refine ln ?_
 obtain ⟨o21, H, hK20⟩ := kd0 H
 refine cut_rule (β := Unit) (fun _ a w => () = o21 ∧ ∃ j, Rep 69 (lk [(0, pA B0 0), (1, .slice ca5 p1.length p1.length), (4, vI r6)] j) a ∧ Fit z (sepL (ob78 B0 S7 caq9 ccq10 caq11 ccq12 :: rn139 caq9 ccq10 S7.numberLists :: rn142 caq11 ccq12 S7.accessLists :: rowOf 2 1 encZ_i64 (.slice ca5 p1.length p1.length) l13 :: L)) w) ?_ ?_
 ·
  refine sr ?_
  refine o1 hr (vI 0) fun a hr => ?_
  refine ln ?_
  refine wp_block ?_
  refine loop_first (β := Nat) id (fun m a w => ∃ ca22 : Option Addr, ∃ cc23 : Nat, ∃ l24 : List Int, ∃ g25 : Int, (plunderlaw2_book_numbers_l2 K r6 m l24 g25) = some o21 ∧ ∃ j, Rep 69 (lk [(0, pA B0 0), (1, .slice ca5 p1.length p1.length), (4, vI r6), (6, .slice ca22 l24.length cc23), (7, vI g25)] j) a ∧ Fit z (sepL (ob78 B0 S7 caq9 ccq10 caq11 ccq12 :: rn139 caq9 ccq10 S7.numberLists :: rn142 caq11 ccq12 S7.accessLists :: rowOf 2 1 encZ_i64 (.slice ca5 p1.length p1.length) l13 :: ro2 ca22 cc23 l24 :: L)) w) ?_ ?_
  ·
   refine wp_seq ?_
   refine sr ?_
   refine oo [24, 25] [vI 0, vB true] hr fun a hr => ?_
   refine ln ?_
   refine cond_tt hr (b := true) rfl ?_
   refine wp_skip ?_
   refine then_normal ?_
   refine wp_seq ?_
   refine wp_block ?_
   refine wp_region_lit ?_
   refine oo [28, 29, 30] [.slice ca5 p1.length p1.length, vI r6, vI (wi (r6 + 7))] hr fun a hr => ?_
   refine onew (wn rfl) hr h (fun b => .slice (some ⟨b, 0, none⟩) 1 1) (#[vI (wi (r6 + 7))]) 2 fun b26 w a h hr => ?_
   replace h := h.m4
   obtain ⟨c29, H⟩ := gd H
   refine op_append_fullrow (n0 := p1.length) (c := 1) (bytes := 8) (wn rfl) rfl rfl hr rfl (by kernel_rfl) rfl (by kernel_rfl) (by kernel_rfl) encZ_i64_ok (E := 2) (xs := l13) (by kernel_rfl) (by kernel_rfl) h (news := [wi (r6 + 7)]) (m := 1) rfl ((h.pick 1).news rfl) c29 rfl fun ca27 cc28 w a h hr => ?_
   refine o1 hr (.slice ca27 (l13 ++ [wi (r6 + 7)]).length cc28) fun a hr => ?_
   refine wpList_nil ?_
   refine blk_normal ?_
   refine then_normal ?_
   refine wp_region_lit ?_
   refine oo [26, 27, 7] [vI 0, vI 1, vI 1] hr fun a hr => ?_
   refine ln ?_
   exact ⟨K, ca27, cc28, (l13 ++ [wi (r6 + 7)]), 1, H, hr.fj (h.se 6 [3, 4, 5, 1, 0])⟩
  clear h hr a H; rintro k2 a w ⟨ca22, cc23, l24, g25, H, j, hr, h⟩
  cases k2 with
  | zero => exact absurd H (by simp [plunderlaw2_book_numbers_l2])
  | succ k2 =>
   rw [plunderlaw2_book_numbers_l2] at H
   refine wp_seq ?_
   refine sr ?_
   refine oo [24, 25] [vI g25, vB (decide (g25 < 64))] hr fun a hr => ?_
   refine ln ?_
   refine cD hr H (fun c30 H => ?_) fun c30 H => ?_
   ·
    refine wp_skip ?_
    refine then_normal ?_
    refine wp_seq ?_
    refine wp_block ?_
    refine wp_region_lit ?_
    refine oo [28, 29, 30] [.slice ca22 l24.length cc23, vI r6, vI (wi (r6 + 7))] hr fun a hr => ?_
    refine onew (wn rfl) hr h (fun b => .slice (some ⟨b, 0, none⟩) 1 1) (#[vI (wi (r6 + 7))]) 2 fun b31 w a h hr => ?_
    replace h := h.m5
    obtain ⟨c34, H⟩ := gd H
    refine op_append (n0 := l24.length) (c := 1) (bytes := 8) (wn rfl) rfl rfl hr rfl (by kernel_rfl) (by kernel_rfl) encZ_i64_ok (E := 2) (xs := l24) (by kernel_rfl) (by kernel_rfl) h (news := [wi (r6 + 7)]) (m := 1) rfl ((h.pick 1).news rfl) c34 rfl fun ca32 cc33 w a h hr => ?_
    refine o1 hr (.slice ca32 (l24 ++ [wi (r6 + 7)]).length cc33) fun a hr => ?_
    refine wpList_nil ?_
    refine blk_normal ?_
    refine then_normal ?_
    refine wp_region_lit ?_
    refine oo [26, 27, 7] [vI g25, vI (wi (g25 + 1)), vI (wi (g25 + 1))] hr fun a hr => ?_
    refine ln ?_
    exact ⟨_, ⟨ca32, cc33, (l24 ++ [wi (r6 + 7)]), (wi (g25 + 1)), H, hr.fj (h.se 6 [2, 3, 4, 5, 0])⟩, Nat.lt_succ_self _⟩
   ·
    refine wp_exit ?_
    refine then_exit ?_
    refine then_exit ?_
    refine blk_here ?_
    refine then_normal ?_
    exact ⟨(), sinj H, hr.fj (h.se 5 [0, 1, 2, 3])⟩
 clear h hr a; rintro _ a w ⟨rfl, j, hr, h⟩
 replace H := kk0 hK20
 refine sr ?_
 refine oo [33, 34, 35] [.slice ca5 p1.length p1.length, vI r6, vI (wi (r6 + 1))] hr fun a hr => ?_
 refine onew (wn rfl) hr h (fun b => .slice (some ⟨b, 0, none⟩) 1 1) (#[vI (wi (r6 + 1))]) 2 fun b35 w a h hr => ?_
 replace h := h.m4
 obtain ⟨c38, H⟩ := gd H
 refine op_append_fullrow (n0 := p1.length) (c := 1) (bytes := 8) (wn rfl) rfl rfl hr rfl (by kernel_rfl) rfl (by kernel_rfl) (by kernel_rfl) encZ_i64_ok (E := 2) (xs := l13) (by kernel_rfl) (by kernel_rfl) h (news := [wi (r6 + 1)]) (m := 1) rfl ((h.pick 1).news rfl) c38 rfl fun ca36 cc37 w a h hr => ?_
 refine o1 hr (.slice ca36 (l13 ++ [wi (r6 + 1)]).length cc37) fun a hr => ?_
 refine ln ?_
 refine sr ?_
 refine oo [38, 39, 40, 41, 42] [.slice ca5 p1.length p1.length, vI r6, vI (wi (r6 + 2)), vI r6, vI (wi (r6 + 3))] hr fun a hr => ?_
 refine onew (wn rfl) hr h (fun b => .slice (some ⟨b, 0, none⟩) 2 2) (#[vI (wi (r6 + 2)), vI (wi (r6 + 3))]) 2 fun b39 w a h hr => ?_
 replace h := h.m2
 obtain ⟨c42, H⟩ := gd H
 refine op_append_fullrow (n0 := p1.length) (c := 2) (bytes := 8) (wn rfl) rfl rfl hr rfl (by kernel_rfl) rfl (by kernel_rfl) (by kernel_rfl) encZ_i64_ok (E := 2) (xs := l13) (by kernel_rfl) (by kernel_rfl) h (news := [wi (r6 + 2), wi (r6 + 3)]) (m := 2) rfl ((h.pick 1).news rfl) c42 rfl fun ca40 cc41 w a h hr => ?_
 refine o1 hr (.slice ca40 (l13 ++ [wi (r6 + 2), wi (r6 + 3)]).length cc41) fun a hr => ?_
 refine ln ?_
 refine sr ?_
 refine oo [45, 46, 47, 48, 49, 50, 51] [.slice ca5 p1.length p1.length, vI r6, vI (wi (r6 + 4)), vI r6, vI (wi (r6 + 5)), vI r6, vI (wi (r6 + 6))] hr fun a hr => ?_
 refine onew (wn rfl) hr h (fun b => .slice (some ⟨b, 0, none⟩) 3 3) (#[vI (wi (r6 + 4)), vI (wi (r6 + 5)), vI (wi (r6 + 6))]) 2 fun b43 w a h hr => ?_
 replace h := h.m2
 obtain ⟨c46, H⟩ := gd H
 refine op_append_fullrow (n0 := p1.length) (c := 3) (bytes := 8) (wn rfl) rfl rfl hr rfl (by kernel_rfl) rfl (by kernel_rfl) (by kernel_rfl) encZ_i64_ok (E := 2) (xs := l13) (by kernel_rfl) (by kernel_rfl) h (news := [wi (r6 + 4), wi (r6 + 5), wi (r6 + 6)]) (m := 3) rfl ((h.pick 1).news rfl) c46 rfl fun ca44 cc45 w a h hr => ?_
 refine o1 hr (.slice ca44 (l13 ++ [wi (r6 + 4), wi (r6 + 5), wi (r6 + 6)]).length cc45) fun a hr => ?_
 refine ln ?_
 refine wp_region_lit ?_
 refine oo [54, 55, 56, 57] [pA B0 0, pA B0 0, pA B0 0, pA B0 0] hr fun a hr => ?_
 refine ld (wn rfl) hr (.slice caq9 S7.numberLists.length ccq10) ((h.pick 7).cell 0 rfl) fun a hr => ?_
 refine oo [59, 60, 61, 62, 63, 64] [vI r6, .slice ca5 p1.length p1.length, .slice ca36 (l13 ++ [wi (r6 + 1)]).length cc37, .slice ca40 (l13 ++ [wi (r6 + 2), wi (r6 + 3)]).length cc41, .slice ca44 (l13 ++ [wi (r6 + 4), wi (r6 + 5), wi (r6 + 6)]).length cc45, .agg #[vI r6, .slice ca5 p1.length p1.length, .slice ca36 (l13 ++ [wi (r6 + 1)]).length cc37, .slice ca40 (l13 ++ [wi (r6 + 2), wi (r6 + 3)]).length cc41, .slice ca44 (l13 ++ [wi (r6 + 4), wi (r6 + 5), wi (r6 + 6)]).length cc45]] hr fun a hr => ?_
 refine onew (wn rfl) hr h (fun b => .slice (some ⟨b, 0, none⟩) 1 1) (#[vI r6, .slice ca5 p1.length p1.length, .slice ca36 (l13 ++ [wi (r6 + 1)]).length cc37, .slice ca40 (l13 ++ [wi (r6 + 2), wi (r6 + 3)]).length cc41, .slice ca44 (l13 ++ [wi (r6 + 4), wi (r6 + 5), wi (r6 + 6)]).length cc45]) 139 fun b47 w a h hr => ?_
 replace h := h.m2
 have hn47 : p1.length = l13.length := h.row_n; replace h := Fit.ren1 hn47 (fun q_ => rowOf 2 1 encZ_i64 (.slice ca5 q_ p1.length) l13) (fun q_ => pts b47 (.cells #[vI r6, .slice ca5 q_ p1.length, .slice ca36 (l13 ++ [wi (r6 + 1)]).length cc37, .slice ca40 (l13 ++ [wi (r6 + 2), wi (r6 + 3)]).length cc41, .slice ca44 (l13 ++ [wi (r6 + 4), wi (r6 + 5), wi (r6 + 6)]).length cc45] 139)) h
 replace h := h.m2.m4.m6.m3
 replace h := own_T_plunderlaw2_kept_sh (x := (⟨r6, l13, l13 ++ [wi (r6 + 1)], l13 ++ [wi (r6 + 2), wi (r6 + 3)], l13 ++ [wi (r6 + 4), wi (r6 + 5), wi (r6 + 6)]⟩ : T_plunderlaw2_kept)) h
 obtain ⟨c49, H⟩ := gd H
 replace h := h.m6
 refine op_append_N (n0 := S7.numberLists.length) (c := 1) (bytes := 104) (sz := 5) (wn rfl) rfl rfl hr rfl (by kernel_rfl) (by kernel_rfl) (E := 139) (xs := S7.numberLists) (by kernel_rfl) (by kernel_rfl) rfl rfl rfl h ((h.pick 2).news rfl) c49 rfl fun ca50 cc51 w a h hr => ?_
 refine oo [67, 68] [pA B0 0, pA B0 0] hr fun a hr => ?_
 replace h := h.m5
 refine st1 (wn rfl) hr h 0 (.slice ca50 (S7.numberLists ++ [(⟨r6, l13, l13 ++ [wi (r6 + 1)], l13 ++ [wi (r6 + 2), wi (r6 + 3)], l13 ++ [wi (r6 + 4), wi (r6 + 5), wi (r6 + 6)]⟩ : T_plunderlaw2_kept)]).length cc51) (pts B0 (.cells #[.slice ca50 (S7.numberLists ++ [(⟨r6, l13, l13 ++ [wi (r6 + 1)], l13 ++ [wi (r6 + 2), wi (r6 + 3)], l13 ++ [wi (r6 + 4), wi (r6 + 5), wi (r6 + 6)]⟩ : T_plunderlaw2_kept)]).length cc51, .slice caq11 S7.accessLists.length ccq12, vI S7.next] 78)) fun w h => ?_
 refine wpList_nil ?_
 refine end_norm0 rfl hr ?_
 replace H := ej1 H; subst H
 exact ⟨ca50, cc51, caq11, ccq12, rfl, h.se 7 [0, 1, 6]⟩

/-- (*plunder/cells.Arena).Log -/
def cells_Arena_Log (p0 : T_cells_Arena) : Option ((List T_api_Access)) :=
  if 0 ≤ ((p0.log.length : Nat) : Int) ∧ ((p0.log.length : Nat) : Int) * 48 ≤ 140737488355328 then if p0.log.length = (List.replicate p0.log.length (⟨0, 0, 0, 0, 0, false⟩ : T_api_Access)).length then some p0.log else none else none

theorem cells_Arena_Log_ok {z w : World} {L : List HProp} {p0 : T_cells_Arena} {B0 cc2 cc4 : Nat} {ca1 ca3 : Option Addr} {r0 : List T_api_Access} (H : cells_Arena_Log p0 = some r0) (h : Fit z (sepL (ob96 B0 p0 ca1 cc2 ca3 cc4 :: ro2 ca1 cc2 p0.cell :: ro90 ca3 cc4 p0.log :: L)) w)  :
    Calls Try.prog 70 #[pA B0 0] w fun e w => ∃ car0_1, e = .returned (.slice car0_1 r0.length r0.length) ∧ Fit z (sepL (ob96 B0 p0 ca1 cc2 ca3 cc4 :: ro2 ca1 cc2 p0.cell :: ro90 ca3 cc4 p0.log :: ro90 car0_1 r0.length r0 :: L)) w := by
 unfold cells_Arena_Log at H
 refine enter Try.func70 rfl 19 rfl rfl [(0, pA B0 0)] ⟨rfl, trivial⟩ ?_
 intro j a hr
 refine sr ?_
 refine o1 hr (.slice none 0 0) fun a hr => ?_
 refine ln ?_
 refine wp_seq ?_
 refine sr ?_
 refine oo [4, 5] [pA B0 0, vB false] hr fun a hr => ?_
 refine ln ?_
 refine cond_ff hr (b := false) rfl ?_
 refine wp_skip ?_
 refine then_normal ?_
 refine sr ?_
 refine oo [6, 7, 8] [pA B0 0, pA B0 0, pA B0 3] hr fun a hr => ?_
 refine ld (wn rfl) hr (.slice ca3 p0.log.length cc4) (h.cell 3 rfl) fun a hr => ?_
 obtain ⟨c5, H⟩ := gd H
 refine o1 hr (vI ((p0.log.length : Nat) : Int)) fun a hr => ?_
 refine op_make_row (i := ((p0.log.length : Nat) : Int)) (bytes := 48) (zc := #[vI 0, vI 0, vI 0, vI 0, vI 0, vB false]) (⟨0, 0, 0, 0, 0, false⟩ : T_api_Access) (wn rfl) rfl rfl hr rfl (by kernel_rfl) (by kernel_rfl) c5 enc_T_api_Access_ok (E := 90) (by kernel_rfl) (by kernel_rfl) rfl rfl h fun ca6 w a h hr => ?_
 refine o1 hr (.slice ca6 (List.replicate p0.log.length (⟨0, 0, 0, 0, 0, false⟩ : T_api_Access)).length p0.log.length) fun a hr => ?_
 refine ln ?_
 refine sr ?_
 refine oo [12, 13, 14, 15] [.slice ca6 (List.replicate p0.log.length (⟨0, 0, 0, 0, 0, false⟩ : T_api_Access)).length p0.log.length, pA B0 0, pA B0 0, pA B0 3] hr fun a hr => ?_
 refine ld (wn rfl) hr (.slice ca3 p0.log.length cc4) ((h.pick 1).cell 3 rfl) fun a hr => ?_
 obtain ⟨c7, H⟩ := gd H
 replace h := h.m3.m1
 refine op_copy_row (wn rfl) rfl rfl hr rfl (by kernel_rfl) (by kernel_rfl) enc_T_api_Access_ok (E := 90) (by kernel_rfl) (by kernel_rfl) c7 h fun w a h hr => ?_
 refine ln ?_
 refine sr ?_
 refine oo [18, 2] [.slice ca6 (List.replicate p0.log.length (⟨0, 0, 0, 0, 0, false⟩ : T_api_Access)).length p0.log.length, .slice ca6 (List.replicate p0.log.length (⟨0, 0, 0, 0, 0, false⟩ : T_api_Access)).length p0.log.length] hr fun a hr => ?_
 refine ln ?_
 refine wp_ret ?_
 refine end_ret1 (v := .slice ca6 (List.replicate p0.log.length (⟨0, 0, 0, 0, 0, false⟩ : T_api_Access)).length p0.log.length) rfl hr (by kernel_rfl) ?_
 have hn7 : (List.replicate p0.log.length (⟨0, 0, 0, 0, 0, false⟩ : T_api_Access)).length = p0.log.length := h.row_n; replace h := Fit.ren0 hn7 (fun q_ => rowOf 90 6 enc_T_api_Access (.slice ca6 q_ p0.log.length) p0.log) h
 replace H := ej1 H; subst H
 exact ⟨ca6, (by first | rfl | simp only [hn7]), h.se 4 [2, 3, 1, 0]⟩

def plunderlaw2_sameLog_l1 (K : Nat) (p0 : List T_api_Access) (p1 : List T_api_Access) : Nat → Int → Option (Bool)
  | 0, _ => none
  | k1 + 1, g2 => (if g2 < ((p0.length : Nat) : Int) then if inr_ g2 p0.length then if inr_ g2 p1.length then (if at_ p0 g2.toNat = at_ p1 g2.toNat then (plunderlaw2_sameLog_l1 K p0 p1 k1 (wi (g2 + 1))) else some false) else none else none else some true)
/-- plunder/plunderlaw2.sameLog -/
def plunderlaw2_sameLog (K : Nat) (p0 : List T_api_Access) (p1 : List T_api_Access) : Option (Bool) :=
  (if ((p0.length : Nat) : Int) = ((p1.length : Nat) : Int) then (plunderlaw2_sameLog_l1 K p0 p1 K 0) else some false)

theorem plunderlaw2_sameLog_ok {z w : World} {L : List HProp} {K : Nat} {p0 p1 : List T_api_Access} {va0 va1 : Option Addr} {vc0 vc1 : Nat} {r0 : Bool} (H : plunderlaw2_sameLog K p0 p1 = some r0) (h : Fit z (sepL (L)) w) (hv0 : RdRow L 6 enc_T_api_Access va0 p0) (hv1 : RdRow L 6 enc_T_api_Access va1 p1) :
    Calls Try.prog 41 #[.slice va0 p0.length vc0, .slice va1 p1.length vc1] w fun e w => e = .returned (vB r0) ∧ Fit z (sepL (L)) w := by
 unfold plunderlaw2_sameLog at H
 refine enter Try.func41 rfl 26 rfl rfl [(0, .slice va0 p0.length vc0), (1, .slice va1 p1.length vc1)] ⟨rfl, rfl, trivial⟩ ?_
 intro j a hr
 refine sr ?_
 refine o1 hr (vB false) fun a hr => ?_
 refine ln ?_
 refine wp_seq ?_
 refine sr ?_
 refine oo [6, 7, 8, 9, 10] [.slice va0 p0.length vc0, vI ((p0.length : Nat) : Int), .slice va1 p1.length vc1, vI ((p1.length : Nat) : Int), vB (((p0.length : Nat) : Int) != ((p1.length : Nat) : Int))] hr fun a hr => ?_
 refine ln ?_
 refine cN hr H (fun c1 H => ?_) fun c1 H => ?_
 ·
  refine wp_skip ?_
  refine then_normal ?_
  refine wp_seq ?_
  refine sr ?_
  refine o1 hr (vI 0) fun a hr => ?_
  refine ln ?_
  refine wp_block ?_
  refine loop_rule (β := Nat) id (fun m a w => ∃ g2 : Int, (plunderlaw2_sameLog_l1 K p0 p1 m g2) = some r0 ∧ ∃ j, Rep 26 (lk [(0, .slice va0 p0.length vc0), (1, .slice va1 p1.length vc1), (5, vI g2)] j) a ∧ Fit z (sepL (L)) w) K ⟨0, H, hr.fj h⟩ ?_
  clear h hr a H; rintro k1 a w ⟨g2, H, j, hr, h⟩
  cases k1 with
  | zero => exact absurd H (by simp [plunderlaw2_sameLog_l1])
  | succ k1 =>
   rw [plunderlaw2_sameLog_l1] at H
   refine wp_seq ?_
   refine sr ?_
   refine oo [11, 12, 13, 14] [vI g2, .slice va0 p0.length vc0, vI ((p0.length : Nat) : Int), vB (decide (g2 < ((p0.length : Nat) : Int)))] hr fun a hr => ?_
   refine ln ?_
   refine cD hr H (fun c3 H => ?_) fun c3 H => ?_
   ·
    refine wp_skip ?_
    refine then_normal ?_
    refine wp_seq ?_
    refine wp_block ?_
    refine wp_seq ?_
    obtain ⟨c4, H⟩ := gd H
    obtain ⟨c5, H⟩ := gd H
    refine regL [(blk va0, offs va0 + g2.toNat * 6, cl_T_api_Access (at_ p0 g2.toNat)), (blk va1, offs va1 + g2.toNat * 6, cl_T_api_Access (at_ p1 g2.toNat))] [2, 6] 9 h (fun h => ⟨⟨hv0.cell c4 (h.dn 0) 0 rfl, hv0.cell c4 (h.dn 0) 1 rfl, hv0.cell c4 (h.dn 0) 2 rfl, hv0.cell c4 (h.dn 0) 3 rfl, hv0.cell c4 (h.dn 0) 4 rfl, hv0.cell c4 (h.dn 0) 5 rfl, trivial⟩, ⟨hv1.cell c5 (h.dn 0) 0 rfl, hv1.cell c5 (h.dn 0) 1 rfl, hv1.cell c5 (h.dn 0) 2 rfl, hv1.cell c5 (h.dn 0) 3 rfl, hv1.cell c5 (h.dn 0) 4 rfl, hv1.cell c5 (h.dn 0) 5 rfl, trivial⟩, trivial⟩) fun w h hd => ?_
    refine evs' hd 7 [(0, 17, .slice va0 p0.length vc0), (1, 18, vI g2)] hr fun a hr => ?_
    refine eon hd 6 2 rfl (wn rfl) hr (pA (blk va0) (offs va0 + g2.toNat * 6)) (hrun := fun w => ri_rd (k := .i64) (E := 90) (cc := vc0) rfl (by kernel_rfl) (by kernel_rfl) rfl (by kernel_rfl) (by kernel_rfl) hv0 c4) fun a hr => ?_
    refine evs' hd 4 [(4, 21, .slice va1 p1.length vc1), (5, 22, vI g2)] hr fun a hr => ?_
    refine eon hd 3 6 rfl (wn rfl) hr (pA (blk va1) (offs va1 + g2.toNat * 6)) (hrun := fun w => ri_rd (k := .i64) (E := 90) (cc := vc1) rfl (by kernel_rfl) (by kernel_rfl) rfl (by kernel_rfl) (by kernel_rfl) hv1 c5) fun a hr => ?_
    refine elm hd 0 2 3 hr (wn rfl) rfl rfl fun a hr => ?_
    refine elm hd 1 1 7 hr (wn rfl) rfl rfl fun a hr => ?_
    refine eon hd 0 8 rfl (wn rfl) hr (vB (!(decide (at_ p0 g2.toNat = at_ p1 g2.toNat)))) (hrun := fun w => rb (rne rfl (by kernel_rfl) (by kernel_rfl) (by kernel_rfl) (by kernel_rfl) (by kernel_rfl) (by kernel_rfl)) (congrArg (!·) (eq_T_api_Access (at_ p0 g2.toNat) (at_ p1 g2.toNat)))) fun a hr => ?_
    refine een ?_
    refine then_normal ?_
    refine cN hr H (fun c6 H => ?_) fun c6 H => ?_
    ·
     refine wp_skip ?_
     refine blk_normal ?_
     refine then_normal ?_
     refine wp_region_lit ?_
     refine oo [15, 16, 5] [vI g2, vI (wi (g2 + 1)), vI (wi (g2 + 1))] hr fun a hr => ?_
     refine ln ?_
     exact ⟨_, ⟨(wi (g2 + 1)), H, hr.fj h⟩, Nat.lt_succ_self _⟩
    ·
     refine sr ?_
     refine o1 hr (vB false) fun a hr => ?_
     refine ln ?_
     refine wp_ret ?_
     refine blk_ret ?_
     refine then_ret ?_
     refine then_ret ?_
     refine blk_ret ?_
     refine then_ret ?_
     refine end_ret1 (v := vB false) rfl hr (by kernel_rfl) ?_
     replace H := ej1 H; subst H
     exact ⟨rfl, h⟩
   ·
    refine wp_exit ?_
    refine then_exit ?_
    refine then_exit ?_
    refine blk_here ?_
    refine then_normal ?_
    refine sr ?_
    refine o1 hr (vB true) fun a hr => ?_
    refine ln ?_
    refine wp_ret ?_
    refine end_ret1 (v := vB true) rfl hr (by kernel_rfl) ?_
    replace H := ej1 H; subst H
    exact ⟨rfl, h⟩
 ·
  refine sr ?_
  refine o1 hr (vB false) fun a hr => ?_
  refine ln ?_
  refine wp_ret ?_
  refine then_ret ?_
  refine end_ret1 (v := vB false) rfl hr (by kernel_rfl) ?_
  replace H := ej1 H; subst H
  exact ⟨rfl, h⟩

/-- plunder/plunderlaw2.entry -/
def plunderlaw2_entry (p0 : Int) : Option (T_api_Access) :=
  some (⟨-3, 9, -4, p0, wi (0 - p0), true⟩ : T_api_Access)

theorem plunderlaw2_entry_ok {z w : World} {L : List HProp} {p0 : Int} {r0 : T_api_Access} (H : plunderlaw2_entry p0 = some r0) (h : Fit z (sepL (L)) w)  :
    Calls Try.prog 91 #[vI p0] w fun e w => e = .returned (ag_T_api_Access r0) ∧ Fit z (sepL (L)) w := by
 unfold plunderlaw2_entry at H
 refine enter Try.func91 rfl 7 rfl rfl [(0, vI p0)] ⟨rfl, trivial⟩ ?_
 intro j a hr
 refine sr ?_
 refine onew (wn rfl) hr h nb (#[vI 0, vI 0, vI 0, vI 0, vI 0, vB false]) 90 fun b1 w a h hr => ?_
 refine ln ?_
 refine sr ?_
 refine oo [3, 4, 5, 6] [vI p0, vI p0, vI (wi (0 - p0)), .agg #[vI (-3), vI 9, vI (-4), vI p0, vI (wi (0 - p0)), vB true]] hr fun a hr => ?_
 refine stm (wn rfl) hr h 0 ([vI (-3), vI 9, vI (-4), vI p0, vI (wi (0 - p0)), vB true]) (pts b1 (.cells #[vI (-3), vI 9, vI (-4), vI p0, vI (wi (0 - p0)), vB true] 90)) fun w h => ?_
 refine ln ?_
 refine wp_ret ?_
 refine end_retC (cs := [vI (-3), vI 9, vI (-4), vI p0, vI (wi (0 - p0)), vB true]) rfl hr (by kernel_rfl) (by kernel_rfl) (by kernel_rfl) (h.held 0 rfl) ?_
 replace H := ej1 H; subst H
 exact ⟨rfl, h.se 1 []⟩

def plunderlaw2_book_accesses_l1 (K : Nat) (p1 : List T_api_Access) (r6 : Int) : Nat → (List T_api_Access) → Int → Option ((List T_api_Access))
  | 0, _, _ => none
  | k1 + 1, l16, g17 => (if g17 < ((p1.length : Nat) : Int) then ob1 (plunderlaw2_entry r6) (fun r19 => if inr_ g17 l16.length then (plunderlaw2_book_accesses_l1 K p1 r6 k1 (l16.set g17.toNat r19) (wi (g17 + 1))) else none) else some l16)
def plunderlaw2_book_accesses_l2 (K : Nat) (r6 : Int) : Nat → (List T_api_Access) → Int → Option (Unit)
  | 0, _, _ => none
  | k2 + 1, l26, g27 => (if g27 < 64 then ob1 (plunderlaw2_entry (wi (r6 + 7))) (fun r35 => if (l26.length + 1) * 48 ≤ 140737488355328 then (plunderlaw2_book_accesses_l2 K r6 k2 (l26 ++ [r35]) (wi (g27 + 1))) else none) else some ())
/-- (*plunder/plunderlaw2.book).accesses -/
def plunderlaw2_book_accesses (K : Nat) (p0 : T_plunderlaw2_book) (p1 : List T_api_Access) : Option (T_plunderlaw2_book) :=
  ob2 (plunderlaw2_book_mark p0) (fun r6 S7 => ob1 ((plunderlaw2_book_accesses_l1 K p1 r6 K p1 0)) (fun l13 => ob0 (ob1 (plunderlaw2_entry (wi (r6 + 7))) (fun r28 => if (l13.length + 1) * 48 ≤ 140737488355328 then (plunderlaw2_book_accesses_l2 K r6 K (l13 ++ [r28]) 1) else none)) (ob1 (plunderlaw2_entry (wi (r6 + 1))) (fun r41 => if (l13.length + 1) * 48 ≤ 140737488355328 then ob1 (plunderlaw2_entry (wi (r6 + 2))) (fun r47 => ob1 (plunderlaw2_entry (wi (r6 + 3))) (fun r49 => if (l13.length + 2) * 48 ≤ 140737488355328 then ob1 (plunderlaw2_entry (wi (r6 + 4))) (fun r55 => ob1 (plunderlaw2_entry (wi (r6 + 5))) (fun r57 => ob1 (plunderlaw2_entry (wi (r6 + 6))) (fun r59 => if (l13.length + 3) * 48 ≤ 140737488355328 then if (S7.accessLists.length + 1) * 104 ≤ 140737488355328 then some ({ S7 with accessLists := S7.accessLists ++ [(⟨r6, l13, l13 ++ [r41], l13 ++ [r47, r49], l13 ++ [r55, r57, r59]⟩ : T_plunderlaw2_noted)] }) else none else none))) else none)) else none))))

theorem plunderlaw2_book_accesses_ok {z w : World} {L : List HProp} {K : Nat} {p0 q0 : T_plunderlaw2_book} {p1 : List T_api_Access} {B0 cc2 cc4 : Nat} {ca1 ca3 ca5 : Option Addr} (H : plunderlaw2_book_accesses K p0 p1 = some q0) (h : Fit z (sepL (ob78 B0 p0 ca1 cc2 ca3 cc4 :: rn139 ca1 cc2 p0.numberLists :: rn142 ca3 cc4 p0.accessLists :: ro90 ca5 p1.length p1 :: L)) w)  :
    Calls Try.prog 43 #[pA B0 0, .slice ca5 p1.length p1.length] w fun e w => ∃ caq0_1 ccq0_2 caq0_3 ccq0_4, e = .returned (.tuple #[]) ∧ Fit z (sepL (ob78 B0 q0 caq0_1 ccq0_2 caq0_3 ccq0_4 :: rn139 caq0_1 ccq0_2 q0.numberLists :: rn142 caq0_3 ccq0_4 q0.accessLists :: L)) w := by
 unfold plunderlaw2_book_accesses at H
 refine enter Try.func43 rfl 77 rfl rfl [(0, pA B0 0), (1, .slice ca5 p1.length p1.length)] ⟨rfl, rfl, trivial⟩ ?_
 intro j a hr
 refine sr ?_
 obtain ⟨r6, S7, e8, H⟩ := bd2 H
 refine o1 hr (pA B0 0) fun a hr => ?_
 have hc := plunderlaw2_book_mark_ok (H := e8) (h := h)
 refine cl (wn rfl) hr hc ?_; clear hc h
 rintro _ w ⟨caq9, ccq10, caq11, ccq12, rfl, h⟩; refine ⟨_, rfl, fun a hr => ?_⟩
 refine o1 hr (vI r6) fun a hr => ?_
 refine ln ?_
 obtain ⟨o15, H, hK14⟩ := kd1 H
 refine cut_rule (β := Unit) (fun _ a w => ∃ l13 : List T_api_Access, l13 = o15 ∧ ∃ j, Rep 77 (lk [(0, pA B0 0), (1, .slice ca5 p1.length p1.length), (4, vI r6)] j) a ∧ Fit z (sepL (ob78 B0 S7 caq9 ccq10 caq11 ccq12 :: rn139 caq9 ccq10 S7.numberLists :: rn142 caq11 ccq12 S7.accessLists :: rowOf 90 6 enc_T_api_Access (.slice ca5 p1.length p1.length) l13 :: L)) w) ?_ ?_
 ·
  refine sr ?_
  refine o1 hr (vI 0) fun a hr => ?_
  refine ln ?_
  refine wp_block ?_
  refine loop_rule (β := Nat) id (fun m a w => ∃ l16 : List T_api_Access, ∃ g17 : Int, (plunderlaw2_book_accesses_l1 K p1 r6 m l16 g17) = some o15 ∧ ∃ j, Rep 77 (lk [(0, pA B0 0), (1, .slice ca5 p1.length p1.length), (4, vI r6), (5, vI g17)] j) a ∧ Fit z (sepL (ob78 B0 S7 caq9 ccq10 caq11 ccq12 :: rn139 caq9 ccq10 S7.numberLists :: rn142 caq11 ccq12 S7.accessLists :: rowOf 90 6 enc_T_api_Access (.slice ca5 p1.length p1.length) l16 :: L)) w) K ⟨p1, 0, H, hr.fj h⟩ ?_
  clear h hr a H; rintro k1 a w ⟨l16, g17, H, j, hr, h⟩
  cases k1 with
  | zero => exact absurd H (by simp [plunderlaw2_book_accesses_l1])
  | succ k1 =>
   rw [plunderlaw2_book_accesses_l1] at H
   refine wp_seq ?_
   refine sr ?_
   refine oo [13, 14, 15, 16] [vI g17, .slice ca5 p1.length p1.length, vI ((p1.length : Nat) : Int), vB (decide (g17 < ((p1.length : Nat) : Int)))] hr fun a hr => ?_
   refine ln ?_
   refine cD hr H (fun c18 H => ?_) fun c18 H => ?_
   ·
    refine wp_skip ?_
    refine then_normal ?_
    refine wp_seq ?_
    refine wp_block ?_
    refine wp_region_lit ?_
    obtain ⟨r19, e20, H⟩ := bd1 H
    refine oo [19, 20, 21] [.slice ca5 p1.length p1.length, vI g17, vI r6] hr fun a hr => ?_
    have hc := plunderlaw2_entry_ok (H := e20) (h := h)
    refine cl (wn rfl) hr hc ?_; clear hc h
    rintro _ w ⟨rfl, h⟩; refine ⟨_, rfl, fun a hr => ?_⟩
    obtain ⟨c21, H⟩ := gd H
    refine opv (wn rfl) hr (pA (blk ca5) (g17.toNat * 6)) (ri_row (k := .i64) (E := 90) rfl (by kernel_rfl) (by kernel_rfl) (by kernel_rfl) (by kernel_rfl) (h.pick 3) c21) fun a hr => ?_
    replace h := h.m3
    refine op_stores_row (wn rfl) rfl hr rfl (by kernel_rfl) (by kernel_rfl) (vs := cl_T_api_Access r19) rfl (by kernel_rfl) enc_T_api_Access_ok h (i := g17.toNat) (q := r19) (at_okL c21) rfl fun w h => ?_
    refine wpList_nil ?_
    refine blk_normal ?_
    refine then_normal ?_
    refine wp_region_lit ?_
    refine oo [17, 18, 5] [vI g17, vI (wi (g17 + 1)), vI (wi (g17 + 1))] hr fun a hr => ?_
    refine ln ?_
    exact ⟨_, ⟨(l16.set g17.toNat r19), (wi (g17 + 1)), H, hr.fj (h.se 4 [1, 2, 3, 0])⟩, Nat.lt_succ_self _⟩
   ·
    refine wp_exit ?_
    refine then_exit ?_
    refine then_exit ?_
    refine blk_here ?_
    refine then_normal ?_
    exact ⟨(), l16, sinj H, hr.fj h⟩
 clear h hr a; rintro _ a w ⟨l13, rfl, j, hr, h⟩
 replace H := kk1 hK14
 refine sr ?_
 refine oo [24, 6] [.slice ca5 p1.length p1.length, .slice ca5 p1.length p1.length] hr fun a hr => ?_
 refine ln ?_
 obtain ⟨o23, H, hK22⟩ := kd0 H
 refine cut_rule (β := Unit) (fun _ a w => () = o23 ∧ ∃ j, Rep 77 (lk [(0, pA B0 0), (1, .slice ca5 p1.length p1.length), (4, vI r6)] j) a ∧ Fit z (sepL (ob78 B0 S7 caq9 ccq10 caq11 ccq12 :: rn139 caq9 ccq10 S7.numberLists :: rn142 caq11 ccq12 S7.accessLists :: rowOf 90 6 enc_T_api_Access (.slice ca5 p1.length p1.length) l13 :: L)) w) ?_ ?_
 ·
  refine sr ?_
  refine o1 hr (vI 0) fun a hr => ?_
  refine ln ?_
  refine wp_block ?_
  refine loop_first (β := Nat) id (fun m a w => ∃ ca24 : Option Addr, ∃ cc25 : Nat, ∃ l26 : List T_api_Access, ∃ g27 : Int, (plunderlaw2_book_accesses_l2 K r6 m l26 g27) = some o23 ∧ ∃ j, Rep 77 (lk [(0, pA B0 0), (1, .slice ca5 p1.length p1.length), (4, vI r6), (6, .slice ca24 l26.length cc25), (7, vI g27)] j) a ∧ Fit z (sepL (ob78 B0 S7 caq9 ccq10 caq11 ccq12 :: rn139 caq9 ccq10 S7.numberLists :: rn142 caq11 ccq12 S7.accessLists :: rowOf 90 6 enc_T_api_Access (.slice ca5 p1.length p1.length) l13 :: ro90 ca24 cc25 l26 :: L)) w) ?_ ?_
  ·
   refine wp_seq ?_
   refine sr ?_
   refine oo [25, 26] [vI 0, vB true] hr fun a hr => ?_
   refine ln ?_
   refine cond_tt hr (b := true) rfl ?_
   refine wp_skip ?_
   refine then_normal ?_
   refine wp_seq ?_
   refine wp_block ?_
   refine wp_region_lit ?_
   obtain ⟨r28, e29, H⟩ := bd1 H
   refine oo [29, 30, 31] [.slice ca5 p1.length p1.length, vI r6, vI (wi (r6 + 7))] hr fun a hr => ?_
   have hc := plunderlaw2_entry_ok (H := e29) (h := h)
   refine cl (wn rfl) hr hc ?_; clear hc h
   rintro _ w ⟨rfl, h⟩; refine ⟨_, rfl, fun a hr => ?_⟩
   refine onew (wn rfl) hr h (fun b => .slice (some ⟨b, 0, none⟩) 1 1) (ca_T_api_Access r28) 90 fun b30 w a h hr => ?_
   replace h := h.m4
   obtain ⟨c33, H⟩ := gd H
   refine op_append_fullrow (n0 := p1.length) (c := 1) (bytes := 48) (wn rfl) rfl rfl hr rfl (by kernel_rfl) rfl (by kernel_rfl) (by kernel_rfl) enc_T_api_Access_ok (E := 90) (xs := l13) (by kernel_rfl) (by kernel_rfl) h (news := [r28]) (m := 1) rfl ((h.pick 1).news rfl) c33 rfl fun ca31 cc32 w a h hr => ?_
   refine o1 hr (.slice ca31 (l13 ++ [r28]).length cc32) fun a hr => ?_
   refine wpList_nil ?_
   refine blk_normal ?_
   refine then_normal ?_
   refine wp_region_lit ?_
   refine oo [27, 28, 7] [vI 0, vI 1, vI 1] hr fun a hr => ?_
   refine ln ?_
   exact ⟨K, ca31, cc32, (l13 ++ [r28]), 1, H, hr.fj (h.se 6 [3, 4, 5, 1, 0])⟩
  clear h hr a H; rintro k2 a w ⟨ca24, cc25, l26, g27, H, j, hr, h⟩
  cases k2 with
  | zero => exact absurd H (by simp [plunderlaw2_book_accesses_l2])
  | succ k2 =>
   rw [plunderlaw2_book_accesses_l2] at H
   refine wp_seq ?_
   refine sr ?_
   refine oo [25, 26] [vI g27, vB (decide (g27 < 64))] hr fun a hr => ?_
   refine ln ?_
   refine cD hr H (fun c34 H => ?_) fun c34 H => ?_
   ·
    refine wp_skip ?_
    refine then_normal ?_
    refine wp_seq ?_
    refine wp_block ?_
    refine wp_region_lit ?_
    obtain ⟨r35, e36, H⟩ := bd1 H
    refine oo [29, 30, 31] [.slice ca24 l26.length cc25, vI r6, vI (wi (r6 + 7))] hr fun a hr => ?_
    have hc := plunderlaw2_entry_ok (H := e36) (h := h)
    refine cl (wn rfl) hr hc ?_; clear hc h
    rintro _ w ⟨rfl, h⟩; refine ⟨_, rfl, fun a hr => ?_⟩
    refine onew (wn rfl) hr h (fun b => .slice (some ⟨b, 0, none⟩) 1 1) (ca_T_api_Access r35) 90 fun b37 w a h hr => ?_
    replace h := h.m5
    obtain ⟨c40, H⟩ := gd H
    refine op_append (n0 := l26.length) (c := 1) (bytes := 48) (wn rfl) rfl rfl hr rfl (by kernel_rfl) (by kernel_rfl) enc_T_api_Access_ok (E := 90) (xs := l26) (by kernel_rfl) (by kernel_rfl) h (news := [r35]) (m := 1) rfl ((h.pick 1).news rfl) c40 rfl fun ca38 cc39 w a h hr => ?_
    refine o1 hr (.slice ca38 (l26 ++ [r35]).length cc39) fun a hr => ?_
    refine wpList_nil ?_
    refine blk_normal ?_
    refine then_normal ?_
    refine wp_region_lit ?_
    refine oo [27, 28, 7] [vI g27, vI (wi (g27 + 1)), vI (wi (g27 + 1))] hr fun a hr => ?_
    refine ln ?_
    exact ⟨_, ⟨ca38, cc39, (l26 ++ [r35]), (wi (g27 + 1)), H, hr.fj (h.se 6 [2, 3, 4, 5, 0])⟩, Nat.lt_succ_self _⟩
   ·
    refine wp_exit ?_
    refine then_exit ?_
    refine then_exit ?_
    refine blk_here ?_
    refine then_normal ?_
    exact ⟨(), sinj H, hr.fj (h.se 5 [0, 1, 2, 3])⟩
 clear h hr a; rintro _ a w ⟨rfl, j, hr, h⟩
 replace H := kk0 hK22
 refine sr ?_
 obtain ⟨r41, e42, H⟩ := bd1 H
 refine oo [35, 36, 37] [.slice ca5 p1.length p1.length, vI r6, vI (wi (r6 + 1))] hr fun a hr => ?_
 have hc := plunderlaw2_entry_ok (H := e42) (h := h)
 refine cl (wn rfl) hr hc ?_; clear hc h
 rintro _ w ⟨rfl, h⟩; refine ⟨_, rfl, fun a hr => ?_⟩
 refine onew (wn rfl) hr h (fun b => .slice (some ⟨b, 0, none⟩) 1 1) (ca_T_api_Access r41) 90 fun b43 w a h hr => ?_
 replace h := h.m4
 obtain ⟨c46, H⟩ := gd H
 refine op_append_fullrow (n0 := p1.length) (c := 1) (bytes := 48) (wn rfl) rfl rfl hr rfl (by kernel_rfl) rfl (by kernel_rfl) (by kernel_rfl) enc_T_api_Access_ok (E := 90) (xs := l13) (by kernel_rfl) (by kernel_rfl) h (news := [r41]) (m := 1) rfl ((h.pick 1).news rfl) c46 rfl fun ca44 cc45 w a h hr => ?_
 refine o1 hr (.slice ca44 (l13 ++ [r41]).length cc45) fun a hr => ?_
 refine ln ?_
 refine sr ?_
 obtain ⟨r47, e48, H⟩ := bd1 H
 refine oo [41, 42, 43] [.slice ca5 p1.length p1.length, vI r6, vI (wi (r6 + 2))] hr fun a hr => ?_
 have hc := plunderlaw2_entry_ok (H := e48) (h := h)
 refine cl (wn rfl) hr hc ?_; clear hc h
 rintro _ w ⟨rfl, h⟩; refine ⟨_, rfl, fun a hr => ?_⟩
 obtain ⟨r49, e50, H⟩ := bd1 H
 refine oo [45, 46] [vI r6, vI (wi (r6 + 3))] hr fun a hr => ?_
 have hc := plunderlaw2_entry_ok (H := e50) (h := h)
 refine cl (wn rfl) hr hc ?_; clear hc h
 rintro _ w ⟨rfl, h⟩; refine ⟨_, rfl, fun a hr => ?_⟩
 refine onew (wn rfl) hr h (fun b => .slice (some ⟨b, 0, none⟩) 2 2) (#[vI r47.Who, vI r47.Kind, vI r47.Addr, vI r47.A, vI r47.B, vB r47.OK, vI r49.Who, vI r49.Kind, vI r49.Addr, vI r49.A, vI r49.B, vB r49.OK]) 90 fun b51 w a h hr => ?_
 replace h := h.m2
 obtain ⟨c54, H⟩ := gd H
 refine op_append_fullrow (n0 := p1.length) (c := 2) (bytes := 48) (wn rfl) rfl rfl hr rfl (by kernel_rfl) rfl (by kernel_rfl) (by kernel_rfl) enc_T_api_Access_ok (E := 90) (xs := l13) (by kernel_rfl) (by kernel_rfl) h (news := [r47, r49]) (m := 2) rfl ((h.pick 1).news rfl) c54 rfl fun ca52 cc53 w a h hr => ?_
 refine o1 hr (.slice ca52 (l13 ++ [r47, r49]).length cc53) fun a hr => ?_
 refine ln ?_
 refine sr ?_
 obtain ⟨r55, e56, H⟩ := bd1 H
 refine oo [50, 51, 52] [.slice ca5 p1.length p1.length, vI r6, vI (wi (r6 + 4))] hr fun a hr => ?_
 have hc := plunderlaw2_entry_ok (H := e56) (h := h)
 refine cl (wn rfl) hr hc ?_; clear hc h
 rintro _ w ⟨rfl, h⟩; refine ⟨_, rfl, fun a hr => ?_⟩
 obtain ⟨r57, e58, H⟩ := bd1 H
 refine oo [54, 55] [vI r6, vI (wi (r6 + 5))] hr fun a hr => ?_
 have hc := plunderlaw2_entry_ok (H := e58) (h := h)
 refine cl (wn rfl) hr hc ?_; clear hc h
 rintro _ w ⟨rfl, h⟩; refine ⟨_, rfl, fun a hr => ?_⟩
 obtain ⟨r59, e60, H⟩ := bd1 H
 refine oo [57, 58] [vI r6, vI (wi (r6 + 6))] hr fun a hr => ?_
 have hc := plunderlaw2_entry_ok (H := e60) (h := h)
 refine cl (wn rfl) hr hc ?_; clear hc h
 rintro _ w ⟨rfl, h⟩; refine ⟨_, rfl, fun a hr => ?_⟩
 refine onew (wn rfl) hr h (fun b => .slice (some ⟨b, 0, none⟩) 3 3) (#[vI r55.Who, vI r55.Kind, vI r55.Addr, vI r55.A, vI r55.B, vB r55.OK, vI r57.Who, vI r57.Kind, vI r57.Addr, vI r57.A, vI r57.B, vB r57.OK, vI r59.Who, vI r59.Kind, vI r59.Addr, vI r59.A, vI r59.B, vB r59.OK]) 90 fun b61 w a h hr => ?_
 replace h := h.m2
 obtain ⟨c64, H⟩ := gd H
 refine op_append_fullrow (n0 := p1.length) (c := 3) (bytes := 48) (wn rfl) rfl rfl hr rfl (by kernel_rfl) rfl (by kernel_rfl) (by kernel_rfl) enc_T_api_Access_ok (E := 90) (xs := l13) (by kernel_rfl) (by kernel_rfl) h (news := [r55, r57, r59]) (m := 3) rfl ((h.pick 1).news rfl) c64 rfl fun ca62 cc63 w a h hr => ?_
 refine o1 hr (.slice ca62 (l13 ++ [r55, r57, r59]).length cc63) fun a hr => ?_
 refine ln ?_
 refine wp_region_lit ?_
 refine oo [62, 63, 64, 65] [pA B0 0, pA B0 0, pA B0 0, pA B0 1] hr fun a hr => ?_
 refine ld (wn rfl) hr (.slice caq11 S7.accessLists.length ccq12) ((h.pick 7).cell 1 rfl) fun a hr => ?_
 refine oo [67, 68, 69, 70, 71, 72] [vI r6, .slice ca5 p1.length p1.length, .slice ca44 (l13 ++ [r41]).length cc45, .slice ca52 (l13 ++ [r47, r49]).length cc53, .slice ca62 (l13 ++ [r55, r57, r59]).length cc63, .agg #[vI r6, .slice ca5 p1.length p1.length, .slice ca44 (l13 ++ [r41]).length cc45, .slice ca52 (l13 ++ [r47, r49]).length cc53, .slice ca62 (l13 ++ [r55, r57, r59]).length cc63]] hr fun a hr => ?_
 refine onew (wn rfl) hr h (fun b => .slice (some ⟨b, 0, none⟩) 1 1) (#[vI r6, .slice ca5 p1.length p1.length, .slice ca44 (l13 ++ [r41]).length cc45, .slice ca52 (l13 ++ [r47, r49]).length cc53, .slice ca62 (l13 ++ [r55, r57, r59]).length cc63]) 142 fun b65 w a h hr => ?_
 replace h := h.m2
 have hn65 : p1.length = l13.length := h.row_n; replace h := Fit.ren1 hn65 (fun q_ => rowOf 90 6 enc_T_api_Access (.slice ca5 q_ p1.length) l13) (fun q_ => pts b65 (.cells #[vI r6, .slice ca5 q_ p1.length, .slice ca44 (l13 ++ [r41]).length cc45, .slice ca52 (l13 ++ [r47, r49]).length cc53, .slice ca62 (l13 ++ [r55, r57, r59]).length cc63] 142)) h
 replace h := h.m2.m4.m6.m3
 replace h := own_T_plunderlaw2_noted_sh (x := (⟨r6, l13, l13 ++ [r41], l13 ++ [r47, r49], l13 ++ [r55, r57, r59]⟩ : T_plunderlaw2_noted)) h
 obtain ⟨c67, H⟩ := gd H
 replace h := h.m7
 refine op_append_N (n0 := S7.accessLists.length) (c := 1) (bytes := 104) (sz := 5) (wn rfl) rfl rfl hr rfl (by kernel_rfl) (by kernel_rfl) (E := 142) (xs := S7.accessLists) (by kernel_rfl) (by kernel_rfl) rfl rfl rfl h ((h.pick 2).news rfl) c67 rfl fun ca68 cc69 w a h hr => ?_
 refine oo [75, 76] [pA B0 0, pA B0 1] hr fun a hr => ?_
 replace h := h.m5
 refine st1 (wn rfl) hr h 1 (.slice ca68 (S7.accessLists ++ [(⟨r6, l13, l13 ++ [r41], l13 ++ [r47, r49], l13 ++ [r55, r57, r59]⟩ : T_plunderlaw2_noted)]).length cc69) (pts B0 (.cells #[.slice caq9 S7.numberLists.length ccq10, .slice ca68 (S7.accessLists ++ [(⟨r6, l13, l13 ++ [r41], l13 ++ [r47, r49], l13 ++ [r55, r57, r59]⟩ : T_plunderlaw2_noted)]).length cc69, vI S7.next] 78)) fun w h => ?_
 refine wpList_nil ?_
 refine end_norm0 rfl hr ?_
 replace H := ej1 H; subst H
 exact ⟨caq9, ccq10, ca68, cc69, rfl, h.se 7 [0, 6, 1]⟩

/-- plunder/plunderlaw2.plays -/
def plunderlaw2_plays (K : Nat) (p0 : T_cells_Arena) (p1 : T_plunderref2_Arena) (p2 : T_plunderlaw2_Move) (p3 : T_plunderlaw2_book) : Option (Bool × T_cells_Arena × T_plunderref2_Arena × T_plunderlaw2_book) :=
  jn0 (ob1 ((if p2.Kind ≥ 0 then some (decide (p2.Kind ≤ 4)) else some false)) (fun g16 => (if g16 = true then ob2 (plunderlaw2_done p0 p2) (fun r21 S22 => ob1 (plunderlaw2_act p2) (fun r29 => ob2 (plunderref2_Arena_Do K p1 r29) (fun r31 S32 => some (.inr (decide (r21 = r31), S22, S32, p3))))) else some (.inl ())))) ((if p2.Kind = 5 then ob1 (plunderlaw2_mod p2.A 2) (fun r40 => ob1 (cells_Arena_Watch p0 (r40 == 1)) (fun S42 => ob1 (plunderlaw2_mod p2.A 2) (fun r48 => some (true, S42, { p1 with On := r48 == 1 }, p3)))) else (if p2.Kind = 6 then ob1 (cells_Arena_Who p0 p2.Addr) (fun S51 => some (true, S51, { p1 with Actor := p2.Addr }, p3)) else (if p2.Kind = 7 then ob1 (cells_Arena_Size p0) (fun r58 => some (r58 == p1.Most, p0, p1, p3)) else (if p2.Kind = 8 then ob1 (cells_Arena_Mark p0) (fun r61 => some (r61 == ((p1.Held.length : Nat) : Int), p0, p1, p3)) else (if p2.Kind = 9 then ob1 (cells_Arena_Cells p0) (fun r64 => ob1 (plunderlaw2_sameNumbers K r64 p1.Held) (fun r67 => ob1 (plunderlaw2_book_numbers K p3 r64) (fun S69 => some (r67, p0, p1, S69)))) else (if p2.Kind = 10 then ob1 (cells_Arena_Log p0) (fun r76 => ob1 (plunderlaw2_sameLog K r76 p1.Book) (fun r79 => ob1 (plunderlaw2_book_accesses K p3 r76) (fun S81 => some (r79, p0, p1, S81)))) else some (true, p0, p1, p3))))))))

theorem plunderlaw2_plays_ok {z w : World} {L : List HProp} {K : Nat} {p0 q0 : T_cells_Arena} {p1 q1 : T_plunderref2_Arena} {p2 : T_plunderlaw2_Move} {p3 q3 : T_plunderlaw2_book} {B0 cc2 cc4 B1 cc6 cc8 B3 cc10 cc12 : Nat} {ca1 ca3 ca5 ca7 ca9 ca11 : Option Addr} {r0 : Bool} (H : plunderlaw2_plays K p0 p1 p2 p3 = some (r0, q0, q1, q3)) (h : Fit z (sepL (ob96 B0 p0 ca1 cc2 ca3 cc4 :: ro2 ca1 cc2 p0.cell :: ro90 ca3 cc4 p0.log :: ob62 B1 p1 ca5 cc6 ca7 cc8 :: ro2 ca5 cc6 p1.Held :: ro90 ca7 cc8 p1.Book :: ob78 B3 p3 ca9 cc10 ca11 cc12 :: rn139 ca9 cc10 p3.numberLists :: rn142 ca11 cc12 p3.accessLists :: L)) w)  :
    Calls Try.prog 69 #[pA B0 0, pA B1 0, ag_T_plunderlaw2_Move p2, pA B3 0] w fun e w => ∃ caq0_1 ccq0_2 caq0_3 ccq0_4 caq1_1 ccq1_2 caq1_3 ccq1_4 caq3_1 ccq3_2 caq3_3 ccq3_4, e = .returned (vB r0) ∧ Fit z (sepL (ob96 B0 q0 caq0_1 ccq0_2 caq0_3 ccq0_4 :: ro2 caq0_1 ccq0_2 q0.cell :: ro90 caq0_3 ccq0_4 q0.log :: ob62 B1 q1 caq1_1 ccq1_2 caq1_3 ccq1_4 :: ro2 caq1_1 ccq1_2 q1.Held :: ro90 caq1_3 ccq1_4 q1.Book :: ob78 B3 q3 caq3_1 ccq3_2 caq3_3 ccq3_4 :: rn139 caq3_1 ccq3_2 q3.numberLists :: rn142 caq3_3 ccq3_4 q3.accessLists :: L)) w := by
 unfold plunderlaw2_plays at H
 refine enter Try.func69 rfl 108 rfl rfl [(0, pA B0 0), (1, pA B1 0), (2, ag_T_plunderlaw2_Move p2), (3, pA B3 0)] ⟨rfl, rfl, rfl, rfl, trivial⟩ ?_
 intro j a hr
 refine sr ?_
 refine onew (wn rfl) hr h nb (ca_T_plunderlaw2_Move p2) 30 fun b13 w a h hr => ?_
 refine o1 hr (vB false) fun a hr => ?_
 refine ln ?_
 obtain ⟨o15, H, hK14⟩ := jd0 H
 refine cut_rule (β := Unit) (fun _ a w => .inl () = o15 ∧ ∃ j, Rep 108 (lk [(0, pA B0 0), (1, pA B1 0), (3, pA B3 0), (6, pA b13 0)] j) a ∧ Fit z (sepL (ob96 B0 p0 ca1 cc2 ca3 cc4 :: ro2 ca1 cc2 p0.cell :: ro90 ca3 cc4 p0.log :: ob62 B1 p1 ca5 cc6 ca7 cc8 :: ro2 ca5 cc6 p1.Held :: ro90 ca7 cc8 p1.Book :: ob78 B3 p3 ca9 cc10 ca11 cc12 :: rn139 ca9 cc10 p3.numberLists :: rn142 ca11 cc12 p3.accessLists :: ob30 b13 p2 :: L)) w) ?_ ?_
 ·
  obtain ⟨o18, H, hK17⟩ := kd1 H
  refine cut_rule (β := Unit) (fun _ a w => ∃ g16 : Bool, g16 = o18 ∧ ∃ j, Rep 108 (lk [(0, pA B0 0), (1, pA B1 0), (3, pA B3 0), (6, pA b13 0), (22, vB g16)] j) a ∧ Fit z (sepL (ob96 B0 p0 ca1 cc2 ca3 cc4 :: ro2 ca1 cc2 p0.cell :: ro90 ca3 cc4 p0.log :: ob62 B1 p1 ca5 cc6 ca7 cc8 :: ro2 ca5 cc6 p1.Held :: ro90 ca7 cc8 p1.Book :: ob78 B3 p3 ca9 cc10 ca11 cc12 :: rn139 ca9 cc10 p3.numberLists :: rn142 ca11 cc12 p3.accessLists :: ob30 b13 p2 :: L)) w) ?_ ?_
  ·
   refine wp_region_lit ?_
   refine o1 hr (pA b13 1) fun a hr => ?_
   refine ld (wn rfl) hr (vI p2.Kind) (h.cell 1 rfl) fun a hr => ?_
   refine oo [17, 18] [vB (decide (p2.Kind ≥ 0)), vB (decide (p2.Kind ≥ 0))] hr fun a hr => ?_
   by_cases c19 : p2.Kind ≥ 0
   ·
    replace H := ifT c19 H
    refine onl (decide_eq_true c19) [19] [pA b13 1] hr fun a hr => ?_
    refine ld (wgt hr (decide_eq_true c19)) hr (vI p2.Kind) (h.cell 1 rfl) fun a hr => ?_
    refine onl (decide_eq_true c19) [21] [vB (decide (p2.Kind ≤ 4))] hr fun a hr => ?_
    refine opv (wn rfl) hr (vB (decide (p2.Kind ≤ 4))) (rp_t (b := (decide (p2.Kind ≥ 0))) rfl (by kernel_rfl) (decide_eq_true c19) (by kernel_rfl)) fun a hr => ?_
    refine ln ?_
    exact ⟨(), (decide (p2.Kind ≤ 4)), sinj H, hr.fj (h.se 10 [1, 2, 3, 4, 5, 6, 7, 8, 9, 0])⟩
   ·
    replace H := ifF c19 H
    refine offl (decide_eq_false c19) [19, 20, 21] hr fun a hr => ?_
    refine opv (wn rfl) hr (vB false) (rp_f (b := (decide (p2.Kind ≥ 0))) rfl (by kernel_rfl) (decide_eq_false c19) (by kernel_rfl)) fun a hr => ?_
    refine ln ?_
    exact ⟨(), false, sinj H, hr.fj (h.se 10 [1, 2, 3, 4, 5, 6, 7, 8, 9, 0])⟩
  clear h hr a; rintro _ a w ⟨g16, rfl, j, hr, h⟩
  replace H := kk1 hK17
  refine cV hr H (fun c20 H => ?_) fun c20 H => ?_
  ·
   refine sr ?_
   refine o1 hr (pA B0 0) fun a hr => ?_
   refine ldm (wn rfl) hr (ag_T_plunderlaw2_Move p2) (cs := cl_T_plunderlaw2_Move p2) ((h.pick 9).held 0 rfl) fun a hr => ?_
   obtain ⟨r21, S22, e23, H⟩ := bd2 H
   have hc := plunderlaw2_done_ok (H := e23) (h := h)
   refine cl (wn rfl) hr hc ?_; clear hc h
   rintro _ w ⟨caq24, ccq25, caq26, ccq27, rfl, h⟩; refine ⟨_, rfl, fun a hr => ?_⟩
   refine onew (wn rfl) hr h nb (#[vI 0, vB false, vI 0]) 39 fun b28 w a h hr => ?_
   refine stm (wn rfl) hr h 0 (cl_T_api_Effect r21) (ob39 b28 r21) fun w h => ?_
   refine ln ?_
   refine sr ?_
   refine o1 hr (pA B1 0) fun a hr => ?_
   refine ldm (wn rfl) hr (ag_T_plunderlaw2_Move p2) (cs := cl_T_plunderlaw2_Move p2) ((h.pick 10).held 0 rfl) fun a hr => ?_
   obtain ⟨r29, e30, H⟩ := bd1 H
   have hc := plunderlaw2_act_ok (H := e30) (h := h)
   refine cl (wn rfl) hr hc ?_; clear hc h
   rintro _ w ⟨rfl, h⟩; refine ⟨_, rfl, fun a hr => ?_⟩
   obtain ⟨r31, S32, e33, H⟩ := bd2 H
   replace h := h.m6.m6.m6
   have hc := plunderref2_Arena_Do_ok (H := e33) (h := h)
   refine cl (wn rfl) hr hc ?_; clear hc h
   rintro _ w ⟨caq34, ccq35, caq36, ccq37, rfl, h⟩; refine ⟨_, rfl, fun a hr => ?_⟩
   refine onew (wn rfl) hr h nb (#[vI 0, vB false, vI 0]) 39 fun b38 w a h hr => ?_
   refine stm (wn rfl) hr h 0 (cl_T_api_Effect r31) (ob39 b38 r31) fun w h => ?_
   refine ln ?_
   refine sr ?_
   refine ldm (wn rfl) hr (ag_T_api_Effect r21) (cs := cl_T_api_Effect r21) ((h.pick 4).held 0 rfl) fun a hr => ?_
   refine ldm (wn rfl) hr (ag_T_api_Effect r31) (cs := cl_T_api_Effect r31) (h.held 0 rfl) fun a hr => ?_
   refine opv (wn rfl) hr (vB (decide (r21 = r31))) (rb (req rfl (by kernel_rfl) (by kernel_rfl) (by kernel_rfl) (by kernel_rfl) (by kernel_rfl) (by kernel_rfl)) (eq_T_api_Effect r21 r31)) fun a hr => ?_
   refine o1 hr (vB (decide (r21 = r31))) fun a hr => ?_
   refine ln ?_
   refine wp_ret ?_
   refine then_ret ?_
   refine end_ret1 (v := vB (decide (r21 = r31))) rfl hr (by kernel_rfl) ?_
   replace H := jx0 H hK14
   obtain ⟨rfl, rfl, rfl, rfl⟩ := ej4 H
   exact ⟨caq24, ccq25, caq26, ccq27, caq34, ccq35, caq36, ccq37, ca9, cc10, ca11, cc12, rfl, h.se 12 [5, 6, 7, 1, 2, 3, 8, 9, 10]⟩
  ·
   refine wp_skip ?_
   refine then_normal ?_
   exact ⟨(), sinj H, hr.fj h⟩
 clear h hr a; rintro _ a w ⟨rfl, j, hr, h⟩
 replace H := jk0 hK14
 refine wp_seq ?_
 refine sr ?_
 refine o1 hr (pA b13 1) fun a hr => ?_
 refine ld (wn rfl) hr (vI p2.Kind) ((h.pick 9).cell 1 rfl) fun a hr => ?_
 refine ln ?_
 refine wp_block ?_
 refine sr ?_
 refine oo [36, 35] [vB (p2.Kind == 5), vB (p2.Kind == 5)] hr fun a hr => ?_
 refine ln ?_
 refine cD hr H (fun c39 H => ?_) fun c39 H => ?_
 ·
  refine sr ?_
  refine oo [37, 38] [pA B0 0, pA b13 3] hr fun a hr => ?_
  refine ld (wn rfl) hr (vI p2.A) ((h.pick 9).cell 3 rfl) fun a hr => ?_
  obtain ⟨r40, e41, H⟩ := bd1 H
  have hc := plunderlaw2_mod_ok (H := e41) (h := h)
  refine cl (wn rfl) hr hc ?_; clear hc h
  rintro _ w ⟨rfl, h⟩; refine ⟨_, rfl, fun a hr => ?_⟩
  obtain ⟨S42, e43, H⟩ := bd1 H
  refine o1 hr (vB (r40 == 1)) fun a hr => ?_
  have hc := cells_Arena_Watch_ok (H := e43) (h := h)
  refine cl (wn rfl) hr hc ?_; clear hc h
  rintro _ w ⟨caq44, ccq45, caq46, ccq47, rfl, h⟩; refine ⟨_, rfl, fun a hr => ?_⟩
  refine ln ?_
  refine wp_region_lit ?_
  refine oo [43, 44] [pA B1 0, pA b13 3] hr fun a hr => ?_
  refine ld (wn rfl) hr (vI p2.A) ((h.pick 9).cell 3 rfl) fun a hr => ?_
  obtain ⟨r48, e49, H⟩ := bd1 H
  have hc := plunderlaw2_mod_ok (H := e49) (h := h)
  refine cl (wn rfl) hr hc ?_; clear hc h
  rintro _ w ⟨rfl, h⟩; refine ⟨_, rfl, fun a hr => ?_⟩
  refine oo [47, 48, 49] [vB (r48 == 1), pA B1 0, pA B1 2] hr fun a hr => ?_
  replace h := h.m3
  refine st1 (wn rfl) hr h 2 (vB (r48 == 1)) (pts B1 (.cells #[vI p1.Most, .slice ca5 p1.Held.length cc6, vB (r48 == 1), vI p1.Actor, .slice ca7 p1.Book.length cc8] 62)) fun w h => ?_
  refine wpList_nil ?_
  refine blk_normal ?_
  refine then_normal ?_
  refine sr ?_
  refine o1 hr (vB true) fun a hr => ?_
  refine ln ?_
  refine wp_ret ?_
  refine end_ret1 (v := vB true) rfl hr (by kernel_rfl) ?_
  obtain ⟨rfl, rfl, rfl, rfl⟩ := ej4 H
  exact ⟨caq44, ccq45, caq46, ccq47, ca5, cc6, ca7, cc8, ca9, cc10, ca11, cc12, rfl, h.se 10 [1, 2, 3, 0, 4, 5, 6, 7, 8]⟩
 ·
  refine sr ?_
  refine oo [51, 50] [vB (p2.Kind == 6), vB (p2.Kind == 6)] hr fun a hr => ?_
  refine ln ?_
  refine cD hr H (fun c50 H => ?_) fun c50 H => ?_
  ·
   refine sr ?_
   refine oo [52, 53] [pA B0 0, pA b13 2] hr fun a hr => ?_
   refine ld (wn rfl) hr (vI p2.Addr) ((h.pick 9).cell 2 rfl) fun a hr => ?_
   obtain ⟨S51, e52, H⟩ := bd1 H
   have hc := cells_Arena_Who_ok (H := e52) (h := h)
   refine cl (wn rfl) hr hc ?_; clear hc h
   rintro _ w ⟨caq53, ccq54, caq55, ccq56, rfl, h⟩; refine ⟨_, rfl, fun a hr => ?_⟩
   refine ln ?_
   refine wp_region_lit ?_
   refine oo [56, 57] [pA B1 0, pA b13 2] hr fun a hr => ?_
   refine ld (wn rfl) hr (vI p2.Addr) ((h.pick 9).cell 2 rfl) fun a hr => ?_
   refine oo [59, 60] [pA B1 0, pA B1 3] hr fun a hr => ?_
   replace h := h.m3
   refine st1 (wn rfl) hr h 3 (vI p2.Addr) (pts B1 (.cells #[vI p1.Most, .slice ca5 p1.Held.length cc6, vB p1.On, vI p2.Addr, .slice ca7 p1.Book.length cc8] 62)) fun w h => ?_
   refine wpList_nil ?_
   refine blk_normal ?_
   refine then_normal ?_
   refine sr ?_
   refine o1 hr (vB true) fun a hr => ?_
   refine ln ?_
   refine wp_ret ?_
   refine end_ret1 (v := vB true) rfl hr (by kernel_rfl) ?_
   obtain ⟨rfl, rfl, rfl, rfl⟩ := ej4 H
   exact ⟨caq53, ccq54, caq55, ccq56, ca5, cc6, ca7, cc8, ca9, cc10, ca11, cc12, rfl, h.se 10 [1, 2, 3, 0, 4, 5, 6, 7, 8]⟩
  ·
   refine sr ?_
   refine oo [62, 61] [vB (p2.Kind == 7), vB (p2.Kind == 7)] hr fun a hr => ?_
   refine ln ?_
   refine cD hr H (fun c57 H => ?_) fun c57 H => ?_
   ·
    refine wp_seq ?_
    obtain ⟨r58, e59, H⟩ := bd1 H
    refine regL [(B1, 0, [vI p1.Most])] [1, 3, 4] 8 h (fun h => ⟨⟨(h.pick 3).cell 0 rfl, trivial⟩, trivial⟩) fun w h hd => ?_
    refine evs' hd 4 [(0, 63, pA B0 0), (2, 65, pA B1 0), (3, 66, pA B1 0), (4, 67, pA B1 0)] hr fun a hr => ?_
    refine elx hd 0 3 5 hr (wn rfl) rfl rfl fun a hr => ?_
    refine eo1 1 rfl ?_
    have hc := cells_Arena_Size_ok (H := e59) (h := h)
    refine cl (wn rfl) hr hc ?_; clear hc h
    rintro _ w ⟨rfl, h⟩; refine ⟨_, rfl, fun a hr => ?_⟩
    refine ln ?_
    refine eE ⟨⟨(h.pick 3).cell 0 rfl, trivial⟩, trivial⟩ fun hd => ?_
    refine evs' hd 0 [(6, 69, vB (r58 == p1.Most)), (7, 8, vB (r58 == p1.Most))] hr fun a hr => ?_
    refine een ?_
    refine then_normal ?_
    refine wp_ret ?_
    refine blk_ret ?_
    refine then_ret ?_
    refine end_ret1 (v := vB (r58 == p1.Most)) rfl hr (by kernel_rfl) ?_
    obtain ⟨rfl, rfl, rfl, rfl⟩ := ej4 H
    exact ⟨ca1, cc2, ca3, cc4, ca5, cc6, ca7, cc8, ca9, cc10, ca11, cc12, rfl, h.se 10 [0, 1, 2, 3, 4, 5, 6, 7, 8]⟩
   ·
    refine sr ?_
    refine oo [71, 70] [vB (p2.Kind == 8), vB (p2.Kind == 8)] hr fun a hr => ?_
    refine ln ?_
    refine cD hr H (fun c60 H => ?_) fun c60 H => ?_
    ·
     refine wp_seq ?_
     obtain ⟨r61, e62, H⟩ := bd1 H
     refine regL [(B1, 1, [.slice ca5 p1.Held.length cc6])] [1, 3, 4] 9 h (fun h => ⟨⟨(h.pick 3).cell 1 rfl, trivial⟩, trivial⟩) fun w h hd => ?_
     refine evs' hd 5 [(0, 72, pA B0 0), (2, 74, pA B1 0), (3, 75, pA B1 0), (4, 76, pA B1 1)] hr fun a hr => ?_
     refine elx hd 0 4 5 hr (wn rfl) rfl rfl fun a hr => ?_
     refine evs' hd 3 [(6, 78, vI ((p1.Held.length : Nat) : Int))] hr fun a hr => ?_
     refine eo1 1 rfl ?_
     have hc := cells_Arena_Mark_ok (H := e62) (h := h)
     refine cl (wn rfl) hr hc ?_; clear hc h
     rintro _ w ⟨rfl, h⟩; refine ⟨_, rfl, fun a hr => ?_⟩
     refine ln ?_
     refine eE ⟨⟨(h.pick 3).cell 1 rfl, trivial⟩, trivial⟩ fun hd => ?_
     refine evs' hd 0 [(7, 79, vB (r61 == ((p1.Held.length : Nat) : Int))), (8, 8, vB (r61 == ((p1.Held.length : Nat) : Int)))] hr fun a hr => ?_
     refine een ?_
     refine then_normal ?_
     refine wp_ret ?_
     refine blk_ret ?_
     refine then_ret ?_
     refine end_ret1 (v := vB (r61 == ((p1.Held.length : Nat) : Int))) rfl hr (by kernel_rfl) ?_
     obtain ⟨rfl, rfl, rfl, rfl⟩ := ej4 H
     exact ⟨ca1, cc2, ca3, cc4, ca5, cc6, ca7, cc8, ca9, cc10, ca11, cc12, rfl, h.se 10 [0, 1, 2, 3, 4, 5, 6, 7, 8]⟩
    ·
     refine sr ?_
     refine oo [81, 80] [vB (p2.Kind == 9), vB (p2.Kind == 9)] hr fun a hr => ?_
     refine ln ?_
     refine cD hr H (fun c63 H => ?_) fun c63 H => ?_
     ·
      refine sr ?_
      obtain ⟨r64, e65, H⟩ := bd1 H
      refine o1 hr (pA B0 0) fun a hr => ?_
      have hc := cells_Arena_Cells_ok (H := e65) (h := h)
      refine cl (wn rfl) hr hc ?_; clear hc h
      rintro _ w ⟨car66, rfl, h⟩; refine ⟨_, rfl, fun a hr => ?_⟩
      refine o1 hr (.slice car66 r64.length r64.length) fun a hr => ?_
      refine ln ?_
      refine sr ?_
      refine oo [84, 85, 86, 87] [.slice car66 r64.length r64.length, pA B1 0, pA B1 0, pA B1 1] hr fun a hr => ?_
      refine ld (wn rfl) hr (.slice ca5 p1.Held.length cc6) ((h.pick 4).cell 1 rfl) fun a hr => ?_
      obtain ⟨r67, e68, H⟩ := bd1 H
      have hc := plunderlaw2_sameNumbers_ok (va0 := car66) (vc0 := r64.length) (va1 := ca5) (vc1 := cc6) (hv0 := (RdRow.of_row encZ_i64_ok (h.pick 3) (fun h => (h.pick 3)))) (hv1 := (RdRow.of_row encZ_i64_ok (h.pick 5) (fun h => (h.pick 5)))) (H := e68) (h := h)
      refine cl (wn rfl) hr hc ?_; clear hc h
      rintro _ w ⟨rfl, h⟩; refine ⟨_, rfl, fun a hr => ?_⟩
      refine o1 hr (vB r67) fun a hr => ?_
      refine ln ?_
      refine sr ?_
      obtain ⟨S69, e70, H⟩ := bd1 H
      refine oo [90, 91] [pA B3 0, .slice car66 r64.length r64.length] hr fun a hr => ?_
      replace h := h.m3.m9.m9.m9
      have hc := plunderlaw2_book_numbers_ok (H := e70) (h := h)
      refine cl (wn rfl) hr hc ?_; clear hc h
      rintro _ w ⟨caq71, ccq72, caq73, ccq74, rfl, h⟩; refine ⟨_, rfl, fun a hr => ?_⟩
      refine ln ?_
      refine sr ?_
      refine oo [93, 8] [vB r67, vB r67] hr fun a hr => ?_
      refine ln ?_
      refine wp_ret ?_
      refine blk_ret ?_
      refine then_ret ?_
      refine end_ret1 (v := vB r67) rfl hr (by kernel_rfl) ?_
      obtain ⟨rfl, rfl, rfl, rfl⟩ := ej4 H
      exact ⟨ca1, cc2, ca3, cc4, ca5, cc6, ca7, cc8, caq71, ccq72, caq73, ccq74, rfl, h.se 10 [3, 4, 5, 6, 7, 8, 0, 1, 2]⟩
     ·
      refine sr ?_
      refine oo [95, 94] [vB (p2.Kind == 10), vB (p2.Kind == 10)] hr fun a hr => ?_
      refine ln ?_
      refine cD hr H (fun c75 H => ?_) fun c75 H => ?_
      ·
       refine sr ?_
       obtain ⟨r76, e77, H⟩ := bd1 H
       refine o1 hr (pA B0 0) fun a hr => ?_
       have hc := cells_Arena_Log_ok (H := e77) (h := h)
       refine cl (wn rfl) hr hc ?_; clear hc h
       rintro _ w ⟨car78, rfl, h⟩; refine ⟨_, rfl, fun a hr => ?_⟩
       refine o1 hr (.slice car78 r76.length r76.length) fun a hr => ?_
       refine ln ?_
       refine sr ?_
       refine oo [98, 99, 100, 101] [.slice car78 r76.length r76.length, pA B1 0, pA B1 0, pA B1 4] hr fun a hr => ?_
       refine ld (wn rfl) hr (.slice ca7 p1.Book.length cc8) ((h.pick 4).cell 4 rfl) fun a hr => ?_
       obtain ⟨r79, e80, H⟩ := bd1 H
       have hc := plunderlaw2_sameLog_ok (va0 := car78) (vc0 := r76.length) (va1 := ca7) (vc1 := cc8) (hv0 := (RdRow.of_row enc_T_api_Access_ok (h.pick 3) (fun h => (h.pick 3)))) (hv1 := (RdRow.of_row enc_T_api_Access_ok (h.pick 6) (fun h => (h.pick 6)))) (H := e80) (h := h)
       refine cl (wn rfl) hr hc ?_; clear hc h
       rintro _ w ⟨rfl, h⟩; refine ⟨_, rfl, fun a hr => ?_⟩
       refine o1 hr (vB r79) fun a hr => ?_
       refine ln ?_
       refine sr ?_
       obtain ⟨S81, e82, H⟩ := bd1 H
       refine oo [104, 105] [pA B3 0, .slice car78 r76.length r76.length] hr fun a hr => ?_
       replace h := h.m3.m9.m9.m9
       have hc := plunderlaw2_book_accesses_ok (H := e82) (h := h)
       refine cl (wn rfl) hr hc ?_; clear hc h
       rintro _ w ⟨caq83, ccq84, caq85, ccq86, rfl, h⟩; refine ⟨_, rfl, fun a hr => ?_⟩
       refine ln ?_
       refine sr ?_
       refine oo [107, 8] [vB r79, vB r79] hr fun a hr => ?_
       refine ln ?_
       refine wp_ret ?_
       refine blk_ret ?_
       refine then_ret ?_
       refine end_ret1 (v := vB r79) rfl hr (by kernel_rfl) ?_
       obtain ⟨rfl, rfl, rfl, rfl⟩ := ej4 H
       exact ⟨ca1, cc2, ca3, cc4, ca5, cc6, ca7, cc8, caq83, ccq84, caq85, ccq86, rfl, h.se 10 [3, 4, 5, 6, 7, 8, 0, 1, 2]⟩
      ·
       refine wp_skip ?_
       refine blk_normal ?_
       refine then_normal ?_
       refine sr ?_
       refine o1 hr (vB true) fun a hr => ?_
       refine ln ?_
       refine wp_ret ?_
       refine end_ret1 (v := vB true) rfl hr (by kernel_rfl) ?_
       obtain ⟨rfl, rfl, rfl, rfl⟩ := ej4 H
       exact ⟨ca1, cc2, ca3, cc4, ca5, cc6, ca7, cc8, ca9, cc10, ca11, cc12, rfl, h.se 10 [0, 1, 2, 3, 4, 5, 6, 7, 8]⟩

def plunderlaw2_full_l1 (K : Nat) (p0 : List Int) (p1 : Int) (p2 : Int) : Nat → Int → Option (Bool)
  | 0, _ => none
  | k1 + 1, g2 => (if g2 < p1 then if inr_ g2 p0.length then (if (at_ p0 g2.toNat) = p2 then (plunderlaw2_full_l1 K p0 p1 p2 k1 (wi (g2 + 1))) else some false) else none else some true)
/-- plunder/plunderlaw2.full -/
def plunderlaw2_full (K : Nat) (p0 : List Int) (p1 : Int) (p2 : Int) : Option (Bool) :=
  (if ((p0.length : Nat) : Int) < p1 then some false else (plunderlaw2_full_l1 K p0 p1 p2 K 0))

theorem plunderlaw2_full_ok {z w : World} {L : List HProp} {K : Nat} {p0 : List Int} {p1 p2 : Int} {va0 : Option Addr} {vc0 : Nat} {r0 : Bool} (H : plunderlaw2_full K p0 p1 p2 = some r0) (h : Fit z (sepL (L)) w) (hv0 : RdRow L 1 encZ_i64 va0 p0) :
    Calls Try.prog 110 #[.slice va0 p0.length vc0, vI p1, vI p2] w fun e w => e = .returned (vB r0) ∧ Fit z (sepL (L)) w := by
 unfold plunderlaw2_full at H
 refine enter Try.func110 rfl 23 rfl rfl [(0, .slice va0 p0.length vc0), (1, vI p1), (2, vI p2)] ⟨rfl, rfl, rfl, trivial⟩ ?_
 intro j a hr
 refine sr ?_
 refine o1 hr (vB false) fun a hr => ?_
 refine ln ?_
 refine wp_seq ?_
 refine sr ?_
 refine oo [8, 9, 10, 11] [.slice va0 p0.length vc0, vI ((p0.length : Nat) : Int), vI p1, vB (decide (((p0.length : Nat) : Int) < p1))] hr fun a hr => ?_
 refine ln ?_
 refine cD hr H (fun c1 H => ?_) fun c1 H => ?_
 ·
  refine sr ?_
  refine o1 hr (vB false) fun a hr => ?_
  refine ln ?_
  refine wp_ret ?_
  refine then_ret ?_
  refine end_ret1 (v := vB false) rfl hr (by kernel_rfl) ?_
  replace H := ej1 H; subst H
  exact ⟨rfl, h⟩
 ·
  refine wp_skip ?_
  refine then_normal ?_
  refine wp_seq ?_
  refine sr ?_
  refine o1 hr (vI 0) fun a hr => ?_
  refine ln ?_
  refine wp_block ?_
  refine loop_rule (β := Nat) id (fun m a w => ∃ g2 : Int, (plunderlaw2_full_l1 K p0 p1 p2 m g2) = some r0 ∧ ∃ j, Rep 23 (lk [(0, .slice va0 p0.length vc0), (1, vI p1), (2, vI p2), (7, vI g2)] j) a ∧ Fit z (sepL (L)) w) K ⟨0, H, hr.fj h⟩ ?_
  clear h hr a H; rintro k1 a w ⟨g2, H, j, hr, h⟩
  cases k1 with
  | zero => exact absurd H (by simp [plunderlaw2_full_l1])
  | succ k1 =>
   rw [plunderlaw2_full_l1] at H
   refine wp_seq ?_
   refine sr ?_
   refine oo [12, 13, 14] [vI g2, vI p1, vB (decide (g2 < p1))] hr fun a hr => ?_
   refine ln ?_
   refine cD hr H (fun c3 H => ?_) fun c3 H => ?_
   ·
    refine wp_skip ?_
    refine then_normal ?_
    refine wp_seq ?_
    refine wp_block ?_
    refine sr ?_
    obtain ⟨c4, H⟩ := gd H
    refine oo [17, 18] [.slice va0 p0.length vc0, vI g2] hr fun a hr => ?_
    refine opv (wn rfl) hr (pA (blk va0) (offs va0 + g2.toNat * 1)) (ri_rd (k := .i64) (E := 2) (cc := vc0) rfl (by kernel_rfl) (by kernel_rfl) rfl (by kernel_rfl) (by kernel_rfl) hv0 c4) fun a hr => ?_
    refine ld (wn rfl) hr (vI (at_ p0 g2.toNat)) (hv0.cell c4 (h.dn 0) 0 rfl) fun a hr => ?_
    refine oo [21, 22] [vI p2, vB ((at_ p0 g2.toNat) != p2)] hr fun a hr => ?_
    refine ln ?_
    refine cN hr H (fun c5 H => ?_) fun c5 H => ?_
    ·
     refine wp_skip ?_
     refine blk_normal ?_
     refine then_normal ?_
     refine wp_region_lit ?_
     refine oo [15, 16, 7] [vI g2, vI (wi (g2 + 1)), vI (wi (g2 + 1))] hr fun a hr => ?_
     refine ln ?_
     exact ⟨_, ⟨(wi (g2 + 1)), H, hr.fj h⟩, Nat.lt_succ_self _⟩
    ·
     refine sr ?_
     refine o1 hr (vB false) fun a hr => ?_
     refine ln ?_
     refine wp_ret ?_
     refine blk_ret ?_
     refine then_ret ?_
     refine then_ret ?_
     refine blk_ret ?_
     refine then_ret ?_
     refine end_ret1 (v := vB false) rfl hr (by kernel_rfl) ?_
     replace H := ej1 H; subst H
     exact ⟨rfl, h⟩
   ·
    refine wp_exit ?_
    refine then_exit ?_
    refine then_exit ?_
    refine blk_here ?_
    refine then_normal ?_
    refine sr ?_
    refine o1 hr (vB true) fun a hr => ?_
    refine ln ?_
    refine wp_ret ?_
    refine end_ret1 (v := vB true) rfl hr (by kernel_rfl) ?_
    replace H := ej1 H; subst H
    exact ⟨rfl, h⟩

/-- plunder/plunderlaw2.stand -/
def plunderlaw2_stand (K : Nat) (p0 : T_plunderlaw2_kept) : Option (Bool) :=
  jn0 (ob1 (plunderlaw2_full K p0.l ((p0.l.length : Nat) : Int) p0.m) (fun r12 => (if r12 = true then ob1 (plunderlaw2_full K p0.g1 ((p0.l.length : Nat) : Int) p0.m) (fun r15 => (if r15 = true then ob1 (plunderlaw2_full K p0.g2 ((p0.l.length : Nat) : Int) p0.m) (fun r18 => (if r18 = true then ob1 (plunderlaw2_full K p0.g3 ((p0.l.length : Nat) : Int) p0.m) (fun r21 => (if r21 = true then some (.inl ()) else some (.inr false))) else some (.inr false))) else some (.inr false))) else some (.inr false)))) (jn0 ((if ((p0.g1.length : Nat) : Int) = (wi (((p0.l.length : Nat) : Int) + 1)) then (if ((p0.g2.length : Nat) : Int) = (wi (((p0.l.length : Nat) : Int) + 2)) then (if ((p0.g3.length : Nat) : Int) = (wi (((p0.l.length : Nat) : Int) + 3)) then some (.inl ()) else some (.inr false)) else some (.inr false)) else some (.inr false))) (if inr_ ((p0.l.length : Nat) : Int) p0.g1.length then if inr_ ((p0.l.length : Nat) : Int) p0.g2.length then if inr_ (wi (((p0.l.length : Nat) : Int) + 1)) p0.g2.length then jn0 ((if (wi ((at_ p0.g1 ((p0.l.length : Nat) : Int).toNat) - p0.m)) = 1 then (if (wi ((at_ p0.g2 ((p0.l.length : Nat) : Int).toNat) - p0.m)) = 2 then (if (wi ((at_ p0.g2 (wi (((p0.l.length : Nat) : Int) + 1)).toNat) - p0.m)) = 3 then some (.inl ()) else (if (wi ((at_ p0.g2 (wi (((p0.l.length : Nat) : Int) + 1)).toNat) - p0.m)) = 5 then some (.inl ()) else some (.inr false))) else (if (wi ((at_ p0.g2 ((p0.l.length : Nat) : Int).toNat) - p0.m)) = 4 then (if (wi ((at_ p0.g2 (wi (((p0.l.length : Nat) : Int) + 1)).toNat) - p0.m)) = 3 then some (.inl ()) else (if (wi ((at_ p0.g2 (wi (((p0.l.length : Nat) : Int) + 1)).toNat) - p0.m)) = 5 then some (.inl ()) else some (.inr false))) else some (.inr false))) else (if (wi ((at_ p0.g1 ((p0.l.length : Nat) : Int).toNat) - p0.m)) = 2 then (if (wi ((at_ p0.g2 ((p0.l.length : Nat) : Int).toNat) - p0.m)) = 2 then (if (wi ((at_ p0.g2 (wi (((p0.l.length : Nat) : Int) + 1)).toNat) - p0.m)) = 3 then some (.inl ()) else (if (wi ((at_ p0.g2 (wi (((p0.l.length : Nat) : Int) + 1)).toNat) - p0.m)) = 5 then some (.inl ()) else some (.inr false))) else (if (wi ((at_ p0.g2 ((p0.l.length : Nat) : Int).toNat) - p0.m)) = 4 then (if (wi ((at_ p0.g2 (wi (((p0.l.length : Nat) : Int) + 1)).toNat) - p0.m)) = 3 then some (.inl ()) else (if (wi ((at_ p0.g2 (wi (((p0.l.length : Nat) : Int) + 1)).toNat) - p0.m)) = 5 then some (.inl ()) else some (.inr false))) else some (.inr false))) else (if (wi ((at_ p0.g1 ((p0.l.length : Nat) : Int).toNat) - p0.m)) = 4 then (if (wi ((at_ p0.g2 ((p0.l.length : Nat) : Int).toNat) - p0.m)) = 2 then (if (wi ((at_ p0.g2 (wi (((p0.l.length : Nat) : Int) + 1)).toNat) - p0.m)) = 3 then some (.inl ()) else (if (wi ((at_ p0.g2 (wi (((p0.l.length : Nat) : Int) + 1)).toNat) - p0.m)) = 5 then some (.inl ()) else some (.inr false))) else (if (wi ((at_ p0.g2 ((p0.l.length : Nat) : Int).toNat) - p0.m)) = 4 then (if (wi ((at_ p0.g2 (wi (((p0.l.length : Nat) : Int) + 1)).toNat) - p0.m)) = 3 then some (.inl ()) else (if (wi ((at_ p0.g2 (wi (((p0.l.length : Nat) : Int) + 1)).toNat) - p0.m)) = 5 then some (.inl ()) else some (.inr false))) else some (.inr false))) else some (.inr false))))) (if inr_ ((p0.l.length : Nat) : Int) p0.g3.length then (if (at_ p0.g3 ((p0.l.length : Nat) : Int).toNat) = (wi (p0.m + 4)) then if inr_ (wi (((p0.l.length : Nat) : Int) + 1)) p0.g3.length then (if (at_ p0.g3 (wi (((p0.l.length : Nat) : Int) + 1)).toNat) = (wi (p0.m + 5)) then if inr_ (wi (((p0.l.length : Nat) : Int) + 2)) p0.g3.length then some ((at_ p0.g3 (wi (((p0.l.length : Nat) : Int) + 2)).toNat) == (wi (p0.m + 6))) else none else some false) else none else some false) else none) else none else none else none))


end Go.Proofs.Ytacgigkonoegiaa.Mo
