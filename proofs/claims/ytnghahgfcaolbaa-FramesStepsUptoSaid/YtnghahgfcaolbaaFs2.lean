/- what the functions compute, as plain Lean functions, and that they do -/
import Derived.Test.YtnghahgfcaolbaaFs1
namespace Go.Proofs.Ytnghahgfcaolbaa.Mo
open Go Go.RowKit Go.Proofs.Ytnghahgfcaolbaa.SL Go.Proofs.Ytnghahgfcaolbaa.GX
set_option linter.unusedVariables false
set_option linter.unusedSimpArgs false

/-- (plunder/frames.Table).join -/
def frames_Table__join (p0 : T_frames_Table) (p1 : Int) : Option (Int) :=
  some (wi ((wi (p0.Base + (1 : Int))) + (wi (p1 * (10 : Int)))))
set_option maxRecDepth 100000 in
set_option maxHeartbeats 4000000 in
theorem frames_Table__join_ok {z w : World} {L : List HProp} {p0 : T_frames_Table} {p1 : Int} {r0 : Int} (H : frames_Table__join p0 p1 = some r0) (h : Fit z (sepL (L)) w)  :
    Calls Try.prog 54 #[.agg #[.int .i64 p0.Base, .int .i64 p0.Frames], .int .i64 p1] w fun e w => e = .returned (.int .i64 r0) ∧ Fit z (sepL (L)) w := by
  unfold frames_Table__join at H
  refine enter Try.func54 rfl 11 rfl rfl [(0, .agg #[.int .i64 p0.Base, .int .i64 p0.Frames]), (1, .int .i64 p1)] ⟨rfl, rfl, trivial⟩ ?_
  intro j a hr
  refine wp_seq ?_
  refine wp_region_lit ?_
  refine op_new (wn rfl) rfl rfl hr h (vf := fun b => .pointer (some ⟨b, 0, none⟩)) (cs := #[.int .i64 p0.Base, .int .i64 p0.Frames]) (T := 39) (by kernel_rfl) ?_; clear h hr a; intro b1 w a h hr
  refine ov hr (.int .i64 0) (by kernel_rfl) ?_; clear hr a; intro a hr
  refine wpList_nil ?_
  refine then_normal ?_
  refine wp_seq ?_
  refine wp_region_lit ?_
  refine ov hr (.pointer (some ⟨b1, 0, none⟩)) (by kernel_rfl) ?_; clear hr a; intro a hr
  refine op_val (wn rfl) rfl rfl hr (v := .int .i64 p0.Base) (rl rfl (by kernel_rfl) (by kernel_rfl) (h.cell 0 rfl)) ?_; clear hr a; intro a hr
  refine ovs [7, 8, 9, 10, 4] [.int .i64 (wi (p0.Base + (1 : Int))), .int .i64 p1, .int .i64 (wi (p1 * (10 : Int))), .int .i64 (wi ((wi (p0.Base + (1 : Int))) + (wi (p1 * (10 : Int))))), .int .i64 (wi ((wi (p0.Base + (1 : Int))) + (wi (p1 * (10 : Int)))))] hr ⟨rfl, rfl⟩ (by kernel_rfl) ?_; clear hr a; intro a hr
  refine wpList_nil ?_
  refine then_normal ?_
  refine wp_ret ?_
  refine end_ret1 (v := .int .i64 (wi ((wi (p0.Base + (1 : Int))) + (wi (p1 * (10 : Int)))))) rfl hr (by kernel_rfl) ?_
  replace h : Fit z (sepL (L)) _ := h.sel 1 [] (by kernel_rfl) (by kernel_rfl)
  replace H := ej1 H; subst H
  exact ⟨rfl, h⟩

/-- (*plunder/cells.ledger).has -/
def cells_ledger_has (p0 : T_cells_Arena) (p1 : Int) : Option (Bool) :=
  (if p1 ≥ (0 : Int) then some (decide (p1 < p0.ledger_mark)) else some false)
set_option maxRecDepth 100000 in
set_option maxHeartbeats 4000000 in
theorem cells_ledger_has_ok {z w : World} {L : List HProp} {p0 : T_cells_Arena} {p1 : Int} {B0 : Nat} {ca1 : Option Addr} {cc2 : Nat} {ca3 : Option Addr} {cc4 : Nat} {r0 : Bool} (H : cells_ledger_has p0 p1 = some r0) (h : Fit z (sepL (ob103 B0 p0 ca1 cc2 ca3 cc4 :: ro2 ca1 cc2 p0.cell :: ro96 ca3 cc4 p0.log :: L)) w)  :
    Calls Try.prog 127 #[.pointer (some ⟨B0, 0, none⟩), .int .i64 p1] w fun e w => e = .returned (.bool r0) ∧ Fit z (sepL (ob103 B0 p0 ca1 cc2 ca3 cc4 :: ro2 ca1 cc2 p0.cell :: ro96 ca3 cc4 p0.log :: L)) w := by
  unfold cells_ledger_has at H
  refine enter Try.func127 rfl 15 rfl rfl [(0, .pointer (some ⟨B0, 0, none⟩)), (1, .int .i64 p1)] ⟨rfl, rfl, trivial⟩ ?_
  intro j a hr
  refine wp_seq ?_
  refine wp_region_lit ?_
  refine ov hr (.bool false) (by kernel_rfl) ?_; clear hr a; intro a hr
  refine wpList_nil ?_
  refine then_normal ?_
  refine wp_seq ?_
  refine wp_region_lit ?_
  refine ovs [5, 6, 7] [.int .i64 p1, .bool (decide (p1 ≥ (0 : Int))), .bool (decide (p1 ≥ (0 : Int)))] hr ⟨rfl, rfl⟩ (by kernel_rfl) ?_; clear hr a; intro a hr
  by_cases c5 : p1 ≥ (0 : Int)
  ·
    replace H := ifT c5 H
    refine op_val ((wg hr rfl rfl rfl (b' := (decide (p1 ≥ (0 : Int)))) (by kernel_rfl)).trans (by rw [show (decide (p1 ≥ (0 : Int))) = true from (decide_eq_true c5)]; rfl)) rfl rfl hr (v := .int .i64 p1) (by kernel_rfl) ?_; clear hr a; intro a hr
    refine op_val ((wg hr rfl rfl rfl (b' := (decide (p1 ≥ (0 : Int)))) (by kernel_rfl)).trans (by rw [show (decide (p1 ≥ (0 : Int))) = true from (decide_eq_true c5)]; rfl)) rfl rfl hr (v := .pointer (some ⟨B0, 0, none⟩)) (by kernel_rfl) ?_; clear hr a; intro a hr
    refine op_val ((wg hr rfl rfl rfl (b' := (decide (p1 ≥ (0 : Int)))) (by kernel_rfl)).trans (by rw [show (decide (p1 ≥ (0 : Int))) = true from (decide_eq_true c5)]; rfl)) rfl rfl hr (v := .pointer (some ⟨B0, 0, none⟩)) (by kernel_rfl) ?_; clear hr a; intro a hr
    refine op_val ((wg hr rfl rfl rfl (b' := (decide (p1 ≥ (0 : Int)))) (by kernel_rfl)).trans (by rw [show (decide (p1 ≥ (0 : Int))) = true from (decide_eq_true c5)]; rfl)) rfl rfl hr (v := .pointer (some ⟨B0, 1, none⟩)) (by kernel_rfl) ?_; clear hr a; intro a hr
    refine op_val ((wg hr rfl rfl rfl (b' := (decide (p1 ≥ (0 : Int)))) (by kernel_rfl)).trans (by rw [show (decide (p1 ≥ (0 : Int))) = true from (decide_eq_true c5)]; rfl)) rfl rfl hr (v := .int .i64 p0.ledger_mark) (rl rfl (by kernel_rfl) (by kernel_rfl) (h.cell 1 rfl)) ?_; clear hr a; intro a hr
    refine op_val ((wg hr rfl rfl rfl (b' := (decide (p1 ≥ (0 : Int)))) (by kernel_rfl)).trans (by rw [show (decide (p1 ≥ (0 : Int))) = true from (decide_eq_true c5)]; rfl)) rfl rfl hr (v := .bool (decide (p1 < p0.ledger_mark))) (by kernel_rfl) ?_; clear hr a; intro a hr
    refine op_val (wn rfl) rfl rfl hr (v := .bool (decide (p1 < p0.ledger_mark))) (rp_t (b := (decide (p1 ≥ (0 : Int)))) rfl (by kernel_rfl) (decide_eq_true c5) (by kernel_rfl)) ?_; clear hr a; intro a hr
    refine ov hr (.bool (decide (p1 < p0.ledger_mark))) (by kernel_rfl) ?_; clear hr a; intro a hr
    refine wpList_nil ?_
    refine then_normal ?_
    refine wp_ret ?_
    refine end_ret1 (v := .bool (decide (p1 < p0.ledger_mark))) rfl hr (by kernel_rfl) ?_
    replace H := ej1 H; subst H
    exact ⟨rfl, h⟩
  ·
    replace H := ifF c5 H
    refine op_off ((wg hr rfl rfl rfl (b' := (decide (p1 ≥ (0 : Int)))) (by kernel_rfl)).trans (by rw [show (decide (p1 ≥ (0 : Int))) = false from (decide_eq_false c5)]; rfl)) rfl rfl hr ?_; clear hr a; intro a hr
    refine op_off ((wg hr rfl rfl rfl (b' := (decide (p1 ≥ (0 : Int)))) (by kernel_rfl)).trans (by rw [show (decide (p1 ≥ (0 : Int))) = false from (decide_eq_false c5)]; rfl)) rfl rfl hr ?_; clear hr a; intro a hr
    refine op_off ((wg hr rfl rfl rfl (b' := (decide (p1 ≥ (0 : Int)))) (by kernel_rfl)).trans (by rw [show (decide (p1 ≥ (0 : Int))) = false from (decide_eq_false c5)]; rfl)) rfl rfl hr ?_; clear hr a; intro a hr
    refine op_off ((wg hr rfl rfl rfl (b' := (decide (p1 ≥ (0 : Int)))) (by kernel_rfl)).trans (by rw [show (decide (p1 ≥ (0 : Int))) = false from (decide_eq_false c5)]; rfl)) rfl rfl hr ?_; clear hr a; intro a hr
    refine op_off ((wg hr rfl rfl rfl (b' := (decide (p1 ≥ (0 : Int)))) (by kernel_rfl)).trans (by rw [show (decide (p1 ≥ (0 : Int))) = false from (decide_eq_false c5)]; rfl)) rfl rfl hr ?_; clear hr a; intro a hr
    refine op_off ((wg hr rfl rfl rfl (b' := (decide (p1 ≥ (0 : Int)))) (by kernel_rfl)).trans (by rw [show (decide (p1 ≥ (0 : Int))) = false from (decide_eq_false c5)]; rfl)) rfl rfl hr ?_; clear hr a; intro a hr
    refine op_val (wn rfl) rfl rfl hr (v := .bool false) (rp_f (b := (decide (p1 ≥ (0 : Int)))) rfl (by kernel_rfl) (decide_eq_false c5) (by kernel_rfl)) ?_; clear hr a; intro a hr
    refine ov hr (.bool false) (by kernel_rfl) ?_; clear hr a; intro a hr
    refine wpList_nil ?_
    refine then_normal ?_
    refine wp_ret ?_
    refine end_ret1 (v := .bool false) rfl hr (by kernel_rfl) ?_
    replace H := ej1 H; subst H
    exact ⟨rfl, h⟩

/-- (*plunder/cells.Arena).outside -/
def cells_Arena_outside (p0 : T_cells_Arena) (p1 : Int) : Option (Bool) :=
  ob1 (cells_ledger_has p0 p1) (fun r5 => some (!r5))
set_option maxRecDepth 100000 in
set_option maxHeartbeats 4000000 in
theorem cells_Arena_outside_ok {z w : World} {L : List HProp} {p0 : T_cells_Arena} {p1 : Int} {B0 : Nat} {ca1 : Option Addr} {cc2 : Nat} {ca3 : Option Addr} {cc4 : Nat} {r0 : Bool} (H : cells_Arena_outside p0 p1 = some r0) (h : Fit z (sepL (ob103 B0 p0 ca1 cc2 ca3 cc4 :: ro2 ca1 cc2 p0.cell :: ro96 ca3 cc4 p0.log :: L)) w)  :
    Calls Try.prog 126 #[.pointer (some ⟨B0, 0, none⟩), .int .i64 p1] w fun e w => e = .returned (.bool r0) ∧ Fit z (sepL (ob103 B0 p0 ca1 cc2 ca3 cc4 :: ro2 ca1 cc2 p0.cell :: ro96 ca3 cc4 p0.log :: L)) w := by
  unfold cells_Arena_outside at H
  refine enter Try.func126 rfl 15 rfl rfl [(0, .pointer (some ⟨B0, 0, none⟩)), (1, .int .i64 p1)] ⟨rfl, rfl, trivial⟩ ?_
  intro j a hr
  refine wp_seq ?_
  refine wp_region_lit ?_
  refine ov hr (.bool false) (by kernel_rfl) ?_; clear hr a; intro a hr
  refine wpList_nil ?_
  refine then_normal ?_
  refine wp_seq ?_
  refine wp_region_lit ?_
  refine ovs [5, 6, 7] [.pointer (some ⟨B0, 0, none⟩), .bool false, .bool false] hr ⟨rfl, rfl⟩ (by kernel_rfl) ?_; clear hr a; intro a hr
  refine op_val ((wg hr rfl rfl rfl (b' := false) (by kernel_rfl)).trans rfl) rfl rfl hr (v := .pointer (some ⟨B0, 0, none⟩)) (by kernel_rfl) ?_; clear hr a; intro a hr
  refine op_val ((wg hr rfl rfl rfl (b' := false) (by kernel_rfl)).trans rfl) rfl rfl hr (v := .pointer (some ⟨B0, 0, none⟩)) (by kernel_rfl) ?_; clear hr a; intro a hr
  refine op_val ((wg hr rfl rfl rfl (b' := false) (by kernel_rfl)).trans rfl) rfl rfl hr (v := .pointer (some ⟨B0, 0, none⟩)) (by kernel_rfl) ?_; clear hr a; intro a hr
  refine op_val ((wg hr rfl rfl rfl (b' := false) (by kernel_rfl)).trans rfl) rfl rfl hr (v := .int .i64 p1) (by kernel_rfl) ?_; clear hr a; intro a hr
  replace H := bd1 H; obtain ⟨r5, e6, H⟩ := H
  have hc := cells_ledger_has_ok (H := e6) (h := h)
  refine op_call ((wg hr rfl rfl rfl (b' := false) (by kernel_rfl)).trans rfl) rfl rfl hr (f := 127) (args := #[.pointer (some ⟨B0, 0, none⟩), .int .i64 p1]) (by kernel_rfl) hc ?_; clear hc h
  rintro _ w ⟨rfl, h⟩; refine ⟨_, rfl, ?_⟩
  clear hr a; intro a hr
  refine op_val ((wg hr rfl rfl rfl (b' := false) (by kernel_rfl)).trans rfl) rfl rfl hr (v := .bool (!r5)) (by kernel_rfl) ?_; clear hr a; intro a hr
  refine ovs [14, 4] [.bool (!r5), .bool (!r5)] hr ⟨rfl, rfl⟩ (by kernel_rfl) ?_; clear hr a; intro a hr
  refine wpList_nil ?_
  refine then_normal ?_
  refine wp_ret ?_
  refine end_ret1 (v := .bool (!r5)) rfl hr (by kernel_rfl) ?_
  replace H := ej1 H; subst H
  exact ⟨rfl, h⟩

/-- (*plunder/cells.Arena).Store -/
def cells_Arena_Store (p0 : T_cells_Arena) (p1 : Int) (p2 : Int) : Option (Int × T_cells_Arena) :=
  ob1 (cells_Arena_outside p0 p1) (fun r5 => (if r5 = true then some (20, p0) else if inr_ p1 p0.cell.length then ob1 (cells_Arena_note ({ p0 with cell := p0.cell.set p1.toNat p2 }) 1 p1 p2 0 true) (fun S10 => some (0, S10)) else none))
set_option maxRecDepth 100000 in
set_option maxHeartbeats 4000000 in
theorem cells_Arena_Store_ok {z w : World} {L : List HProp} {p0 : T_cells_Arena} {p1 : Int} {p2 : Int} {B0 : Nat} {ca1 : Option Addr} {cc2 : Nat} {ca3 : Option Addr} {cc4 : Nat} {r0 : Int} {q0 : T_cells_Arena} (H : cells_Arena_Store p0 p1 p2 = some (r0, q0)) (h : Fit z (sepL (ob103 B0 p0 ca1 cc2 ca3 cc4 :: ro2 ca1 cc2 p0.cell :: ro96 ca3 cc4 p0.log :: L)) w)  :
    Calls Try.prog 125 #[.pointer (some ⟨B0, 0, none⟩), .int .i64 p1, .int .i64 p2] w fun e w => ∃ caq0_1 : Option Addr, ∃ ccq0_2 : Nat, ∃ caq0_3 : Option Addr, ∃ ccq0_4 : Nat, e = .returned (.int .i64 r0) ∧ Fit z (sepL (ob103 B0 q0 caq0_1 ccq0_2 caq0_3 ccq0_4 :: ro2 caq0_1 ccq0_2 q0.cell :: ro96 caq0_3 ccq0_4 q0.log :: L)) w := by
  unfold cells_Arena_Store at H
  refine enter Try.func125 rfl 21 rfl rfl [(0, .pointer (some ⟨B0, 0, none⟩)), (1, .int .i64 p1), (2, .int .i64 p2)] ⟨rfl, rfl, rfl, trivial⟩ ?_
  intro j a hr
  refine wp_seq ?_
  refine wp_region_lit ?_
  refine ov hr (.int .i64 0) (by kernel_rfl) ?_; clear hr a; intro a hr
  refine wpList_nil ?_
  refine then_normal ?_
  refine wp_seq ?_
  refine wp_seq ?_
  refine wp_region_lit ?_
  replace H := bd1 H; obtain ⟨r5, e6, H⟩ := H
  refine ovs [7, 8] [.pointer (some ⟨B0, 0, none⟩), .int .i64 p1] hr ⟨rfl, rfl⟩ (by kernel_rfl) ?_; clear hr a; intro a hr
  have hc := cells_Arena_outside_ok (H := e6) (h := h)
  refine op_call (wn rfl) rfl rfl hr (f := 126) (args := #[.pointer (some ⟨B0, 0, none⟩), .int .i64 p1]) (by kernel_rfl) hc ?_; clear hc h
  rintro _ w ⟨rfl, h⟩; refine ⟨_, rfl, ?_⟩
  clear hr a; intro a hr
  refine wpList_nil ?_
  refine then_normal ?_
  by_cases c7 : r5 = true
  ·
    replace H := ifT c7 H
    refine cond_tt hr (b := r5) (c7) ?_
    refine wp_seq ?_
    refine wp_region_lit ?_
    refine ov hr (.int .i64 20) (by kernel_rfl) ?_; clear hr a; intro a hr
    refine wpList_nil ?_
    refine then_normal ?_
    refine wp_ret ?_
    refine then_ret ?_
    refine end_ret1 (v := .int .i64 20) rfl hr (by kernel_rfl) ?_
    replace H := ej2 H; obtain ⟨rfl, rfl⟩ := H
    exact ⟨ca1, cc2, ca3, cc4, rfl, h⟩
  ·
    replace H := ifF c7 H
    refine cond_ff hr (b := r5) (bF c7) ?_
    refine wp_skip ?_
    refine then_normal ?_
    refine wp_seq ?_
    refine wp_region_lit ?_
    refine ovs [10, 11, 12] [.pointer (some ⟨B0, 0, none⟩), .pointer (some ⟨B0, 0, none⟩), .pointer (some ⟨B0, 2, none⟩)] hr ⟨rfl, rfl⟩ (by kernel_rfl) ?_; clear hr a; intro a hr
    refine op_val (wn rfl) rfl rfl hr (v := .slice ca1 p0.cell.length cc2) (rl rfl (by kernel_rfl) (by kernel_rfl) (h.cell 2 rfl)) ?_; clear hr a; intro a hr
    replace H := gd H; obtain ⟨c8, H⟩ := H
    refine ovs [14, 15] [.int .i64 p1, .int .i64 p2] hr ⟨rfl, rfl⟩ (by kernel_rfl) ?_; clear hr a; intro a hr
    refine op_val (wn rfl) rfl rfl hr (v := .pointer (some ⟨blk ca1, p1.toNat * 1, none⟩)) (ri_row (k := .i64) (E := 2) rfl (by kernel_rfl) (by kernel_rfl) (by kernel_rfl) (by kernel_rfl) (h.pick 1) c8) ?_; clear hr a; intro a hr
    replace h : Fit z (sepL (ro2 ca1 cc2 p0.cell :: ob103 B0 p0 ca1 cc2 ca3 cc4 :: ro96 ca3 cc4 p0.log :: L)) _ := h.sel 3 [1, 0, 2] (by kernel_rfl) (by kernel_rfl)
    refine op_store_row (wn rfl) rfl hr rfl (by kernel_rfl) (by kernel_rfl) (v := .int .i64 p2) rfl rfl (by kernel_rfl) encZ_i64_ok h (i := p1.toNat) (f := 0) (p := (at_ p0.cell p1.toNat)) (q := p2) (at_ok c8) (by decide) rfl ?_; clear h; intro w h
    replace h : Fit z (sepL (rowOf 2 1 encZ_i64 (.slice ca1 p0.cell.length cc2) (p0.cell.set p1.toNat p2) :: ob103 B0 p0 ca1 cc2 ca3 cc4 :: ro96 ca3 cc4 p0.log :: L)) _ := h
    refine wpList_nil ?_
    refine then_normal ?_
    refine wp_seq ?_
    refine wp_region_lit ?_
    refine ovs [17, 18, 19] [.pointer (some ⟨B0, 0, none⟩), .int .i64 p1, .int .i64 p2] hr ⟨rfl, rfl⟩ (by kernel_rfl) ?_; clear hr a; intro a hr
    have hn8 := h.row_n
    replace h : Fit z (sepL (ro2 ca1 cc2 (p0.cell.set p1.toNat p2) :: pts B0 (.cells #[.int .i64 p0.ledger_size, .int .i64 p0.ledger_mark, .slice ca1 ((p0.cell.set p1.toNat p2).length) cc2, .slice ca3 p0.log.length cc4, .int .i64 p0.actor, .bool p0.watched] 103) :: ro96 ca3 cc4 p0.log :: L)) w := (congrArg (fun q_ : Nat => Fit z (sepL (rowOf 2 1 encZ_i64 (.slice ca1 q_ cc2) (p0.cell.set p1.toNat p2) :: pts B0 (.cells #[.int .i64 p0.ledger_size, .int .i64 p0.ledger_mark, .slice ca1 q_ cc2, .slice ca3 p0.log.length cc4, .int .i64 p0.actor, .bool p0.watched] 103) :: ro96 ca3 cc4 p0.log :: L)) w) h.row_n).mp h
    replace H := bd1 H; obtain ⟨S10, e11, H⟩ := H
    replace h : Fit z (sepL (pts B0 (.cells #[.int .i64 p0.ledger_size, .int .i64 p0.ledger_mark, .slice ca1 ((p0.cell.set p1.toNat p2).length) cc2, .slice ca3 p0.log.length cc4, .int .i64 p0.actor, .bool p0.watched] 103) :: ro2 ca1 cc2 (p0.cell.set p1.toNat p2) :: ro96 ca3 cc4 p0.log :: L)) _ := h.sel 3 [1, 0, 2] (by kernel_rfl) (by kernel_rfl)
    have hc := cells_Arena_note_ok (H := e11) (h := h)
    refine op_call (wn rfl) rfl rfl hr (f := 63) (args := #[.pointer (some ⟨B0, 0, none⟩), .int .i64 1, .int .i64 p1, .int .i64 p2, .int .i64 0, .bool true]) (by kernel_rfl) hc ?_; clear hc h
    rintro _ w ⟨caq12, ccq13, caq14, ccq15, rfl, h⟩; refine ⟨_, rfl, ?_⟩
    clear hr a; intro a hr
    refine wpList_nil ?_
    refine then_normal ?_
    refine wp_seq ?_
    refine wp_region_lit ?_
    refine ov hr (.int .i64 0) (by kernel_rfl) ?_; clear hr a; intro a hr
    refine wpList_nil ?_
    refine then_normal ?_
    refine wp_ret ?_
    refine end_ret1 (v := .int .i64 0) rfl hr (by kernel_rfl) ?_
    replace H := ej2 H; obtain ⟨rfl, rfl⟩ := H
    exact ⟨caq12, ccq13, caq14, ccq15, rfl, h⟩

def frames_New_iface_l1 (K : Nat) (p1 : Int) (r11 : Int) : Nat → T_cells_Arena → Int → Option (T_frames_Table × Int × T_cells_Arena)
  | 0, _, _ => none
  | k1 + 1, S21, g26 => (if g26 < p1 then ob1 (frames_Table__join (⟨r11, p1⟩ : T_frames_Table) g26) (fun r28 => ob2 (cells_Arena_Store S21 r28 1) (fun r30 S31 => (if r30 = (0 : Int) then (frames_New_iface_l1 K p1 r11 k1 S31 (wi (g26 + (1 : Int)))) else some ((⟨0, 0⟩ : T_frames_Table), r30, S31)))) else some ((⟨r11, p1⟩ : T_frames_Table), 0, S21))
/-- plunder/frames.New -/
def frames_New_iface (K : Nat) (p0 : T_cells_Arena) (p1 : Int) : Option (T_frames_Table × Int × T_cells_Arena) :=
  ob1 (frames_Cells p1) (fun r6 => (if r6 = (0 : Int) then some ((⟨0, 0⟩ : T_frames_Table), 3, p0) else ob1 (frames_Cells p1) (fun r9 => ob3 (cells_Arena_Reserve p0 r9) (fun r11 r12 S13 => (if r12 = (0 : Int) then (frames_New_iface_l1 K p1 r11 K S13 0) else some ((⟨0, 0⟩ : T_frames_Table), r12, S13))))))
set_option maxRecDepth 100000 in
set_option maxHeartbeats 4000000 in
theorem frames_New_iface_ok {z w : World} {L : List HProp} {K : Nat} {p0 : T_cells_Arena} {p1 : Int} {B0 : Nat} {ca1 : Option Addr} {cc2 : Nat} {ca3 : Option Addr} {cc4 : Nat} {r0 : T_frames_Table} {r1 : Int} {q0 : T_cells_Arena} (H : frames_New_iface K p0 p1 = some (r0, r1, q0)) (h : Fit z (sepL (ob103 B0 p0 ca1 cc2 ca3 cc4 :: ro2 ca1 cc2 p0.cell :: ro96 ca3 cc4 p0.log :: L)) w)  :
    Calls Try.prog 19 #[.iface 26 (.pointer (some ⟨B0, 0, none⟩)), .int .i64 p1] w fun e w => ∃ caq0_1 : Option Addr, ∃ ccq0_2 : Nat, ∃ caq0_3 : Option Addr, ∃ ccq0_4 : Nat, e = .returned (.tuple #[.agg #[.int .i64 r0.Base, .int .i64 r0.Frames], .int .i64 r1]) ∧ Fit z (sepL (ob103 B0 q0 caq0_1 ccq0_2 caq0_3 ccq0_4 :: ro2 caq0_1 ccq0_2 q0.cell :: ro96 caq0_3 ccq0_4 q0.log :: L)) w := by
  unfold frames_New_iface at H
  refine enter Try.func19 rfl 53 rfl rfl [(0, .iface 26 (.pointer (some ⟨B0, 0, none⟩))), (1, .int .i64 p1)] ⟨rfl, rfl, trivial⟩ ?_
  intro j a hr
  refine wp_seq ?_
  refine wp_region_lit ?_
  refine op_new (wn rfl) rfl rfl hr h (vf := fun b => .pointer (some ⟨b, 0, none⟩)) (cs := #[.int .i64 0, .int .i64 0]) (T := 39) (by kernel_rfl) ?_; clear h hr a; intro b5 w a h hr
  refine ov hr (.int .i64 0) (by kernel_rfl) ?_; clear hr a; intro a hr
  refine wpList_nil ?_
  refine then_normal ?_
  refine wp_seq ?_
  refine wp_seq ?_
  refine wp_region_lit ?_
  refine ovs [11, 12] [.iface 26 (.pointer (some ⟨B0, 0, none⟩)), .bool false] hr ⟨rfl, rfl⟩ (by kernel_rfl) ?_; clear hr a; intro a hr
  refine wpList_nil ?_
  refine then_normal ?_
  refine cond_ff hr (b := false) rfl ?_
  refine wp_skip ?_
  refine then_normal ?_
  refine wp_seq ?_
  refine wp_seq ?_
  refine wp_region_lit ?_
  replace H := bd1 H; obtain ⟨r6, e7, H⟩ := H
  refine ov hr (.int .i64 p1) (by kernel_rfl) ?_; clear hr a; intro a hr
  have hc := frames_Cells_ok (H := e7) (h := h)
  refine op_call (wn rfl) rfl rfl hr (f := 15) (args := #[.int .i64 p1]) (by kernel_rfl) hc ?_; clear hc h
  rintro _ w ⟨rfl, h⟩; refine ⟨_, rfl, ?_⟩
  clear hr a; intro a hr
  refine ov hr (.bool (r6 == (0 : Int))) (by kernel_rfl) ?_; clear hr a; intro a hr
  refine wpList_nil ?_
  refine then_normal ?_
  by_cases c8 : r6 = (0 : Int)
  ·
    replace H := ifT c8 H
    refine cond_tt hr (b := (r6 == (0 : Int))) (beq_iff_eq.mpr c8) ?_
    refine wp_seq ?_
    refine wp_region_lit ?_
    refine ov hr (.agg #[.int .i64 0, .int .i64 0]) (by kernel_rfl) ?_; clear hr a; intro a hr
    refine op_stores (wn rfl) rfl hr rfl (by kernel_rfl) (by kernel_rfl) (vs := [.int .i64 0, .int .i64 0]) rfl rfl (by kernel_rfl) h (i := 0) (cs' := #[.int .i64 0, .int .i64 0]) rfl ?_; clear h; intro w h
    refine ov hr (.int .i64 3) (by kernel_rfl) ?_; clear hr a; intro a hr
    refine wpList_nil ?_
    replace h : Fit z (sepL (pts b5 (.cells #[.int .i64 0, .int .i64 0] 39) :: ob103 B0 p0 ca1 cc2 ca3 cc4 :: ro2 ca1 cc2 p0.cell :: ro96 ca3 cc4 p0.log :: L)) _ := h
    refine then_normal ?_
    refine wp_ret ?_
    refine then_ret ?_
    refine end_retCT (cs := [.int .i64 0, .int .i64 0]) (v := .int .i64 3) rfl hr (by kernel_rfl) (by kernel_rfl) (by kernel_rfl) (by kernel_rfl) ⟨h.cell 0 rfl, h.cell 1 rfl, trivial⟩ ?_
    replace h : Fit z (sepL (ob103 B0 p0 ca1 cc2 ca3 cc4 :: ro2 ca1 cc2 p0.cell :: ro96 ca3 cc4 p0.log :: L)) _ := h.sel 4 [1, 2, 3] (by kernel_rfl) (by kernel_rfl)
    replace H := ej3 H; obtain ⟨rfl, rfl, rfl⟩ := H
    exact ⟨ca1, cc2, ca3, cc4, rfl, h⟩
  ·
    replace H := ifF c8 H
    refine cond_ff hr (b := (r6 == (0 : Int))) (beq_eq_false_iff_ne.mpr c8) ?_
    refine wp_skip ?_
    refine then_normal ?_
    refine wp_seq ?_
    replace H := bd1 H; obtain ⟨r9, e10, H⟩ := H
    replace H := bd3 H; obtain ⟨r11, r12, S13, e14, H⟩ := H
    refine reg_E (fun w => True) [] h (by kernel_rfl) ?_; intro w h
    change wpAnyE _ _ _ _ _ _ 12 (Array.replicate 12 false) a w
    refine ev 11 0 rfl (by kernel_rfl) (wn rfl) hr (.iface 26 (.pointer (some ⟨B0, 0, none⟩))) (fun w => by kernel_rfl) ?_; clear hr a; intro a hr
    refine ev 10 1 rfl (by kernel_rfl) (wn rfl) hr (.int .i64 p1) (fun w => by kernel_rfl) ?_; clear hr a; intro a hr
    refine ev 9 3 rfl (by kernel_rfl) (wn rfl) hr (.func (.method "Reserve") #[.iface 26 (.pointer (some ⟨B0, 0, none⟩))] #[]) (fun w => by kernel_rfl) ?_; clear hr a; intro a hr
    refine ev 8 4 rfl (by kernel_rfl) (wn rfl) hr (.func (.method "Reserve") #[.iface 26 (.pointer (some ⟨B0, 0, none⟩))] #[]) (fun w => by kernel_rfl) ?_; clear hr a; intro a hr
    refine ev 7 5 rfl (by kernel_rfl) (wn rfl) hr (.iface 26 (.pointer (some ⟨B0, 0, none⟩))) (fun w => by kernel_rfl) ?_; clear hr a; intro a hr
    refine e_one (fuel := 6) (i := 2) (by kernel_rfl) rfl ?_
    have hc := frames_Cells_ok (H := e10) (h := h)
    refine op_call (wn rfl) rfl rfl hr (f := 15) (args := #[.int .i64 p1]) (by kernel_rfl) hc ?_; clear hc h
    rintro _ w ⟨rfl, h⟩; refine ⟨_, rfl, ?_⟩
    clear hr a; intro a hr
    refine wpList_nil ?_; refine then_normal ?_
    refine ⟨fun hE => absurd hE (by decide), ?_⟩
    refine e_one (fuel := 5) (i := 6) (by kernel_rfl) rfl ?_
    replace h : Fit z (sepL (ob103 B0 p0 ca1 cc2 ca3 cc4 :: ro2 ca1 cc2 p0.cell :: ro96 ca3 cc4 p0.log :: pts b5 (.cells #[.int .i64 0, .int .i64 0] 39) :: L)) _ := h.sel 4 [1, 2, 3, 0] (by kernel_rfl) (by kernel_rfl)
    have hc := cells_Arena_Reserve_ok (H := e14) (h := h)
    refine op_call (wn rfl) rfl rfl hr (f := 35) (args := #[.pointer (some ⟨B0, 0, none⟩), .int .i64 r9]) (by kernel_rfl) hc ?_; clear hc h
    rintro _ w ⟨caq15, ccq16, caq17, ccq18, rfl, h⟩; refine ⟨_, rfl, ?_⟩
    clear hr a; intro a hr
    refine wpList_nil ?_; refine then_normal ?_
    refine ⟨fun hE => absurd hE (by decide), ?_⟩
    refine ev 4 7 rfl (by kernel_rfl) (wn rfl) hr (.tuple #[.int .i64 r11, .int .i64 r12]) (fun w => by kernel_rfl) ?_; clear hr a; intro a hr
    refine ev 3 8 rfl (by kernel_rfl) (wn rfl) hr (.int .i64 r11) (fun w => by kernel_rfl) ?_; clear hr a; intro a hr
    refine ev 2 9 rfl (by kernel_rfl) (wn rfl) hr (.int .i64 r12) (fun w => by kernel_rfl) ?_; clear hr a; intro a hr
    refine ev 1 10 rfl (by kernel_rfl) (wn rfl) hr (.int .i64 r11) (fun w => by kernel_rfl) ?_; clear hr a; intro a hr
    refine ev 0 11 rfl (by kernel_rfl) (wn rfl) hr (.int .i64 r12) (fun w => by kernel_rfl) ?_; clear hr a; intro a hr
    refine e_end (by kernel_rfl) ?_
    refine then_normal ?_
    refine wp_seq ?_
    refine wp_seq ?_
    refine wp_region_lit ?_
    refine ovs [28, 29] [.int .i64 r12, .bool (r12 != (0 : Int))] hr ⟨rfl, rfl⟩ (by kernel_rfl) ?_; clear hr a; intro a hr
    refine wpList_nil ?_
    refine then_normal ?_
    by_cases c19 : r12 = (0 : Int)
    ·
      replace H := ifT c19 H
      refine cond_ff hr (b := (r12 != (0 : Int))) (bne_eq_false_iff_eq.mpr c19) ?_
      refine wp_skip ?_
      refine then_normal ?_
      refine wp_seq ?_
      refine wp_region_lit ?_
      refine ovs [32, 33, 34] [.int .i64 r11, .int .i64 p1, .agg #[.int .i64 r11, .int .i64 p1]] hr ⟨rfl, rfl⟩ (by kernel_rfl) ?_; clear hr a; intro a hr
      refine op_new (wn rfl) rfl rfl hr h (vf := fun b => .pointer (some ⟨b, 0, none⟩)) (cs := #[.int .i64 0, .int .i64 0]) (T := 39) (by kernel_rfl) ?_; clear h hr a; intro b20 w a h hr
      refine op_stores (wn rfl) rfl hr rfl (by kernel_rfl) (by kernel_rfl) (vs := [.int .i64 r11, .int .i64 p1]) rfl rfl (by kernel_rfl) h (i := 0) (cs' := #[.int .i64 r11, .int .i64 p1]) rfl ?_; clear h; intro w h
      refine wpList_nil ?_
      replace h : Fit z (sepL (pts b20 (.cells #[.int .i64 r11, .int .i64 p1] 39) :: ob103 B0 S13 caq15 ccq16 caq17 ccq18 :: ro2 caq15 ccq16 S13.cell :: ro96 caq17 ccq18 S13.log :: pts b5 (.cells #[.int .i64 0, .int .i64 0] 39) :: L)) _ := h
      refine then_normal ?_
      refine wp_seq ?_
      refine wp_seq ?_
      refine wp_region_lit ?_
      refine ovs [35, 36] [.int .i64 p1, .int .i64 0] hr ⟨rfl, rfl⟩ (by kernel_rfl) ?_; clear hr a; intro a hr
      refine wpList_nil ?_
      refine then_normal ?_
      refine wp_block ?_
      replace hr := hr.fold2 [(0, .iface 26 (.pointer (some ⟨B0, 0, none⟩))), (4, .pointer (some ⟨b5, 0, none⟩)), (8, .pointer (some ⟨b20, 0, none⟩)), (35, .int .i64 p1), (36, .int .i64 0)] (by kernel_rfl); obtain ⟨j, hr⟩ := hr
      replace h : Fit z (sepL (ob103 B0 S13 caq15 ccq16 caq17 ccq18 :: ro2 caq15 ccq16 S13.cell :: ro96 caq17 ccq18 S13.log :: pts b5 (.cells #[.int .i64 0, .int .i64 0] 39) :: pts b20 (.cells #[.int .i64 r11, .int .i64 p1] 39) :: L)) _ := h.sel 5 [1, 2, 3, 4, 0] (by kernel_rfl) (by kernel_rfl)
      refine loop_rule (β := Nat) id (fun m a w => ∃ ca22 : Option Addr, ∃ cc23 : Nat, ∃ ca24 : Option Addr, ∃ cc25 : Nat, ∃ S21 : T_cells_Arena, ∃ g26 : Int, (frames_New_iface_l1 K p1 r11 m S21 g26) = some (r0, r1, q0) ∧ ∃ j, Rep 53 (lk [(0, .iface 26 (.pointer (some ⟨B0, 0, none⟩))), (4, .pointer (some ⟨b5, 0, none⟩)), (8, .pointer (some ⟨b20, 0, none⟩)), (35, .int .i64 p1), (36, .int .i64 g26)] j) a ∧ Fit z (sepL (ob103 B0 S21 ca22 cc23 ca24 cc25 :: ro2 ca22 cc23 S21.cell :: ro96 ca24 cc25 S21.log :: pts b5 (.cells #[.int .i64 0, .int .i64 0] 39) :: pts b20 (.cells #[.int .i64 r11, .int .i64 p1] 39) :: L)) w) K ⟨caq15, ccq16, caq17, ccq18, S13, 0, H, j, hr, h⟩ ?_
      clear h hr a H; rintro k1 a w ⟨ca22, cc23, ca24, cc25, S21, g26, H, j, hr, h⟩
      cases k1 with
      | zero => exact absurd H (by simp [frames_New_iface_l1])
      | succ k1 =>
        rw [frames_New_iface_l1] at H
        refine wp_seq ?_
        refine wp_region_lit ?_
        refine ov hr (.bool (decide (g26 < p1))) (by kernel_rfl) ?_; clear hr a; intro a hr
        refine wpList_nil ?_
        refine then_normal ?_
        refine wp_seq ?_
        by_cases c27 : g26 < p1
        ·
          replace H := ifT c27 H
          refine cond_tt hr (b := (decide (g26 < p1))) (decide_eq_true c27) ?_
          refine wp_skip ?_
          refine then_normal ?_
          refine wp_seq ?_
          refine wp_block ?_
          refine wp_seq ?_
          refine wp_region_lit ?_
          refine ovs [38, 9] [.int .i64 g26, .int .i64 g26] hr ⟨rfl, rfl⟩ (by kernel_rfl) ?_; clear hr a; intro a hr
          refine wpList_nil ?_
          refine then_normal ?_
          refine wp_seq ?_
          replace H := bd1 H; obtain ⟨r28, e29, H⟩ := H
          replace H := bd2 H; obtain ⟨r30, S31, e32, H⟩ := H
          refine reg_E (fun w => heldC w b20 0 [.int .i64 r11, .int .i64 p1] ∧ True) [3, 4, 5] h (by kernel_rfl) ?_; intro w h
          change wpAnyE _ _ _ _ _ _ 9 (Array.replicate 9 false) a w
          have hgo : ∀ w w', CellsGo w w' → (heldC w b20 0 [.int .i64 r11, .int .i64 p1] ∧ True) → heldC w' b20 0 [.int .i64 r11, .int .i64 p1] ∧ True := fun w w' g hD => ⟨heldC_go _ _ _ _ _ g hD.1, trivial⟩
          refine ev 8 0 rfl (by kernel_rfl) (wn rfl) hr (.iface 26 (.pointer (some ⟨B0, 0, none⟩))) (fun w => by kernel_rfl) ?_; clear hr a; intro a hr
          refine ev 7 2 rfl (by kernel_rfl) (wn rfl) hr (.int .i64 g26) (fun w => by kernel_rfl) ?_; clear hr a; intro a hr
          refine evD hgo ⟨⟨(h.pick 4).cell 0 rfl, (h.pick 4).cell 1 rfl, trivial⟩, trivial⟩ 6 4 rfl (by kernel_rfl) (wn rfl) hr (.func (.method "Store") #[.iface 26 (.pointer (some ⟨B0, 0, none⟩))] #[]) (fun w => by kernel_rfl) ?_; clear hr a; intro a hr
          refine evD hgo ⟨⟨(h.pick 4).cell 0 rfl, (h.pick 4).cell 1 rfl, trivial⟩, trivial⟩ 5 5 rfl (by kernel_rfl) (wn rfl) hr (.func (.method "Store") #[.iface 26 (.pointer (some ⟨B0, 0, none⟩))] #[]) (fun w => by kernel_rfl) ?_; clear hr a; intro a hr
          refine ev 4 6 rfl (by kernel_rfl) (wn rfl) hr (.iface 26 (.pointer (some ⟨B0, 0, none⟩))) (fun w => by kernel_rfl) ?_; clear hr a; intro a hr
          refine el [3, 4, 5] (b := b20) (off := 0) (cs := [.int .i64 r11, .int .i64 p1]) (fun _ hk => ⟨hk, fun w hD => hD.1⟩) 3 1 rfl (by kernel_rfl) (wn rfl) hr (.agg #[.int .i64 r11, .int .i64 p1]) ⟨(h.pick 4).cell 0 rfl, (h.pick 4).cell 1 rfl, trivial⟩ (fun w hc => rlm (cs := [.int .i64 r11, .int .i64 p1]) rfl (by kernel_rfl) (by kernel_rfl) (by kernel_rfl) hc) ?_; clear hr a; intro a hr
          refine e_one (fuel := 2) (i := 3) (by kernel_rfl) rfl ?_
          have hc := frames_Table__join_ok (H := e29) (h := h)
          refine op_call (wn rfl) rfl rfl hr (f := 54) (args := #[.agg #[.int .i64 r11, .int .i64 p1], .int .i64 g26]) (by kernel_rfl) hc ?_; clear hc h
          rintro _ w ⟨rfl, h⟩; refine ⟨_, rfl, ?_⟩
          clear hr a; intro a hr
          refine wpList_nil ?_; refine then_normal ?_
          refine ⟨fun _ => ⟨⟨(h.pick 4).cell 0 rfl, (h.pick 4).cell 1 rfl, trivial⟩, trivial⟩, ?_⟩
          refine e_one (fuel := 1) (i := 7) (by kernel_rfl) rfl ?_
          have hc := cells_Arena_Store_ok (H := e32) (h := h)
          refine op_call (wn rfl) rfl rfl hr (f := 125) (args := #[.pointer (some ⟨B0, 0, none⟩), .int .i64 r28, .int .i64 1]) (by kernel_rfl) hc ?_; clear hc h
          rintro _ w ⟨caq33, ccq34, caq35, ccq36, rfl, h⟩; refine ⟨_, rfl, ?_⟩
          clear hr a; intro a hr
          refine wpList_nil ?_; refine then_normal ?_
          refine ⟨fun hE => absurd hE (by decide), ?_⟩
          refine ev 0 8 rfl (by kernel_rfl) (wn rfl) hr (.int .i64 r30) (fun w => by kernel_rfl) ?_; clear hr a; intro a hr
          refine e_end (by kernel_rfl) ?_
          refine then_normal ?_
          refine wp_seq ?_
          refine wp_region_lit ?_
          refine ovs [47, 48] [.int .i64 r30, .bool (r30 != (0 : Int))] hr ⟨rfl, rfl⟩ (by kernel_rfl) ?_; clear hr a; intro a hr
          refine wpList_nil ?_
          refine then_normal ?_
          by_cases c37 : r30 = (0 : Int)
          ·
            replace H := ifT c37 H
            refine cond_ff hr (b := (r30 != (0 : Int))) (bne_eq_false_iff_eq.mpr c37) ?_
            refine wp_skip ?_
            refine blk_normal ?_
            refine then_normal ?_
            refine wp_region_lit ?_
            refine ovs [51, 36] [.int .i64 (wi (g26 + (1 : Int))), .int .i64 (wi (g26 + (1 : Int)))] hr ⟨rfl, rfl⟩ (by kernel_rfl) ?_; clear hr a; intro a hr
            refine wpList_nil ?_
            refine then_normal ?_
            replace hr := hr.fold2 [(0, .iface 26 (.pointer (some ⟨B0, 0, none⟩))), (4, .pointer (some ⟨b5, 0, none⟩)), (8, .pointer (some ⟨b20, 0, none⟩)), (35, .int .i64 p1), (36, .int .i64 (wi (g26 + (1 : Int))))] (by kernel_rfl); obtain ⟨j, hr⟩ := hr
            exact ⟨_, ⟨caq33, ccq34, caq35, ccq36, S31, (wi (g26 + (1 : Int))), H, j, hr, h⟩, Nat.lt_succ_self _⟩
          ·
            replace H := ifF c37 H
            refine cond_tt hr (b := (r30 != (0 : Int))) (bne_iff_ne.mpr c37) ?_
            refine wp_seq ?_
            refine wp_region_lit ?_
            refine ovs [49, 50] [.agg #[.int .i64 0, .int .i64 0], .int .i64 r30] hr ⟨rfl, rfl⟩ (by kernel_rfl) ?_; clear hr a; intro a hr
            replace h : Fit z (sepL (pts b5 (.cells #[.int .i64 0, .int .i64 0] 39) :: ob103 B0 S31 caq33 ccq34 caq35 ccq36 :: ro2 caq33 ccq34 S31.cell :: ro96 caq35 ccq36 S31.log :: pts b20 (.cells #[.int .i64 r11, .int .i64 p1] 39) :: L)) _ := h.sel 5 [3, 0, 1, 2, 4] (by kernel_rfl) (by kernel_rfl)
            refine op_stores (wn rfl) rfl hr rfl (by kernel_rfl) (by kernel_rfl) (vs := [.int .i64 0, .int .i64 0]) rfl rfl (by kernel_rfl) h (i := 0) (cs' := #[.int .i64 0, .int .i64 0]) rfl ?_; clear h; intro w h
            refine ov hr (.int .i64 r30) (by kernel_rfl) ?_; clear hr a; intro a hr
            refine wpList_nil ?_
            replace h : Fit z (sepL (pts b5 (.cells #[.int .i64 0, .int .i64 0] 39) :: ob103 B0 S31 caq33 ccq34 caq35 ccq36 :: ro2 caq33 ccq34 S31.cell :: ro96 caq35 ccq36 S31.log :: pts b20 (.cells #[.int .i64 r11, .int .i64 p1] 39) :: L)) _ := h
            refine then_normal ?_
            refine wp_ret ?_
            refine blk_ret ?_
            refine then_ret ?_
            refine then_ret ?_
            refine blk_ret ?_
            refine then_ret ?_
            refine end_retCT (cs := [.int .i64 0, .int .i64 0]) (v := .int .i64 r30) rfl hr (by kernel_rfl) (by kernel_rfl) (by kernel_rfl) (by kernel_rfl) ⟨h.cell 0 rfl, h.cell 1 rfl, trivial⟩ ?_
            replace h : Fit z (sepL (ob103 B0 S31 caq33 ccq34 caq35 ccq36 :: ro2 caq33 ccq34 S31.cell :: ro96 caq35 ccq36 S31.log :: L)) _ := h.sel 5 [1, 2, 3] (by kernel_rfl) (by kernel_rfl)
            replace H := ej3 H; obtain ⟨rfl, rfl, rfl⟩ := H
            exact ⟨caq33, ccq34, caq35, ccq36, rfl, h⟩
        ·
          replace H := ifF c27 H
          refine cond_ff hr (b := (decide (g26 < p1))) (decide_eq_false c27) ?_
          refine wp_exit ?_
          refine then_exit ?_
          refine then_exit ?_
          refine blk_here ?_
          refine then_normal ?_
          refine wp_seq ?_
          refine wp_region_lit ?_
          refine op_val (wn rfl) rfl rfl hr (v := .agg #[.int .i64 r11, .int .i64 p1]) (rlm (cs := [.int .i64 r11, .int .i64 p1]) rfl (by kernel_rfl) (by kernel_rfl) (by kernel_rfl) ⟨(h.pick 4).cell 0 rfl, (h.pick 4).cell 1 rfl, trivial⟩) ?_; clear hr a; intro a hr
          replace h : Fit z (sepL (pts b5 (.cells #[.int .i64 0, .int .i64 0] 39) :: ob103 B0 S21 ca22 cc23 ca24 cc25 :: ro2 ca22 cc23 S21.cell :: ro96 ca24 cc25 S21.log :: pts b20 (.cells #[.int .i64 r11, .int .i64 p1] 39) :: L)) _ := h.sel 5 [3, 0, 1, 2, 4] (by kernel_rfl) (by kernel_rfl)
          refine op_stores (wn rfl) rfl hr rfl (by kernel_rfl) (by kernel_rfl) (vs := [.int .i64 r11, .int .i64 p1]) rfl rfl (by kernel_rfl) h (i := 0) (cs' := #[.int .i64 r11, .int .i64 p1]) rfl ?_; clear h; intro w h
          refine ov hr (.int .i64 0) (by kernel_rfl) ?_; clear hr a; intro a hr
          refine wpList_nil ?_
          replace h : Fit z (sepL (pts b5 (.cells #[.int .i64 r11, .int .i64 p1] 39) :: ob103 B0 S21 ca22 cc23 ca24 cc25 :: ro2 ca22 cc23 S21.cell :: ro96 ca24 cc25 S21.log :: pts b20 (.cells #[.int .i64 r11, .int .i64 p1] 39) :: L)) _ := h
          refine then_normal ?_
          refine wp_ret ?_
          refine end_retCT (cs := [.int .i64 r11, .int .i64 p1]) (v := .int .i64 0) rfl hr (by kernel_rfl) (by kernel_rfl) (by kernel_rfl) (by kernel_rfl) ⟨h.cell 0 rfl, h.cell 1 rfl, trivial⟩ ?_
          replace h : Fit z (sepL (ob103 B0 S21 ca22 cc23 ca24 cc25 :: ro2 ca22 cc23 S21.cell :: ro96 ca24 cc25 S21.log :: L)) _ := h.sel 5 [1, 2, 3] (by kernel_rfl) (by kernel_rfl)
          replace H := ej3 H; obtain ⟨rfl, rfl, rfl⟩ := H
          exact ⟨ca22, cc23, ca24, cc25, rfl, h⟩
    ·
      replace H := ifF c19 H
      refine cond_tt hr (b := (r12 != (0 : Int))) (bne_iff_ne.mpr c19) ?_
      refine wp_seq ?_
      refine wp_region_lit ?_
      refine ovs [30, 31] [.agg #[.int .i64 0, .int .i64 0], .int .i64 r12] hr ⟨rfl, rfl⟩ (by kernel_rfl) ?_; clear hr a; intro a hr
      replace h : Fit z (sepL (pts b5 (.cells #[.int .i64 0, .int .i64 0] 39) :: ob103 B0 S13 caq15 ccq16 caq17 ccq18 :: ro2 caq15 ccq16 S13.cell :: ro96 caq17 ccq18 S13.log :: L)) _ := h.sel 4 [3, 0, 1, 2] (by kernel_rfl) (by kernel_rfl)
      refine op_stores (wn rfl) rfl hr rfl (by kernel_rfl) (by kernel_rfl) (vs := [.int .i64 0, .int .i64 0]) rfl rfl (by kernel_rfl) h (i := 0) (cs' := #[.int .i64 0, .int .i64 0]) rfl ?_; clear h; intro w h
      refine ov hr (.int .i64 r12) (by kernel_rfl) ?_; clear hr a; intro a hr
      refine wpList_nil ?_
      replace h : Fit z (sepL (pts b5 (.cells #[.int .i64 0, .int .i64 0] 39) :: ob103 B0 S13 caq15 ccq16 caq17 ccq18 :: ro2 caq15 ccq16 S13.cell :: ro96 caq17 ccq18 S13.log :: L)) _ := h
      refine then_normal ?_
      refine wp_ret ?_
      refine then_ret ?_
      refine end_retCT (cs := [.int .i64 0, .int .i64 0]) (v := .int .i64 r12) rfl hr (by kernel_rfl) (by kernel_rfl) (by kernel_rfl) (by kernel_rfl) ⟨h.cell 0 rfl, h.cell 1 rfl, trivial⟩ ?_
      replace h : Fit z (sepL (ob103 B0 S13 caq15 ccq16 caq17 ccq18 :: ro2 caq15 ccq16 S13.cell :: ro96 caq17 ccq18 S13.log :: L)) _ := h.sel 4 [1, 2, 3] (by kernel_rfl) (by kernel_rfl)
      replace H := ej3 H; obtain ⟨rfl, rfl, rfl⟩ := H
      exact ⟨caq15, ccq16, caq17, ccq18, rfl, h⟩

/-- (*plunder/cells.Arena).Watch -/
def cells_Arena_Watch (p0 : T_cells_Arena) (p1 : Bool) : Option (T_cells_Arena) :=
  some ({ p0 with watched := p1 })
set_option maxRecDepth 100000 in
set_option maxHeartbeats 4000000 in
theorem cells_Arena_Watch_ok {z w : World} {L : List HProp} {p0 : T_cells_Arena} {p1 : Bool} {B0 : Nat} {ca1 : Option Addr} {cc2 : Nat} {ca3 : Option Addr} {cc4 : Nat} {q0 : T_cells_Arena} (H : cells_Arena_Watch p0 p1 = some q0) (h : Fit z (sepL (ob103 B0 p0 ca1 cc2 ca3 cc4 :: ro2 ca1 cc2 p0.cell :: ro96 ca3 cc4 p0.log :: L)) w)  :
    Calls Try.prog 17 #[.pointer (some ⟨B0, 0, none⟩), .bool p1] w fun e w => ∃ caq0_1 : Option Addr, ∃ ccq0_2 : Nat, ∃ caq0_3 : Option Addr, ∃ ccq0_4 : Nat, e = .returned (.tuple #[]) ∧ Fit z (sepL (ob103 B0 q0 caq0_1 ccq0_2 caq0_3 ccq0_4 :: ro2 caq0_1 ccq0_2 q0.cell :: ro96 caq0_3 ccq0_4 q0.log :: L)) w := by
  unfold cells_Arena_Watch at H
  refine enter Try.func17 rfl 10 rfl rfl [(0, .pointer (some ⟨B0, 0, none⟩)), (1, .bool p1)] ⟨rfl, rfl, trivial⟩ ?_
  intro j a hr
  refine wp_seq ?_
  refine wp_region_lit ?_
  refine ovs [4, 5] [.pointer (some ⟨B0, 0, none⟩), .bool true] hr ⟨rfl, rfl⟩ (by kernel_rfl) ?_; clear hr a; intro a hr
  refine wpList_nil ?_
  refine then_normal ?_
  refine cond_tt hr (b := true) rfl ?_
  refine wp_region_lit ?_
  refine ovs [6, 7, 8, 9] [.pointer (some ⟨B0, 0, none⟩), .bool p1, .pointer (some ⟨B0, 0, none⟩), .pointer (some ⟨B0, 5, none⟩)] hr ⟨rfl, rfl⟩ (by kernel_rfl) ?_; clear hr a; intro a hr
  refine op_store (wn rfl) rfl hr rfl (by kernel_rfl) (by kernel_rfl) (v := .bool p1) rfl rfl (by kernel_rfl) h (i := 5) rfl ?_; clear h; intro w h
  refine wpList_nil ?_
  replace h : Fit z (sepL (pts B0 (.cells #[.int .i64 p0.ledger_size, .int .i64 p0.ledger_mark, .slice ca1 p0.cell.length cc2, .slice ca3 p0.log.length cc4, .int .i64 p0.actor, .bool p1] 103) :: ro2 ca1 cc2 p0.cell :: ro96 ca3 cc4 p0.log :: L)) _ := h
  refine end_norm0 rfl hr ?_
  replace H := ej1 H; subst H
  exact ⟨ca1, cc2, ca3, cc4, rfl, h⟩

/-- (plunder/frames.Table).has -/
def frames_Table__has (p0 : T_frames_Table) (p1 : Int) : Option (Bool) :=
  (if p0.Base ≥ (0 : Int) then (if p0.Frames ≥ (1 : Int) then (if p0.Frames ≤ (4096 : Int) then (if p1 ≥ (0 : Int) then some (decide (p1 < p0.Frames)) else some false) else some false) else some false) else some false)
set_option maxRecDepth 100000 in
set_option maxHeartbeats 4000000 in
theorem frames_Table__has_ok {z w : World} {L : List HProp} {p0 : T_frames_Table} {p1 : Int} {r0 : Bool} (H : frames_Table__has p0 p1 = some r0) (h : Fit z (sepL (L)) w)  :
    Calls Try.prog 80 #[.agg #[.int .i64 p0.Base, .int .i64 p0.Frames], .int .i64 p1] w fun e w => e = .returned (.bool r0) ∧ Fit z (sepL (L)) w := by
  unfold frames_Table__has at H
  refine enter Try.func80 rfl 28 rfl rfl [(0, .agg #[.int .i64 p0.Base, .int .i64 p0.Frames]), (1, .int .i64 p1)] ⟨rfl, rfl, trivial⟩ ?_
  intro j a hr
  refine wp_seq ?_
  refine wp_region_lit ?_
  refine op_new (wn rfl) rfl rfl hr h (vf := fun b => .pointer (some ⟨b, 0, none⟩)) (cs := #[.int .i64 p0.Base, .int .i64 p0.Frames]) (T := 39) (by kernel_rfl) ?_; clear h hr a; intro b1 w a h hr
  refine ov hr (.bool false) (by kernel_rfl) ?_; clear hr a; intro a hr
  refine wpList_nil ?_
  refine then_normal ?_
  refine wp_seq ?_
  refine wp_region_lit ?_
  refine ov hr (.pointer (some ⟨b1, 0, none⟩)) (by kernel_rfl) ?_; clear hr a; intro a hr
  refine op_val (wn rfl) rfl rfl hr (v := .int .i64 p0.Base) (rl rfl (by kernel_rfl) (by kernel_rfl) (h.cell 0 rfl)) ?_; clear hr a; intro a hr
  refine ovs [7, 8] [.bool (decide (p0.Base ≥ (0 : Int))), .bool (decide (p0.Base ≥ (0 : Int)))] hr ⟨rfl, rfl⟩ (by kernel_rfl) ?_; clear hr a; intro a hr
  by_cases c2 : p0.Base ≥ (0 : Int)
  ·
    replace H := ifT c2 H
    refine op_val ((wg hr rfl rfl rfl (b' := (decide (p0.Base ≥ (0 : Int)))) (by kernel_rfl)).trans (by rw [show (decide (p0.Base ≥ (0 : Int))) = true from (decide_eq_true c2)]; rfl)) rfl rfl hr (v := .pointer (some ⟨b1, 1, none⟩)) (by kernel_rfl) ?_; clear hr a; intro a hr
    refine op_val ((wg hr rfl rfl rfl (b' := (decide (p0.Base ≥ (0 : Int)))) (by kernel_rfl)).trans (by rw [show (decide (p0.Base ≥ (0 : Int))) = true from (decide_eq_true c2)]; rfl)) rfl rfl hr (v := .int .i64 p0.Frames) (rl rfl (by kernel_rfl) (by kernel_rfl) (h.cell 1 rfl)) ?_; clear hr a; intro a hr
    refine op_val ((wg hr rfl rfl rfl (b' := (decide (p0.Base ≥ (0 : Int)))) (by kernel_rfl)).trans (by rw [show (decide (p0.Base ≥ (0 : Int))) = true from (decide_eq_true c2)]; rfl)) rfl rfl hr (v := .bool (decide (p0.Frames ≥ (1 : Int)))) (by kernel_rfl) ?_; clear hr a; intro a hr
    refine op_val (wn rfl) rfl rfl hr (v := .bool (decide (p0.Frames ≥ (1 : Int)))) (rp_t (b := (decide (p0.Base ≥ (0 : Int)))) rfl (by kernel_rfl) (decide_eq_true c2) (by kernel_rfl)) ?_; clear hr a; intro a hr
    refine ov hr (.bool (decide (p0.Frames ≥ (1 : Int)))) (by kernel_rfl) ?_; clear hr a; intro a hr
    by_cases c3 : p0.Frames ≥ (1 : Int)
    ·
      replace H := ifT c3 H
      refine op_val ((wg hr rfl rfl rfl (b' := (decide (p0.Frames ≥ (1 : Int)))) (by kernel_rfl)).trans (by rw [show (decide (p0.Frames ≥ (1 : Int))) = true from (decide_eq_true c3)]; rfl)) rfl rfl hr (v := .pointer (some ⟨b1, 1, none⟩)) (by kernel_rfl) ?_; clear hr a; intro a hr
      refine op_val ((wg hr rfl rfl rfl (b' := (decide (p0.Frames ≥ (1 : Int)))) (by kernel_rfl)).trans (by rw [show (decide (p0.Frames ≥ (1 : Int))) = true from (decide_eq_true c3)]; rfl)) rfl rfl hr (v := .int .i64 p0.Frames) (rl rfl (by kernel_rfl) (by kernel_rfl) (h.cell 1 rfl)) ?_; clear hr a; intro a hr
      refine op_val ((wg hr rfl rfl rfl (b' := (decide (p0.Frames ≥ (1 : Int)))) (by kernel_rfl)).trans (by rw [show (decide (p0.Frames ≥ (1 : Int))) = true from (decide_eq_true c3)]; rfl)) rfl rfl hr (v := .bool (decide (p0.Frames ≤ (4096 : Int)))) (by kernel_rfl) ?_; clear hr a; intro a hr
      refine op_val (wn rfl) rfl rfl hr (v := .bool (decide (p0.Frames ≤ (4096 : Int)))) (rp_t (b := (decide (p0.Frames ≥ (1 : Int)))) rfl (by kernel_rfl) (decide_eq_true c3) (by kernel_rfl)) ?_; clear hr a; intro a hr
      refine ov hr (.bool (decide (p0.Frames ≤ (4096 : Int)))) (by kernel_rfl) ?_; clear hr a; intro a hr
      by_cases c4 : p0.Frames ≤ (4096 : Int)
      ·
        replace H := ifT c4 H
        refine op_val ((wg hr rfl rfl rfl (b' := (decide (p0.Frames ≤ (4096 : Int)))) (by kernel_rfl)).trans (by rw [show (decide (p0.Frames ≤ (4096 : Int))) = true from (decide_eq_true c4)]; rfl)) rfl rfl hr (v := .int .i64 p1) (by kernel_rfl) ?_; clear hr a; intro a hr
        refine op_val ((wg hr rfl rfl rfl (b' := (decide (p0.Frames ≤ (4096 : Int)))) (by kernel_rfl)).trans (by rw [show (decide (p0.Frames ≤ (4096 : Int))) = true from (decide_eq_true c4)]; rfl)) rfl rfl hr (v := .bool (decide (p1 ≥ (0 : Int)))) (by kernel_rfl) ?_; clear hr a; intro a hr
        refine op_val (wn rfl) rfl rfl hr (v := .bool (decide (p1 ≥ (0 : Int)))) (rp_t (b := (decide (p0.Frames ≤ (4096 : Int)))) rfl (by kernel_rfl) (decide_eq_true c4) (by kernel_rfl)) ?_; clear hr a; intro a hr
        refine ov hr (.bool (decide (p1 ≥ (0 : Int)))) (by kernel_rfl) ?_; clear hr a; intro a hr
        by_cases c5 : p1 ≥ (0 : Int)
        ·
          replace H := ifT c5 H
          refine op_val ((wg hr rfl rfl rfl (b' := (decide (p1 ≥ (0 : Int)))) (by kernel_rfl)).trans (by rw [show (decide (p1 ≥ (0 : Int))) = true from (decide_eq_true c5)]; rfl)) rfl rfl hr (v := .int .i64 p1) (by kernel_rfl) ?_; clear hr a; intro a hr
          refine op_val ((wg hr rfl rfl rfl (b' := (decide (p1 ≥ (0 : Int)))) (by kernel_rfl)).trans (by rw [show (decide (p1 ≥ (0 : Int))) = true from (decide_eq_true c5)]; rfl)) rfl rfl hr (v := .pointer (some ⟨b1, 1, none⟩)) (by kernel_rfl) ?_; clear hr a; intro a hr
          refine op_val ((wg hr rfl rfl rfl (b' := (decide (p1 ≥ (0 : Int)))) (by kernel_rfl)).trans (by rw [show (decide (p1 ≥ (0 : Int))) = true from (decide_eq_true c5)]; rfl)) rfl rfl hr (v := .int .i64 p0.Frames) (rl rfl (by kernel_rfl) (by kernel_rfl) (h.cell 1 rfl)) ?_; clear hr a; intro a hr
          refine op_val ((wg hr rfl rfl rfl (b' := (decide (p1 ≥ (0 : Int)))) (by kernel_rfl)).trans (by rw [show (decide (p1 ≥ (0 : Int))) = true from (decide_eq_true c5)]; rfl)) rfl rfl hr (v := .bool (decide (p1 < p0.Frames))) (by kernel_rfl) ?_; clear hr a; intro a hr
          refine op_val (wn rfl) rfl rfl hr (v := .bool (decide (p1 < p0.Frames))) (rp_t (b := (decide (p1 ≥ (0 : Int)))) rfl (by kernel_rfl) (decide_eq_true c5) (by kernel_rfl)) ?_; clear hr a; intro a hr
          refine ov hr (.bool (decide (p1 < p0.Frames))) (by kernel_rfl) ?_; clear hr a; intro a hr
          refine wpList_nil ?_
          refine then_normal ?_
          refine wp_ret ?_
          refine end_ret1 (v := .bool (decide (p1 < p0.Frames))) rfl hr (by kernel_rfl) ?_
          replace h : Fit z (sepL (L)) _ := h.sel 1 [] (by kernel_rfl) (by kernel_rfl)
          replace H := ej1 H; subst H
          exact ⟨rfl, h⟩
        ·
          replace H := ifF c5 H
          refine op_off ((wg hr rfl rfl rfl (b' := (decide (p1 ≥ (0 : Int)))) (by kernel_rfl)).trans (by rw [show (decide (p1 ≥ (0 : Int))) = false from (decide_eq_false c5)]; rfl)) rfl rfl hr ?_; clear hr a; intro a hr
          refine op_off ((wg hr rfl rfl rfl (b' := (decide (p1 ≥ (0 : Int)))) (by kernel_rfl)).trans (by rw [show (decide (p1 ≥ (0 : Int))) = false from (decide_eq_false c5)]; rfl)) rfl rfl hr ?_; clear hr a; intro a hr
          refine op_off ((wg hr rfl rfl rfl (b' := (decide (p1 ≥ (0 : Int)))) (by kernel_rfl)).trans (by rw [show (decide (p1 ≥ (0 : Int))) = false from (decide_eq_false c5)]; rfl)) rfl rfl hr ?_; clear hr a; intro a hr
          refine op_off ((wg hr rfl rfl rfl (b' := (decide (p1 ≥ (0 : Int)))) (by kernel_rfl)).trans (by rw [show (decide (p1 ≥ (0 : Int))) = false from (decide_eq_false c5)]; rfl)) rfl rfl hr ?_; clear hr a; intro a hr
          refine op_val (wn rfl) rfl rfl hr (v := .bool false) (rp_f (b := (decide (p1 ≥ (0 : Int)))) rfl (by kernel_rfl) (decide_eq_false c5) (by kernel_rfl)) ?_; clear hr a; intro a hr
          refine ov hr (.bool false) (by kernel_rfl) ?_; clear hr a; intro a hr
          refine wpList_nil ?_
          refine then_normal ?_
          refine wp_ret ?_
          refine end_ret1 (v := .bool false) rfl hr (by kernel_rfl) ?_
          replace h : Fit z (sepL (L)) _ := h.sel 1 [] (by kernel_rfl) (by kernel_rfl)
          replace H := ej1 H; subst H
          exact ⟨rfl, h⟩
      ·
        replace H := ifF c4 H
        refine op_off ((wg hr rfl rfl rfl (b' := (decide (p0.Frames ≤ (4096 : Int)))) (by kernel_rfl)).trans (by rw [show (decide (p0.Frames ≤ (4096 : Int))) = false from (decide_eq_false c4)]; rfl)) rfl rfl hr ?_; clear hr a; intro a hr
        refine op_off ((wg hr rfl rfl rfl (b' := (decide (p0.Frames ≤ (4096 : Int)))) (by kernel_rfl)).trans (by rw [show (decide (p0.Frames ≤ (4096 : Int))) = false from (decide_eq_false c4)]; rfl)) rfl rfl hr ?_; clear hr a; intro a hr
        refine op_val (wn rfl) rfl rfl hr (v := .bool false) (rp_f (b := (decide (p0.Frames ≤ (4096 : Int)))) rfl (by kernel_rfl) (decide_eq_false c4) (by kernel_rfl)) ?_; clear hr a; intro a hr
        refine ov hr (.bool false) (by kernel_rfl) ?_; clear hr a; intro a hr
        refine op_off ((wg hr rfl rfl rfl (b' := false) (by kernel_rfl)).trans rfl) rfl rfl hr ?_; clear hr a; intro a hr
        refine op_off ((wg hr rfl rfl rfl (b' := false) (by kernel_rfl)).trans rfl) rfl rfl hr ?_; clear hr a; intro a hr
        refine op_off ((wg hr rfl rfl rfl (b' := false) (by kernel_rfl)).trans rfl) rfl rfl hr ?_; clear hr a; intro a hr
        refine op_off ((wg hr rfl rfl rfl (b' := false) (by kernel_rfl)).trans rfl) rfl rfl hr ?_; clear hr a; intro a hr
        refine ovs [27, 4] [.bool false, .bool false] hr ⟨rfl, rfl⟩ (by kernel_rfl) ?_; clear hr a; intro a hr
        refine wpList_nil ?_
        refine then_normal ?_
        refine wp_ret ?_
        refine end_ret1 (v := .bool false) rfl hr (by kernel_rfl) ?_
        replace h : Fit z (sepL (L)) _ := h.sel 1 [] (by kernel_rfl) (by kernel_rfl)
        replace H := ej1 H; subst H
        exact ⟨rfl, h⟩
    ·
      replace H := ifF c3 H
      refine op_off ((wg hr rfl rfl rfl (b' := (decide (p0.Frames ≥ (1 : Int)))) (by kernel_rfl)).trans (by rw [show (decide (p0.Frames ≥ (1 : Int))) = false from (decide_eq_false c3)]; rfl)) rfl rfl hr ?_; clear hr a; intro a hr
      refine op_off ((wg hr rfl rfl rfl (b' := (decide (p0.Frames ≥ (1 : Int)))) (by kernel_rfl)).trans (by rw [show (decide (p0.Frames ≥ (1 : Int))) = false from (decide_eq_false c3)]; rfl)) rfl rfl hr ?_; clear hr a; intro a hr
      refine op_off ((wg hr rfl rfl rfl (b' := (decide (p0.Frames ≥ (1 : Int)))) (by kernel_rfl)).trans (by rw [show (decide (p0.Frames ≥ (1 : Int))) = false from (decide_eq_false c3)]; rfl)) rfl rfl hr ?_; clear hr a; intro a hr
      refine op_val (wn rfl) rfl rfl hr (v := .bool false) (rp_f (b := (decide (p0.Frames ≥ (1 : Int)))) rfl (by kernel_rfl) (decide_eq_false c3) (by kernel_rfl)) ?_; clear hr a; intro a hr
      refine ov hr (.bool false) (by kernel_rfl) ?_; clear hr a; intro a hr
      refine op_off ((wg hr rfl rfl rfl (b' := false) (by kernel_rfl)).trans rfl) rfl rfl hr ?_; clear hr a; intro a hr
      refine op_off ((wg hr rfl rfl rfl (b' := false) (by kernel_rfl)).trans rfl) rfl rfl hr ?_; clear hr a; intro a hr
      refine ovs [21, 22] [.bool false, .bool false] hr ⟨rfl, rfl⟩ (by kernel_rfl) ?_; clear hr a; intro a hr
      refine op_off ((wg hr rfl rfl rfl (b' := false) (by kernel_rfl)).trans rfl) rfl rfl hr ?_; clear hr a; intro a hr
      refine op_off ((wg hr rfl rfl rfl (b' := false) (by kernel_rfl)).trans rfl) rfl rfl hr ?_; clear hr a; intro a hr
      refine op_off ((wg hr rfl rfl rfl (b' := false) (by kernel_rfl)).trans rfl) rfl rfl hr ?_; clear hr a; intro a hr
      refine op_off ((wg hr rfl rfl rfl (b' := false) (by kernel_rfl)).trans rfl) rfl rfl hr ?_; clear hr a; intro a hr
      refine ovs [27, 4] [.bool false, .bool false] hr ⟨rfl, rfl⟩ (by kernel_rfl) ?_; clear hr a; intro a hr
      refine wpList_nil ?_
      refine then_normal ?_
      refine wp_ret ?_
      refine end_ret1 (v := .bool false) rfl hr (by kernel_rfl) ?_
      replace h : Fit z (sepL (L)) _ := h.sel 1 [] (by kernel_rfl) (by kernel_rfl)
      replace H := ej1 H; subst H
      exact ⟨rfl, h⟩
  ·
    replace H := ifF c2 H
    refine op_off ((wg hr rfl rfl rfl (b' := (decide (p0.Base ≥ (0 : Int)))) (by kernel_rfl)).trans (by rw [show (decide (p0.Base ≥ (0 : Int))) = false from (decide_eq_false c2)]; rfl)) rfl rfl hr ?_; clear hr a; intro a hr
    refine op_off ((wg hr rfl rfl rfl (b' := (decide (p0.Base ≥ (0 : Int)))) (by kernel_rfl)).trans (by rw [show (decide (p0.Base ≥ (0 : Int))) = false from (decide_eq_false c2)]; rfl)) rfl rfl hr ?_; clear hr a; intro a hr
    refine op_off ((wg hr rfl rfl rfl (b' := (decide (p0.Base ≥ (0 : Int)))) (by kernel_rfl)).trans (by rw [show (decide (p0.Base ≥ (0 : Int))) = false from (decide_eq_false c2)]; rfl)) rfl rfl hr ?_; clear hr a; intro a hr
    refine op_val (wn rfl) rfl rfl hr (v := .bool false) (rp_f (b := (decide (p0.Base ≥ (0 : Int)))) rfl (by kernel_rfl) (decide_eq_false c2) (by kernel_rfl)) ?_; clear hr a; intro a hr
    refine ov hr (.bool false) (by kernel_rfl) ?_; clear hr a; intro a hr
    refine op_off ((wg hr rfl rfl rfl (b' := false) (by kernel_rfl)).trans rfl) rfl rfl hr ?_; clear hr a; intro a hr
    refine op_off ((wg hr rfl rfl rfl (b' := false) (by kernel_rfl)).trans rfl) rfl rfl hr ?_; clear hr a; intro a hr
    refine op_off ((wg hr rfl rfl rfl (b' := false) (by kernel_rfl)).trans rfl) rfl rfl hr ?_; clear hr a; intro a hr
    refine ovs [17, 18] [.bool false, .bool false] hr ⟨rfl, rfl⟩ (by kernel_rfl) ?_; clear hr a; intro a hr
    refine op_off ((wg hr rfl rfl rfl (b' := false) (by kernel_rfl)).trans rfl) rfl rfl hr ?_; clear hr a; intro a hr
    refine op_off ((wg hr rfl rfl rfl (b' := false) (by kernel_rfl)).trans rfl) rfl rfl hr ?_; clear hr a; intro a hr
    refine ovs [21, 22] [.bool false, .bool false] hr ⟨rfl, rfl⟩ (by kernel_rfl) ?_; clear hr a; intro a hr
    refine op_off ((wg hr rfl rfl rfl (b' := false) (by kernel_rfl)).trans rfl) rfl rfl hr ?_; clear hr a; intro a hr
    refine op_off ((wg hr rfl rfl rfl (b' := false) (by kernel_rfl)).trans rfl) rfl rfl hr ?_; clear hr a; intro a hr
    refine op_off ((wg hr rfl rfl rfl (b' := false) (by kernel_rfl)).trans rfl) rfl rfl hr ?_; clear hr a; intro a hr
    refine op_off ((wg hr rfl rfl rfl (b' := false) (by kernel_rfl)).trans rfl) rfl rfl hr ?_; clear hr a; intro a hr
    refine ovs [27, 4] [.bool false, .bool false] hr ⟨rfl, rfl⟩ (by kernel_rfl) ?_; clear hr a; intro a hr
    refine wpList_nil ?_
    refine then_normal ?_
    refine wp_ret ?_
    refine end_ret1 (v := .bool false) rfl hr (by kernel_rfl) ?_
    replace h : Fit z (sepL (L)) _ := h.sel 1 [] (by kernel_rfl) (by kernel_rfl)
    replace H := ej1 H; subst H
    exact ⟨rfl, h⟩

/-- plunder/frames.begin -/
def frames_begin (p0 : Int) (p1 : T_frames_Table) (p2 : Int) (p3 : Int) (p4 : Int) : Option (T_frames_Op) :=
  ob1 (frames_Table__has p1 p2) (fun r3 => (if r3 = true then (if p3 < (0 : Int) then some (⟨0, 0, 0, 0, 0, 0, 0, 0, 0⟩ : T_frames_Op) else (if p3 ≥ (8 : Int) then some (⟨0, 0, 0, 0, 0, 0, 0, 0, 0⟩ : T_frames_Op) else some (⟨p1.Base, p1.Frames, p2, 1, 0, 0, p0, p3, p4⟩ : T_frames_Op))) else some (⟨0, 0, 0, 0, 0, 0, 0, 0, 0⟩ : T_frames_Op)))
set_option maxRecDepth 100000 in
set_option maxHeartbeats 4000000 in
theorem frames_begin_ok {z w : World} {L : List HProp} {p0 : Int} {p1 : T_frames_Table} {p2 : Int} {p3 : Int} {p4 : Int} {r0 : T_frames_Op} (H : frames_begin p0 p1 p2 p3 p4 = some r0) (h : Fit z (sepL (L)) w)  :
    Calls Try.prog 55 #[.int .i64 p0, .agg #[.int .i64 p1.Base, .int .i64 p1.Frames], .int .i64 p2, .int .i64 p3, .int .i64 p4] w fun e w => e = .returned (.agg #[.int .i64 r0.head_t_Base, .int .i64 r0.head_t_Frames, .int .i64 r0.head_frame, .int .i64 r0.head_stands, .int .i64 r0.head_code, .int .i64 r0.head_v, .int .i64 r0.kind, .int .i64 r0.slot, .int .i64 r0.give]) ∧ Fit z (sepL (L)) w := by
  unfold frames_begin at H
  refine enter Try.func55 rfl 31 rfl rfl [(0, .int .i64 p0), (1, .agg #[.int .i64 p1.Base, .int .i64 p1.Frames]), (2, .int .i64 p2), (3, .int .i64 p3), (4, .int .i64 p4)] ⟨rfl, rfl, rfl, rfl, rfl, trivial⟩ ?_
  intro j a hr
  refine wp_seq ?_
  refine wp_region_lit ?_
  refine op_new (wn rfl) rfl rfl hr h (vf := fun b => .pointer (some ⟨b, 0, none⟩)) (cs := #[.int .i64 p1.Base, .int .i64 p1.Frames]) (T := 39) (by kernel_rfl) ?_; clear h hr a; intro b1 w a h hr
  refine op_new (wn rfl) rfl rfl hr h (vf := fun b => .pointer (some ⟨b, 0, none⟩)) (cs := #[.int .i64 0, .int .i64 0, .int .i64 0, .int .i64 0, .int .i64 0, .int .i64 0, .int .i64 0, .int .i64 0, .int .i64 0]) (T := 50) (by kernel_rfl) ?_; clear h hr a; intro b2 w a h hr
  refine wpList_nil ?_
  refine then_normal ?_
  refine wp_seq ?_
  refine wp_seq ?_
  refine wp_region_lit ?_
  refine op_val (wn rfl) rfl rfl hr (v := .agg #[.int .i64 p1.Base, .int .i64 p1.Frames]) (rlm (cs := [.int .i64 p1.Base, .int .i64 p1.Frames]) rfl (by kernel_rfl) (by kernel_rfl) (by kernel_rfl) ⟨(h.pick 1).cell 0 rfl, (h.pick 1).cell 1 rfl, trivial⟩) ?_; clear hr a; intro a hr
  replace H := bd1 H; obtain ⟨r3, e4, H⟩ := H
  refine ov hr (.int .i64 p2) (by kernel_rfl) ?_; clear hr a; intro a hr
  have hc := frames_Table__has_ok (H := e4) (h := h)
  refine op_call (wn rfl) rfl rfl hr (f := 80) (args := #[.agg #[.int .i64 p1.Base, .int .i64 p1.Frames], .int .i64 p2]) (by kernel_rfl) hc ?_; clear hc h
  rintro _ w ⟨rfl, h⟩; refine ⟨_, rfl, ?_⟩
  clear hr a; intro a hr
  refine ovs [14, 15] [.bool (!r3), .bool (!r3)] hr ⟨rfl, rfl⟩ (by kernel_rfl) ?_; clear hr a; intro a hr
  by_cases c5 : r3 = true
  ·
    replace H := ifT c5 H
    refine op_val ((wg hr rfl rfl rfl (b' := (!r3)) (by kernel_rfl)).trans (by rw [show (!r3) = false from (by rw [show r3 = true from (c5)]; rfl)]; rfl)) rfl rfl hr (v := .int .i64 p3) (by kernel_rfl) ?_; clear hr a; intro a hr
    refine op_val ((wg hr rfl rfl rfl (b' := (!r3)) (by kernel_rfl)).trans (by rw [show (!r3) = false from (by rw [show r3 = true from (c5)]; rfl)]; rfl)) rfl rfl hr (v := .bool (decide (p3 < (0 : Int)))) (by kernel_rfl) ?_; clear hr a; intro a hr
    refine op_val (wn rfl) rfl rfl hr (v := .bool (decide (p3 < (0 : Int)))) (rp_f (b := (!r3)) rfl (by kernel_rfl) (by rw [show r3 = true from (c5)]; rfl) (by kernel_rfl)) ?_; clear hr a; intro a hr
    refine ov hr (.bool (decide (p3 < (0 : Int)))) (by kernel_rfl) ?_; clear hr a; intro a hr
    by_cases c6 : p3 < (0 : Int)
    ·
      replace H := ifT c6 H
      refine op_off ((wg hr rfl rfl rfl (b' := (decide (p3 < (0 : Int)))) (by kernel_rfl)).trans (by rw [show (decide (p3 < (0 : Int))) = true from (decide_eq_true c6)]; rfl)) rfl rfl hr ?_; clear hr a; intro a hr
      refine op_off ((wg hr rfl rfl rfl (b' := (decide (p3 < (0 : Int)))) (by kernel_rfl)).trans (by rw [show (decide (p3 < (0 : Int))) = true from (decide_eq_true c6)]; rfl)) rfl rfl hr ?_; clear hr a; intro a hr
      refine op_val (wn rfl) rfl rfl hr (v := .bool true) (rp_t (b := (decide (p3 < (0 : Int)))) rfl (by kernel_rfl) (decide_eq_true c6) (by kernel_rfl)) ?_; clear hr a; intro a hr
      refine wpList_nil ?_
      refine then_normal ?_
      refine cond_tt hr (b := true) rfl ?_
      refine wp_seq ?_
      refine wp_region_lit ?_
      refine ov hr (.agg #[.int .i64 0, .int .i64 0, .int .i64 0, .int .i64 0, .int .i64 0, .int .i64 0, .int .i64 0, .int .i64 0, .int .i64 0]) (by kernel_rfl) ?_; clear hr a; intro a hr
      refine op_stores (wn rfl) rfl hr rfl (by kernel_rfl) (by kernel_rfl) (vs := [.int .i64 0, .int .i64 0, .int .i64 0, .int .i64 0, .int .i64 0, .int .i64 0, .int .i64 0, .int .i64 0, .int .i64 0]) rfl rfl (by kernel_rfl) h (i := 0) (cs' := #[.int .i64 0, .int .i64 0, .int .i64 0, .int .i64 0, .int .i64 0, .int .i64 0, .int .i64 0, .int .i64 0, .int .i64 0]) rfl ?_; clear h; intro w h
      refine wpList_nil ?_
      replace h : Fit z (sepL (pts b2 (.cells #[.int .i64 0, .int .i64 0, .int .i64 0, .int .i64 0, .int .i64 0, .int .i64 0, .int .i64 0, .int .i64 0, .int .i64 0] 50) :: ob39 b1 p1 :: L)) _ := h
      refine then_normal ?_
      refine wp_ret ?_
      refine then_ret ?_
      refine end_retC (cs := [.int .i64 0, .int .i64 0, .int .i64 0, .int .i64 0, .int .i64 0, .int .i64 0, .int .i64 0, .int .i64 0, .int .i64 0]) rfl hr (by kernel_rfl) (by kernel_rfl) (by kernel_rfl) ⟨h.cell 0 rfl, h.cell 1 rfl, h.cell 2 rfl, h.cell 3 rfl, h.cell 4 rfl, h.cell 5 rfl, h.cell 6 rfl, h.cell 7 rfl, h.cell 8 rfl, trivial⟩ ?_
      replace h : Fit z (sepL (L)) _ := h.sel 2 [] (by kernel_rfl) (by kernel_rfl)
      replace H := ej1 H; subst H
      exact ⟨rfl, h⟩
    ·
      replace H := ifF c6 H
      refine op_val ((wg hr rfl rfl rfl (b' := (decide (p3 < (0 : Int)))) (by kernel_rfl)).trans (by rw [show (decide (p3 < (0 : Int))) = false from (decide_eq_false c6)]; rfl)) rfl rfl hr (v := .int .i64 p3) (by kernel_rfl) ?_; clear hr a; intro a hr
      refine op_val ((wg hr rfl rfl rfl (b' := (decide (p3 < (0 : Int)))) (by kernel_rfl)).trans (by rw [show (decide (p3 < (0 : Int))) = false from (decide_eq_false c6)]; rfl)) rfl rfl hr (v := .bool (decide (p3 ≥ (8 : Int)))) (by kernel_rfl) ?_; clear hr a; intro a hr
      refine op_val (wn rfl) rfl rfl hr (v := .bool (decide (p3 ≥ (8 : Int)))) (rp_f (b := (decide (p3 < (0 : Int)))) rfl (by kernel_rfl) (decide_eq_false c6) (by kernel_rfl)) ?_; clear hr a; intro a hr
      refine wpList_nil ?_
      refine then_normal ?_
      by_cases c7 : p3 ≥ (8 : Int)
      ·
        replace H := ifT c7 H
        refine cond_tt hr (b := (decide (p3 ≥ (8 : Int)))) (decide_eq_true c7) ?_
        refine wp_seq ?_
        refine wp_region_lit ?_
        refine ov hr (.agg #[.int .i64 0, .int .i64 0, .int .i64 0, .int .i64 0, .int .i64 0, .int .i64 0, .int .i64 0, .int .i64 0, .int .i64 0]) (by kernel_rfl) ?_; clear hr a; intro a hr
        refine op_stores (wn rfl) rfl hr rfl (by kernel_rfl) (by kernel_rfl) (vs := [.int .i64 0, .int .i64 0, .int .i64 0, .int .i64 0, .int .i64 0, .int .i64 0, .int .i64 0, .int .i64 0, .int .i64 0]) rfl rfl (by kernel_rfl) h (i := 0) (cs' := #[.int .i64 0, .int .i64 0, .int .i64 0, .int .i64 0, .int .i64 0, .int .i64 0, .int .i64 0, .int .i64 0, .int .i64 0]) rfl ?_; clear h; intro w h
        refine wpList_nil ?_
        replace h : Fit z (sepL (pts b2 (.cells #[.int .i64 0, .int .i64 0, .int .i64 0, .int .i64 0, .int .i64 0, .int .i64 0, .int .i64 0, .int .i64 0, .int .i64 0] 50) :: ob39 b1 p1 :: L)) _ := h
        refine then_normal ?_
        refine wp_ret ?_
        refine then_ret ?_
        refine end_retC (cs := [.int .i64 0, .int .i64 0, .int .i64 0, .int .i64 0, .int .i64 0, .int .i64 0, .int .i64 0, .int .i64 0, .int .i64 0]) rfl hr (by kernel_rfl) (by kernel_rfl) (by kernel_rfl) ⟨h.cell 0 rfl, h.cell 1 rfl, h.cell 2 rfl, h.cell 3 rfl, h.cell 4 rfl, h.cell 5 rfl, h.cell 6 rfl, h.cell 7 rfl, h.cell 8 rfl, trivial⟩ ?_
        replace h : Fit z (sepL (L)) _ := h.sel 2 [] (by kernel_rfl) (by kernel_rfl)
        replace H := ej1 H; subst H
        exact ⟨rfl, h⟩
      ·
        replace H := ifF c7 H
        refine cond_ff hr (b := (decide (p3 ≥ (8 : Int)))) (decide_eq_false c7) ?_
        refine wp_skip ?_
        refine then_normal ?_
        refine wp_seq ?_
        refine wp_region_lit ?_
        refine op_val (wn rfl) rfl rfl hr (v := .agg #[.int .i64 p1.Base, .int .i64 p1.Frames]) (rlm (cs := [.int .i64 p1.Base, .int .i64 p1.Frames]) rfl (by kernel_rfl) (by kernel_rfl) (by kernel_rfl) ⟨(h.pick 1).cell 0 rfl, (h.pick 1).cell 1 rfl, trivial⟩) ?_; clear hr a; intro a hr
        refine ovs [25, 26, 27, 28, 29, 30] [.int .i64 p2, .agg #[.int .i64 p1.Base, .int .i64 p1.Frames, .int .i64 p2, .int .i64 1, .int .i64 0, .int .i64 0], .int .i64 p0, .int .i64 p3, .int .i64 p4, .agg #[.int .i64 p1.Base, .int .i64 p1.Frames, .int .i64 p2, .int .i64 1, .int .i64 0, .int .i64 0, .int .i64 p0, .int .i64 p3, .int .i64 p4]] hr ⟨rfl, rfl⟩ (by kernel_rfl) ?_; clear hr a; intro a hr
        refine op_stores (wn rfl) rfl hr rfl (by kernel_rfl) (by kernel_rfl) (vs := [.int .i64 p1.Base, .int .i64 p1.Frames, .int .i64 p2, .int .i64 1, .int .i64 0, .int .i64 0, .int .i64 p0, .int .i64 p3, .int .i64 p4]) rfl rfl (by kernel_rfl) h (i := 0) (cs' := #[.int .i64 p1.Base, .int .i64 p1.Frames, .int .i64 p2, .int .i64 1, .int .i64 0, .int .i64 0, .int .i64 p0, .int .i64 p3, .int .i64 p4]) rfl ?_; clear h; intro w h
        refine wpList_nil ?_
        replace h : Fit z (sepL (pts b2 (.cells #[.int .i64 p1.Base, .int .i64 p1.Frames, .int .i64 p2, .int .i64 1, .int .i64 0, .int .i64 0, .int .i64 p0, .int .i64 p3, .int .i64 p4] 50) :: ob39 b1 p1 :: L)) _ := h
        refine then_normal ?_
        refine wp_ret ?_
        refine end_retC (cs := [.int .i64 p1.Base, .int .i64 p1.Frames, .int .i64 p2, .int .i64 1, .int .i64 0, .int .i64 0, .int .i64 p0, .int .i64 p3, .int .i64 p4]) rfl hr (by kernel_rfl) (by kernel_rfl) (by kernel_rfl) ⟨h.cell 0 rfl, h.cell 1 rfl, h.cell 2 rfl, h.cell 3 rfl, h.cell 4 rfl, h.cell 5 rfl, h.cell 6 rfl, h.cell 7 rfl, h.cell 8 rfl, trivial⟩ ?_
        replace h : Fit z (sepL (L)) _ := h.sel 2 [] (by kernel_rfl) (by kernel_rfl)
        replace H := ej1 H; subst H
        exact ⟨rfl, h⟩
  ·
    replace H := ifF c5 H
    refine op_off ((wg hr rfl rfl rfl (b' := (!r3)) (by kernel_rfl)).trans (by rw [show (!r3) = true from (by rw [show r3 = false from (bF c5)]; rfl)]; rfl)) rfl rfl hr ?_; clear hr a; intro a hr
    refine op_off ((wg hr rfl rfl rfl (b' := (!r3)) (by kernel_rfl)).trans (by rw [show (!r3) = true from (by rw [show r3 = false from (bF c5)]; rfl)]; rfl)) rfl rfl hr ?_; clear hr a; intro a hr
    refine op_val (wn rfl) rfl rfl hr (v := .bool true) (rp_t (b := (!r3)) rfl (by kernel_rfl) (by rw [show r3 = false from (bF c5)]; rfl) (by kernel_rfl)) ?_; clear hr a; intro a hr
    refine ov hr (.bool true) (by kernel_rfl) ?_; clear hr a; intro a hr
    refine op_off ((wg hr rfl rfl rfl (b' := true) (by kernel_rfl)).trans rfl) rfl rfl hr ?_; clear hr a; intro a hr
    refine op_off ((wg hr rfl rfl rfl (b' := true) (by kernel_rfl)).trans rfl) rfl rfl hr ?_; clear hr a; intro a hr
    refine ov hr (.bool true) (by kernel_rfl) ?_; clear hr a; intro a hr
    refine wpList_nil ?_
    refine then_normal ?_
    refine cond_tt hr (b := true) rfl ?_
    refine wp_seq ?_
    refine wp_region_lit ?_
    refine ov hr (.agg #[.int .i64 0, .int .i64 0, .int .i64 0, .int .i64 0, .int .i64 0, .int .i64 0, .int .i64 0, .int .i64 0, .int .i64 0]) (by kernel_rfl) ?_; clear hr a; intro a hr
    refine op_stores (wn rfl) rfl hr rfl (by kernel_rfl) (by kernel_rfl) (vs := [.int .i64 0, .int .i64 0, .int .i64 0, .int .i64 0, .int .i64 0, .int .i64 0, .int .i64 0, .int .i64 0, .int .i64 0]) rfl rfl (by kernel_rfl) h (i := 0) (cs' := #[.int .i64 0, .int .i64 0, .int .i64 0, .int .i64 0, .int .i64 0, .int .i64 0, .int .i64 0, .int .i64 0, .int .i64 0]) rfl ?_; clear h; intro w h
    refine wpList_nil ?_
    replace h : Fit z (sepL (pts b2 (.cells #[.int .i64 0, .int .i64 0, .int .i64 0, .int .i64 0, .int .i64 0, .int .i64 0, .int .i64 0, .int .i64 0, .int .i64 0] 50) :: ob39 b1 p1 :: L)) _ := h
    refine then_normal ?_
    refine wp_ret ?_
    refine then_ret ?_
    refine end_retC (cs := [.int .i64 0, .int .i64 0, .int .i64 0, .int .i64 0, .int .i64 0, .int .i64 0, .int .i64 0, .int .i64 0, .int .i64 0]) rfl hr (by kernel_rfl) (by kernel_rfl) (by kernel_rfl) ⟨h.cell 0 rfl, h.cell 1 rfl, h.cell 2 rfl, h.cell 3 rfl, h.cell 4 rfl, h.cell 5 rfl, h.cell 6 rfl, h.cell 7 rfl, h.cell 8 rfl, trivial⟩ ?_
    replace h : Fit z (sepL (L)) _ := h.sel 2 [] (by kernel_rfl) (by kernel_rfl)
    replace H := ej1 H; subst H
    exact ⟨rfl, h⟩

/-- plunder/frames.Alloc -/
def frames_Alloc (p0 : T_frames_Table) : Option (T_frames_Op) :=
  ob1 (frames_begin 0 p0 0 0 0) (fun r3 => some r3)
set_option maxRecDepth 100000 in
set_option maxHeartbeats 4000000 in
theorem frames_Alloc_ok {z w : World} {L : List HProp} {p0 : T_frames_Table} {r0 : T_frames_Op} (H : frames_Alloc p0 = some r0) (h : Fit z (sepL (L)) w)  :
    Calls Try.prog 27 #[.agg #[.int .i64 p0.Base, .int .i64 p0.Frames]] w fun e w => e = .returned (.agg #[.int .i64 r0.head_t_Base, .int .i64 r0.head_t_Frames, .int .i64 r0.head_frame, .int .i64 r0.head_stands, .int .i64 r0.head_code, .int .i64 r0.head_v, .int .i64 r0.kind, .int .i64 r0.slot, .int .i64 r0.give]) ∧ Fit z (sepL (L)) w := by
  unfold frames_Alloc at H
  refine enter Try.func27 rfl 5 rfl rfl [(0, .agg #[.int .i64 p0.Base, .int .i64 p0.Frames])] ⟨rfl, trivial⟩ ?_
  intro j a hr
  refine wp_seq ?_
  refine wp_region_lit ?_
  refine op_new (wn rfl) rfl rfl hr h (vf := fun b => .pointer (some ⟨b, 0, none⟩)) (cs := #[.int .i64 p0.Base, .int .i64 p0.Frames]) (T := 39) (by kernel_rfl) ?_; clear h hr a; intro b1 w a h hr
  refine op_new (wn rfl) rfl rfl hr h (vf := fun b => .pointer (some ⟨b, 0, none⟩)) (cs := #[.int .i64 0, .int .i64 0, .int .i64 0, .int .i64 0, .int .i64 0, .int .i64 0, .int .i64 0, .int .i64 0, .int .i64 0]) (T := 50) (by kernel_rfl) ?_; clear h hr a; intro b2 w a h hr
  refine wpList_nil ?_
  refine then_normal ?_
  refine wp_seq ?_
  refine wp_region_lit ?_
  refine op_val (wn rfl) rfl rfl hr (v := .agg #[.int .i64 p0.Base, .int .i64 p0.Frames]) (rlm (cs := [.int .i64 p0.Base, .int .i64 p0.Frames]) rfl (by kernel_rfl) (by kernel_rfl) (by kernel_rfl) ⟨(h.pick 1).cell 0 rfl, (h.pick 1).cell 1 rfl, trivial⟩) ?_; clear hr a; intro a hr
  replace H := bd1 H; obtain ⟨r3, e4, H⟩ := H
  have hc := frames_begin_ok (H := e4) (h := h)
  refine op_call (wn rfl) rfl rfl hr (f := 55) (args := #[.int .i64 0, .agg #[.int .i64 p0.Base, .int .i64 p0.Frames], .int .i64 0, .int .i64 0, .int .i64 0]) (by kernel_rfl) hc ?_; clear hc h
  rintro _ w ⟨rfl, h⟩; refine ⟨_, rfl, ?_⟩
  clear hr a; intro a hr
  refine op_stores (wn rfl) rfl hr rfl (by kernel_rfl) (by kernel_rfl) (vs := [.int .i64 r3.head_t_Base, .int .i64 r3.head_t_Frames, .int .i64 r3.head_frame, .int .i64 r3.head_stands, .int .i64 r3.head_code, .int .i64 r3.head_v, .int .i64 r3.kind, .int .i64 r3.slot, .int .i64 r3.give]) rfl rfl (by kernel_rfl) h (i := 0) (cs' := #[.int .i64 r3.head_t_Base, .int .i64 r3.head_t_Frames, .int .i64 r3.head_frame, .int .i64 r3.head_stands, .int .i64 r3.head_code, .int .i64 r3.head_v, .int .i64 r3.kind, .int .i64 r3.slot, .int .i64 r3.give]) rfl ?_; clear h; intro w h
  refine wpList_nil ?_
  replace h : Fit z (sepL (ob50 b2 r3 :: ob39 b1 p0 :: L)) _ := h
  refine then_normal ?_
  refine wp_ret ?_
  refine end_retC (cs := [.int .i64 r3.head_t_Base, .int .i64 r3.head_t_Frames, .int .i64 r3.head_frame, .int .i64 r3.head_stands, .int .i64 r3.head_code, .int .i64 r3.head_v, .int .i64 r3.kind, .int .i64 r3.slot, .int .i64 r3.give]) rfl hr (by kernel_rfl) (by kernel_rfl) (by kernel_rfl) ⟨h.cell 0 rfl, h.cell 1 rfl, h.cell 2 rfl, h.cell 3 rfl, h.cell 4 rfl, h.cell 5 rfl, h.cell 6 rfl, h.cell 7 rfl, h.cell 8 rfl, trivial⟩ ?_
  replace h : Fit z (sepL (L)) _ := h.sel 2 [] (by kernel_rfl) (by kernel_rfl)
  replace H := ej1 H; subst H
  exact ⟨rfl, h⟩

/-- plunder/frames.Fork -/
def frames_Fork (p0 : T_frames_Table) (p1 : Int) : Option (T_frames_Op) :=
  ob1 (frames_begin 1 p0 p1 0 0) (fun r3 => some r3)
set_option maxRecDepth 100000 in
set_option maxHeartbeats 4000000 in
theorem frames_Fork_ok {z w : World} {L : List HProp} {p0 : T_frames_Table} {p1 : Int} {r0 : T_frames_Op} (H : frames_Fork p0 p1 = some r0) (h : Fit z (sepL (L)) w)  :
    Calls Try.prog 30 #[.agg #[.int .i64 p0.Base, .int .i64 p0.Frames], .int .i64 p1] w fun e w => e = .returned (.agg #[.int .i64 r0.head_t_Base, .int .i64 r0.head_t_Frames, .int .i64 r0.head_frame, .int .i64 r0.head_stands, .int .i64 r0.head_code, .int .i64 r0.head_v, .int .i64 r0.kind, .int .i64 r0.slot, .int .i64 r0.give]) ∧ Fit z (sepL (L)) w := by
  unfold frames_Fork at H
  refine enter Try.func30 rfl 8 rfl rfl [(0, .agg #[.int .i64 p0.Base, .int .i64 p0.Frames]), (1, .int .i64 p1)] ⟨rfl, rfl, trivial⟩ ?_
  intro j a hr
  refine wp_seq ?_
  refine wp_region_lit ?_
  refine op_new (wn rfl) rfl rfl hr h (vf := fun b => .pointer (some ⟨b, 0, none⟩)) (cs := #[.int .i64 p0.Base, .int .i64 p0.Frames]) (T := 39) (by kernel_rfl) ?_; clear h hr a; intro b1 w a h hr
  refine op_new (wn rfl) rfl rfl hr h (vf := fun b => .pointer (some ⟨b, 0, none⟩)) (cs := #[.int .i64 0, .int .i64 0, .int .i64 0, .int .i64 0, .int .i64 0, .int .i64 0, .int .i64 0, .int .i64 0, .int .i64 0]) (T := 50) (by kernel_rfl) ?_; clear h hr a; intro b2 w a h hr
  refine wpList_nil ?_
  refine then_normal ?_
  refine wp_seq ?_
  refine wp_region_lit ?_
  refine op_val (wn rfl) rfl rfl hr (v := .agg #[.int .i64 p0.Base, .int .i64 p0.Frames]) (rlm (cs := [.int .i64 p0.Base, .int .i64 p0.Frames]) rfl (by kernel_rfl) (by kernel_rfl) (by kernel_rfl) ⟨(h.pick 1).cell 0 rfl, (h.pick 1).cell 1 rfl, trivial⟩) ?_; clear hr a; intro a hr
  replace H := bd1 H; obtain ⟨r3, e4, H⟩ := H
  refine ov hr (.int .i64 p1) (by kernel_rfl) ?_; clear hr a; intro a hr
  have hc := frames_begin_ok (H := e4) (h := h)
  refine op_call (wn rfl) rfl rfl hr (f := 55) (args := #[.int .i64 1, .agg #[.int .i64 p0.Base, .int .i64 p0.Frames], .int .i64 p1, .int .i64 0, .int .i64 0]) (by kernel_rfl) hc ?_; clear hc h
  rintro _ w ⟨rfl, h⟩; refine ⟨_, rfl, ?_⟩
  clear hr a; intro a hr
  refine op_stores (wn rfl) rfl hr rfl (by kernel_rfl) (by kernel_rfl) (vs := [.int .i64 r3.head_t_Base, .int .i64 r3.head_t_Frames, .int .i64 r3.head_frame, .int .i64 r3.head_stands, .int .i64 r3.head_code, .int .i64 r3.head_v, .int .i64 r3.kind, .int .i64 r3.slot, .int .i64 r3.give]) rfl rfl (by kernel_rfl) h (i := 0) (cs' := #[.int .i64 r3.head_t_Base, .int .i64 r3.head_t_Frames, .int .i64 r3.head_frame, .int .i64 r3.head_stands, .int .i64 r3.head_code, .int .i64 r3.head_v, .int .i64 r3.kind, .int .i64 r3.slot, .int .i64 r3.give]) rfl ?_; clear h; intro w h
  refine wpList_nil ?_
  replace h : Fit z (sepL (ob50 b2 r3 :: ob39 b1 p0 :: L)) _ := h
  refine then_normal ?_
  refine wp_ret ?_
  refine end_retC (cs := [.int .i64 r3.head_t_Base, .int .i64 r3.head_t_Frames, .int .i64 r3.head_frame, .int .i64 r3.head_stands, .int .i64 r3.head_code, .int .i64 r3.head_v, .int .i64 r3.kind, .int .i64 r3.slot, .int .i64 r3.give]) rfl hr (by kernel_rfl) (by kernel_rfl) (by kernel_rfl) ⟨h.cell 0 rfl, h.cell 1 rfl, h.cell 2 rfl, h.cell 3 rfl, h.cell 4 rfl, h.cell 5 rfl, h.cell 6 rfl, h.cell 7 rfl, h.cell 8 rfl, trivial⟩ ?_
  replace h : Fit z (sepL (L)) _ := h.sel 2 [] (by kernel_rfl) (by kernel_rfl)
  replace H := ej1 H; subst H
  exact ⟨rfl, h⟩

/-- plunder/frames.Finish -/
def frames_Finish (p0 : T_frames_Table) (p1 : Int) (p2 : Int) (p3 : Int) : Option (T_frames_Op) :=
  ob1 (frames_begin 2 p0 p1 p2 p3) (fun r3 => some r3)
set_option maxRecDepth 100000 in
set_option maxHeartbeats 4000000 in
theorem frames_Finish_ok {z w : World} {L : List HProp} {p0 : T_frames_Table} {p1 : Int} {p2 : Int} {p3 : Int} {r0 : T_frames_Op} (H : frames_Finish p0 p1 p2 p3 = some r0) (h : Fit z (sepL (L)) w)  :
    Calls Try.prog 32 #[.agg #[.int .i64 p0.Base, .int .i64 p0.Frames], .int .i64 p1, .int .i64 p2, .int .i64 p3] w fun e w => e = .returned (.agg #[.int .i64 r0.head_t_Base, .int .i64 r0.head_t_Frames, .int .i64 r0.head_frame, .int .i64 r0.head_stands, .int .i64 r0.head_code, .int .i64 r0.head_v, .int .i64 r0.kind, .int .i64 r0.slot, .int .i64 r0.give]) ∧ Fit z (sepL (L)) w := by
  unfold frames_Finish at H
  refine enter Try.func32 rfl 14 rfl rfl [(0, .agg #[.int .i64 p0.Base, .int .i64 p0.Frames]), (1, .int .i64 p1), (2, .int .i64 p2), (3, .int .i64 p3)] ⟨rfl, rfl, rfl, rfl, trivial⟩ ?_
  intro j a hr
  refine wp_seq ?_
  refine wp_region_lit ?_
  refine op_new (wn rfl) rfl rfl hr h (vf := fun b => .pointer (some ⟨b, 0, none⟩)) (cs := #[.int .i64 p0.Base, .int .i64 p0.Frames]) (T := 39) (by kernel_rfl) ?_; clear h hr a; intro b1 w a h hr
  refine op_new (wn rfl) rfl rfl hr h (vf := fun b => .pointer (some ⟨b, 0, none⟩)) (cs := #[.int .i64 0, .int .i64 0, .int .i64 0, .int .i64 0, .int .i64 0, .int .i64 0, .int .i64 0, .int .i64 0, .int .i64 0]) (T := 50) (by kernel_rfl) ?_; clear h hr a; intro b2 w a h hr
  refine wpList_nil ?_
  refine then_normal ?_
  refine wp_seq ?_
  refine wp_region_lit ?_
  refine op_val (wn rfl) rfl rfl hr (v := .agg #[.int .i64 p0.Base, .int .i64 p0.Frames]) (rlm (cs := [.int .i64 p0.Base, .int .i64 p0.Frames]) rfl (by kernel_rfl) (by kernel_rfl) (by kernel_rfl) ⟨(h.pick 1).cell 0 rfl, (h.pick 1).cell 1 rfl, trivial⟩) ?_; clear hr a; intro a hr
  replace H := bd1 H; obtain ⟨r3, e4, H⟩ := H
  refine ovs [10, 11, 12] [.int .i64 p1, .int .i64 p2, .int .i64 p3] hr ⟨rfl, rfl⟩ (by kernel_rfl) ?_; clear hr a; intro a hr
  have hc := frames_begin_ok (H := e4) (h := h)
  refine op_call (wn rfl) rfl rfl hr (f := 55) (args := #[.int .i64 2, .agg #[.int .i64 p0.Base, .int .i64 p0.Frames], .int .i64 p1, .int .i64 p2, .int .i64 p3]) (by kernel_rfl) hc ?_; clear hc h
  rintro _ w ⟨rfl, h⟩; refine ⟨_, rfl, ?_⟩
  clear hr a; intro a hr
  refine op_stores (wn rfl) rfl hr rfl (by kernel_rfl) (by kernel_rfl) (vs := [.int .i64 r3.head_t_Base, .int .i64 r3.head_t_Frames, .int .i64 r3.head_frame, .int .i64 r3.head_stands, .int .i64 r3.head_code, .int .i64 r3.head_v, .int .i64 r3.kind, .int .i64 r3.slot, .int .i64 r3.give]) rfl rfl (by kernel_rfl) h (i := 0) (cs' := #[.int .i64 r3.head_t_Base, .int .i64 r3.head_t_Frames, .int .i64 r3.head_frame, .int .i64 r3.head_stands, .int .i64 r3.head_code, .int .i64 r3.head_v, .int .i64 r3.kind, .int .i64 r3.slot, .int .i64 r3.give]) rfl ?_; clear h; intro w h
  refine wpList_nil ?_
  replace h : Fit z (sepL (ob50 b2 r3 :: ob39 b1 p0 :: L)) _ := h
  refine then_normal ?_
  refine wp_ret ?_
  refine end_retC (cs := [.int .i64 r3.head_t_Base, .int .i64 r3.head_t_Frames, .int .i64 r3.head_frame, .int .i64 r3.head_stands, .int .i64 r3.head_code, .int .i64 r3.head_v, .int .i64 r3.kind, .int .i64 r3.slot, .int .i64 r3.give]) rfl hr (by kernel_rfl) (by kernel_rfl) (by kernel_rfl) ⟨h.cell 0 rfl, h.cell 1 rfl, h.cell 2 rfl, h.cell 3 rfl, h.cell 4 rfl, h.cell 5 rfl, h.cell 6 rfl, h.cell 7 rfl, h.cell 8 rfl, trivial⟩ ?_
  replace h : Fit z (sepL (L)) _ := h.sel 2 [] (by kernel_rfl) (by kernel_rfl)
  replace H := ej1 H; subst H
  exact ⟨rfl, h⟩

/-- plunder/frames.Sync -/
def frames_Sync (p0 : T_frames_Table) (p1 : Int) : Option (T_frames_Op) :=
  ob1 (frames_begin 3 p0 p1 0 0) (fun r3 => some r3)
set_option maxRecDepth 100000 in
set_option maxHeartbeats 4000000 in
theorem frames_Sync_ok {z w : World} {L : List HProp} {p0 : T_frames_Table} {p1 : Int} {r0 : T_frames_Op} (H : frames_Sync p0 p1 = some r0) (h : Fit z (sepL (L)) w)  :
    Calls Try.prog 31 #[.agg #[.int .i64 p0.Base, .int .i64 p0.Frames], .int .i64 p1] w fun e w => e = .returned (.agg #[.int .i64 r0.head_t_Base, .int .i64 r0.head_t_Frames, .int .i64 r0.head_frame, .int .i64 r0.head_stands, .int .i64 r0.head_code, .int .i64 r0.head_v, .int .i64 r0.kind, .int .i64 r0.slot, .int .i64 r0.give]) ∧ Fit z (sepL (L)) w := by
  unfold frames_Sync at H
  refine enter Try.func31 rfl 8 rfl rfl [(0, .agg #[.int .i64 p0.Base, .int .i64 p0.Frames]), (1, .int .i64 p1)] ⟨rfl, rfl, trivial⟩ ?_
  intro j a hr
  refine wp_seq ?_
  refine wp_region_lit ?_
  refine op_new (wn rfl) rfl rfl hr h (vf := fun b => .pointer (some ⟨b, 0, none⟩)) (cs := #[.int .i64 p0.Base, .int .i64 p0.Frames]) (T := 39) (by kernel_rfl) ?_; clear h hr a; intro b1 w a h hr
  refine op_new (wn rfl) rfl rfl hr h (vf := fun b => .pointer (some ⟨b, 0, none⟩)) (cs := #[.int .i64 0, .int .i64 0, .int .i64 0, .int .i64 0, .int .i64 0, .int .i64 0, .int .i64 0, .int .i64 0, .int .i64 0]) (T := 50) (by kernel_rfl) ?_; clear h hr a; intro b2 w a h hr
  refine wpList_nil ?_
  refine then_normal ?_
  refine wp_seq ?_
  refine wp_region_lit ?_
  refine op_val (wn rfl) rfl rfl hr (v := .agg #[.int .i64 p0.Base, .int .i64 p0.Frames]) (rlm (cs := [.int .i64 p0.Base, .int .i64 p0.Frames]) rfl (by kernel_rfl) (by kernel_rfl) (by kernel_rfl) ⟨(h.pick 1).cell 0 rfl, (h.pick 1).cell 1 rfl, trivial⟩) ?_; clear hr a; intro a hr
  replace H := bd1 H; obtain ⟨r3, e4, H⟩ := H
  refine ov hr (.int .i64 p1) (by kernel_rfl) ?_; clear hr a; intro a hr
  have hc := frames_begin_ok (H := e4) (h := h)
  refine op_call (wn rfl) rfl rfl hr (f := 55) (args := #[.int .i64 3, .agg #[.int .i64 p0.Base, .int .i64 p0.Frames], .int .i64 p1, .int .i64 0, .int .i64 0]) (by kernel_rfl) hc ?_; clear hc h
  rintro _ w ⟨rfl, h⟩; refine ⟨_, rfl, ?_⟩
  clear hr a; intro a hr
  refine op_stores (wn rfl) rfl hr rfl (by kernel_rfl) (by kernel_rfl) (vs := [.int .i64 r3.head_t_Base, .int .i64 r3.head_t_Frames, .int .i64 r3.head_frame, .int .i64 r3.head_stands, .int .i64 r3.head_code, .int .i64 r3.head_v, .int .i64 r3.kind, .int .i64 r3.slot, .int .i64 r3.give]) rfl rfl (by kernel_rfl) h (i := 0) (cs' := #[.int .i64 r3.head_t_Base, .int .i64 r3.head_t_Frames, .int .i64 r3.head_frame, .int .i64 r3.head_stands, .int .i64 r3.head_code, .int .i64 r3.head_v, .int .i64 r3.kind, .int .i64 r3.slot, .int .i64 r3.give]) rfl ?_; clear h; intro w h
  refine wpList_nil ?_
  replace h : Fit z (sepL (ob50 b2 r3 :: ob39 b1 p0 :: L)) _ := h
  refine then_normal ?_
  refine wp_ret ?_
  refine end_retC (cs := [.int .i64 r3.head_t_Base, .int .i64 r3.head_t_Frames, .int .i64 r3.head_frame, .int .i64 r3.head_stands, .int .i64 r3.head_code, .int .i64 r3.head_v, .int .i64 r3.kind, .int .i64 r3.slot, .int .i64 r3.give]) rfl hr (by kernel_rfl) (by kernel_rfl) (by kernel_rfl) ⟨h.cell 0 rfl, h.cell 1 rfl, h.cell 2 rfl, h.cell 3 rfl, h.cell 4 rfl, h.cell 5 rfl, h.cell 6 rfl, h.cell 7 rfl, h.cell 8 rfl, trivial⟩ ?_
  replace h : Fit z (sepL (L)) _ := h.sel 2 [] (by kernel_rfl) (by kernel_rfl)
  replace H := ej1 H; subst H
  exact ⟨rfl, h⟩

/-- plunder/frames.Start -/
def frames_Start (p0 : T_frames_Table) (p1 : Int) : Option (T_frames_Op) :=
  ob1 (frames_begin 4 p0 p1 0 0) (fun r3 => some r3)
set_option maxRecDepth 100000 in
set_option maxHeartbeats 4000000 in
theorem frames_Start_ok {z w : World} {L : List HProp} {p0 : T_frames_Table} {p1 : Int} {r0 : T_frames_Op} (H : frames_Start p0 p1 = some r0) (h : Fit z (sepL (L)) w)  :
    Calls Try.prog 64 #[.agg #[.int .i64 p0.Base, .int .i64 p0.Frames], .int .i64 p1] w fun e w => e = .returned (.agg #[.int .i64 r0.head_t_Base, .int .i64 r0.head_t_Frames, .int .i64 r0.head_frame, .int .i64 r0.head_stands, .int .i64 r0.head_code, .int .i64 r0.head_v, .int .i64 r0.kind, .int .i64 r0.slot, .int .i64 r0.give]) ∧ Fit z (sepL (L)) w := by
  unfold frames_Start at H
  refine enter Try.func64 rfl 8 rfl rfl [(0, .agg #[.int .i64 p0.Base, .int .i64 p0.Frames]), (1, .int .i64 p1)] ⟨rfl, rfl, trivial⟩ ?_
  intro j a hr
  refine wp_seq ?_
  refine wp_region_lit ?_
  refine op_new (wn rfl) rfl rfl hr h (vf := fun b => .pointer (some ⟨b, 0, none⟩)) (cs := #[.int .i64 p0.Base, .int .i64 p0.Frames]) (T := 39) (by kernel_rfl) ?_; clear h hr a; intro b1 w a h hr
  refine op_new (wn rfl) rfl rfl hr h (vf := fun b => .pointer (some ⟨b, 0, none⟩)) (cs := #[.int .i64 0, .int .i64 0, .int .i64 0, .int .i64 0, .int .i64 0, .int .i64 0, .int .i64 0, .int .i64 0, .int .i64 0]) (T := 50) (by kernel_rfl) ?_; clear h hr a; intro b2 w a h hr
  refine wpList_nil ?_
  refine then_normal ?_
  refine wp_seq ?_
  refine wp_region_lit ?_
  refine op_val (wn rfl) rfl rfl hr (v := .agg #[.int .i64 p0.Base, .int .i64 p0.Frames]) (rlm (cs := [.int .i64 p0.Base, .int .i64 p0.Frames]) rfl (by kernel_rfl) (by kernel_rfl) (by kernel_rfl) ⟨(h.pick 1).cell 0 rfl, (h.pick 1).cell 1 rfl, trivial⟩) ?_; clear hr a; intro a hr
  replace H := bd1 H; obtain ⟨r3, e4, H⟩ := H
  refine ov hr (.int .i64 p1) (by kernel_rfl) ?_; clear hr a; intro a hr
  have hc := frames_begin_ok (H := e4) (h := h)
  refine op_call (wn rfl) rfl rfl hr (f := 55) (args := #[.int .i64 4, .agg #[.int .i64 p0.Base, .int .i64 p0.Frames], .int .i64 p1, .int .i64 0, .int .i64 0]) (by kernel_rfl) hc ?_; clear hc h
  rintro _ w ⟨rfl, h⟩; refine ⟨_, rfl, ?_⟩
  clear hr a; intro a hr
  refine op_stores (wn rfl) rfl hr rfl (by kernel_rfl) (by kernel_rfl) (vs := [.int .i64 r3.head_t_Base, .int .i64 r3.head_t_Frames, .int .i64 r3.head_frame, .int .i64 r3.head_stands, .int .i64 r3.head_code, .int .i64 r3.head_v, .int .i64 r3.kind, .int .i64 r3.slot, .int .i64 r3.give]) rfl rfl (by kernel_rfl) h (i := 0) (cs' := #[.int .i64 r3.head_t_Base, .int .i64 r3.head_t_Frames, .int .i64 r3.head_frame, .int .i64 r3.head_stands, .int .i64 r3.head_code, .int .i64 r3.head_v, .int .i64 r3.kind, .int .i64 r3.slot, .int .i64 r3.give]) rfl ?_; clear h; intro w h
  refine wpList_nil ?_
  replace h : Fit z (sepL (ob50 b2 r3 :: ob39 b1 p0 :: L)) _ := h
  refine then_normal ?_
  refine wp_ret ?_
  refine end_retC (cs := [.int .i64 r3.head_t_Base, .int .i64 r3.head_t_Frames, .int .i64 r3.head_frame, .int .i64 r3.head_stands, .int .i64 r3.head_code, .int .i64 r3.head_v, .int .i64 r3.kind, .int .i64 r3.slot, .int .i64 r3.give]) rfl hr (by kernel_rfl) (by kernel_rfl) (by kernel_rfl) ⟨h.cell 0 rfl, h.cell 1 rfl, h.cell 2 rfl, h.cell 3 rfl, h.cell 4 rfl, h.cell 5 rfl, h.cell 6 rfl, h.cell 7 rfl, h.cell 8 rfl, trivial⟩ ?_
  replace h : Fit z (sepL (L)) _ := h.sel 2 [] (by kernel_rfl) (by kernel_rfl)
  replace H := ej1 H; subst H
  exact ⟨rfl, h⟩

/-- plunder/frames.Fetch -/
def frames_Fetch (p0 : T_frames_Table) (p1 : Int) (p2 : Int) : Option (T_frames_Op) :=
  ob1 (frames_begin 5 p0 p1 p2 0) (fun r3 => some r3)
set_option maxRecDepth 100000 in
set_option maxHeartbeats 4000000 in
theorem frames_Fetch_ok {z w : World} {L : List HProp} {p0 : T_frames_Table} {p1 : Int} {p2 : Int} {r0 : T_frames_Op} (H : frames_Fetch p0 p1 p2 = some r0) (h : Fit z (sepL (L)) w)  :
    Calls Try.prog 33 #[.agg #[.int .i64 p0.Base, .int .i64 p0.Frames], .int .i64 p1, .int .i64 p2] w fun e w => e = .returned (.agg #[.int .i64 r0.head_t_Base, .int .i64 r0.head_t_Frames, .int .i64 r0.head_frame, .int .i64 r0.head_stands, .int .i64 r0.head_code, .int .i64 r0.head_v, .int .i64 r0.kind, .int .i64 r0.slot, .int .i64 r0.give]) ∧ Fit z (sepL (L)) w := by
  unfold frames_Fetch at H
  refine enter Try.func33 rfl 11 rfl rfl [(0, .agg #[.int .i64 p0.Base, .int .i64 p0.Frames]), (1, .int .i64 p1), (2, .int .i64 p2)] ⟨rfl, rfl, rfl, trivial⟩ ?_
  intro j a hr
  refine wp_seq ?_
  refine wp_region_lit ?_
  refine op_new (wn rfl) rfl rfl hr h (vf := fun b => .pointer (some ⟨b, 0, none⟩)) (cs := #[.int .i64 p0.Base, .int .i64 p0.Frames]) (T := 39) (by kernel_rfl) ?_; clear h hr a; intro b1 w a h hr
  refine op_new (wn rfl) rfl rfl hr h (vf := fun b => .pointer (some ⟨b, 0, none⟩)) (cs := #[.int .i64 0, .int .i64 0, .int .i64 0, .int .i64 0, .int .i64 0, .int .i64 0, .int .i64 0, .int .i64 0, .int .i64 0]) (T := 50) (by kernel_rfl) ?_; clear h hr a; intro b2 w a h hr
  refine wpList_nil ?_
  refine then_normal ?_
  refine wp_seq ?_
  refine wp_region_lit ?_
  refine op_val (wn rfl) rfl rfl hr (v := .agg #[.int .i64 p0.Base, .int .i64 p0.Frames]) (rlm (cs := [.int .i64 p0.Base, .int .i64 p0.Frames]) rfl (by kernel_rfl) (by kernel_rfl) (by kernel_rfl) ⟨(h.pick 1).cell 0 rfl, (h.pick 1).cell 1 rfl, trivial⟩) ?_; clear hr a; intro a hr
  replace H := bd1 H; obtain ⟨r3, e4, H⟩ := H
  refine ovs [8, 9] [.int .i64 p1, .int .i64 p2] hr ⟨rfl, rfl⟩ (by kernel_rfl) ?_; clear hr a; intro a hr
  have hc := frames_begin_ok (H := e4) (h := h)
  refine op_call (wn rfl) rfl rfl hr (f := 55) (args := #[.int .i64 5, .agg #[.int .i64 p0.Base, .int .i64 p0.Frames], .int .i64 p1, .int .i64 p2, .int .i64 0]) (by kernel_rfl) hc ?_; clear hc h
  rintro _ w ⟨rfl, h⟩; refine ⟨_, rfl, ?_⟩
  clear hr a; intro a hr
  refine op_stores (wn rfl) rfl hr rfl (by kernel_rfl) (by kernel_rfl) (vs := [.int .i64 r3.head_t_Base, .int .i64 r3.head_t_Frames, .int .i64 r3.head_frame, .int .i64 r3.head_stands, .int .i64 r3.head_code, .int .i64 r3.head_v, .int .i64 r3.kind, .int .i64 r3.slot, .int .i64 r3.give]) rfl rfl (by kernel_rfl) h (i := 0) (cs' := #[.int .i64 r3.head_t_Base, .int .i64 r3.head_t_Frames, .int .i64 r3.head_frame, .int .i64 r3.head_stands, .int .i64 r3.head_code, .int .i64 r3.head_v, .int .i64 r3.kind, .int .i64 r3.slot, .int .i64 r3.give]) rfl ?_; clear h; intro w h
  refine wpList_nil ?_
  replace h : Fit z (sepL (ob50 b2 r3 :: ob39 b1 p0 :: L)) _ := h
  refine then_normal ?_
  refine wp_ret ?_
  refine end_retC (cs := [.int .i64 r3.head_t_Base, .int .i64 r3.head_t_Frames, .int .i64 r3.head_frame, .int .i64 r3.head_stands, .int .i64 r3.head_code, .int .i64 r3.head_v, .int .i64 r3.kind, .int .i64 r3.slot, .int .i64 r3.give]) rfl hr (by kernel_rfl) (by kernel_rfl) (by kernel_rfl) ⟨h.cell 0 rfl, h.cell 1 rfl, h.cell 2 rfl, h.cell 3 rfl, h.cell 4 rfl, h.cell 5 rfl, h.cell 6 rfl, h.cell 7 rfl, h.cell 8 rfl, trivial⟩ ?_
  replace h : Fit z (sepL (L)) _ := h.sel 2 [] (by kernel_rfl) (by kernel_rfl)
  replace H := ej1 H; subst H
  exact ⟨rfl, h⟩

/-- plunder/plunderlaw8.begin -/
def plunderlaw8_begin (p0 : T_frames_Table) (p1 : T_plunderlaw8_Ask) : Option (T_frames_Op) :=
  ob1 ((if p1.Odd = true then some (⟨p1.Base, p1.Frames⟩ : T_frames_Table) else some p0)) (fun S4 => ob1 (plunderlaw8_mod p1.Kind 6) (fun r8 => (if r8 = (0 : Int) then ob1 (frames_Alloc S4) (fun r11 => some r11) else (if r8 = (1 : Int) then ob1 (frames_Fork S4 p1.Frame) (fun r14 => some r14) else (if r8 = (2 : Int) then ob1 (frames_Finish S4 p1.Frame p1.Slot p1.V) (fun r17 => some r17) else (if r8 = (3 : Int) then ob1 (frames_Sync S4 p1.Frame) (fun r20 => some r20) else (if r8 = (4 : Int) then ob1 (frames_Start S4 p1.Frame) (fun r23 => some r23) else ob1 (frames_Fetch S4 p1.Frame p1.Slot) (fun r25 => some r25))))))))
set_option maxRecDepth 100000 in
set_option maxHeartbeats 4000000 in
theorem plunderlaw8_begin_ok {z w : World} {L : List HProp} {p0 : T_frames_Table} {p1 : T_plunderlaw8_Ask} {r0 : T_frames_Op} (H : plunderlaw8_begin p0 p1 = some r0) (h : Fit z (sepL (L)) w)  :
    Calls Try.prog 36 #[.agg #[.int .i64 p0.Base, .int .i64 p0.Frames], .agg #[.int .i64 p1.Kind, .int .i64 p1.Frame, .int .i64 p1.Slot, .int .i64 p1.V, .bool p1.Odd, .int .i64 p1.Base, .int .i64 p1.Frames]] w fun e w => e = .returned (.agg #[.int .i64 r0.head_t_Base, .int .i64 r0.head_t_Frames, .int .i64 r0.head_frame, .int .i64 r0.head_stands, .int .i64 r0.head_code, .int .i64 r0.head_v, .int .i64 r0.kind, .int .i64 r0.slot, .int .i64 r0.give]) ∧ Fit z (sepL (L)) w := by
  unfold plunderlaw8_begin at H
  refine enter Try.func36 rfl 53 rfl rfl [(0, .agg #[.int .i64 p0.Base, .int .i64 p0.Frames]), (1, .agg #[.int .i64 p1.Kind, .int .i64 p1.Frame, .int .i64 p1.Slot, .int .i64 p1.V, .bool p1.Odd, .int .i64 p1.Base, .int .i64 p1.Frames])] ⟨rfl, rfl, trivial⟩ ?_
  intro j a hr
  refine wp_seq ?_
  refine wp_region_lit ?_
  refine op_new (wn rfl) rfl rfl hr h (vf := fun b => .pointer (some ⟨b, 0, none⟩)) (cs := #[.int .i64 p0.Base, .int .i64 p0.Frames]) (T := 39) (by kernel_rfl) ?_; clear h hr a; intro b1 w a h hr
  refine op_new (wn rfl) rfl rfl hr h (vf := fun b => .pointer (some ⟨b, 0, none⟩)) (cs := #[.int .i64 p1.Kind, .int .i64 p1.Frame, .int .i64 p1.Slot, .int .i64 p1.V, .bool p1.Odd, .int .i64 p1.Base, .int .i64 p1.Frames]) (T := 76) (by kernel_rfl) ?_; clear h hr a; intro b2 w a h hr
  refine op_new (wn rfl) rfl rfl hr h (vf := fun b => .pointer (some ⟨b, 0, none⟩)) (cs := #[.int .i64 0, .int .i64 0, .int .i64 0, .int .i64 0, .int .i64 0, .int .i64 0, .int .i64 0, .int .i64 0, .int .i64 0]) (T := 50) (by kernel_rfl) ?_; clear h hr a; intro b3 w a h hr
  refine wpList_nil ?_
  refine then_normal ?_
  replace H := kd1 H; obtain ⟨o6, H, hK5⟩ := H
  refine cut_rule (β := Unit) (fun _ a w => ∃ S4 : T_frames_Table, S4 = o6 ∧ ∃ j, Rep 53 (lk [(2, .pointer (some ⟨b1, 0, none⟩)), (3, .pointer (some ⟨b2, 0, none⟩)), (4, .pointer (some ⟨b3, 0, none⟩))] j) a ∧ Fit z (sepL (ob39 b1 S4 :: ob76 b2 p1 :: pts b3 (.cells #[.int .i64 0, .int .i64 0, .int .i64 0, .int .i64 0, .int .i64 0, .int .i64 0, .int .i64 0, .int .i64 0, .int .i64 0] 50) :: L)) w) ?_ ?_
  ·
    refine wp_seq ?_
    refine wp_region_lit ?_
    refine ov hr (.pointer (some ⟨b2, 4, none⟩)) (by kernel_rfl) ?_; clear hr a; intro a hr
    refine op_val (wn rfl) rfl rfl hr (v := .bool p1.Odd) (rl rfl (by kernel_rfl) (by kernel_rfl) ((h.pick 1).cell 4 rfl)) ?_; clear hr a; intro a hr
    refine wpList_nil ?_
    refine then_normal ?_
    by_cases c7 : p1.Odd = true
    ·
      replace H := ifT c7 H
      refine cond_tt hr (b := p1.Odd) (c7) ?_
      refine wp_region_lit ?_
      refine ov hr (.pointer (some ⟨b2, 5, none⟩)) (by kernel_rfl) ?_; clear hr a; intro a hr
      refine op_val (wn rfl) rfl rfl hr (v := .int .i64 p1.Base) (rl rfl (by kernel_rfl) (by kernel_rfl) ((h.pick 1).cell 5 rfl)) ?_; clear hr a; intro a hr
      refine ov hr (.pointer (some ⟨b2, 6, none⟩)) (by kernel_rfl) ?_; clear hr a; intro a hr
      refine op_val (wn rfl) rfl rfl hr (v := .int .i64 p1.Frames) (rl rfl (by kernel_rfl) (by kernel_rfl) ((h.pick 1).cell 6 rfl)) ?_; clear hr a; intro a hr
      refine ov hr (.agg #[.int .i64 p1.Base, .int .i64 p1.Frames]) (by kernel_rfl) ?_; clear hr a; intro a hr
      replace h : Fit z (sepL (ob39 b1 p0 :: pts b3 (.cells #[.int .i64 0, .int .i64 0, .int .i64 0, .int .i64 0, .int .i64 0, .int .i64 0, .int .i64 0, .int .i64 0, .int .i64 0] 50) :: ob76 b2 p1 :: L)) _ := h.sel 3 [2, 0, 1] (by kernel_rfl) (by kernel_rfl)
      refine op_stores (wn rfl) rfl hr rfl (by kernel_rfl) (by kernel_rfl) (vs := [.int .i64 p1.Base, .int .i64 p1.Frames]) rfl rfl (by kernel_rfl) h (i := 0) (cs' := #[.int .i64 p1.Base, .int .i64 p1.Frames]) rfl ?_; clear h; intro w h
      refine wpList_nil ?_
      replace h : Fit z (sepL (pts b1 (.cells #[.int .i64 p1.Base, .int .i64 p1.Frames] 39) :: pts b3 (.cells #[.int .i64 0, .int .i64 0, .int .i64 0, .int .i64 0, .int .i64 0, .int .i64 0, .int .i64 0, .int .i64 0, .int .i64 0] 50) :: ob76 b2 p1 :: L)) _ := h
      refine then_normal ?_
      replace hr := hr.fold2 [(2, .pointer (some ⟨b1, 0, none⟩)), (3, .pointer (some ⟨b2, 0, none⟩)), (4, .pointer (some ⟨b3, 0, none⟩))] (by kernel_rfl); obtain ⟨j, hr⟩ := hr
      replace h : Fit z (sepL (ob39 b1 (⟨p1.Base, p1.Frames⟩ : T_frames_Table) :: ob76 b2 p1 :: pts b3 (.cells #[.int .i64 0, .int .i64 0, .int .i64 0, .int .i64 0, .int .i64 0, .int .i64 0, .int .i64 0, .int .i64 0, .int .i64 0] 50) :: L)) _ := h.sel 3 [0, 2, 1] (by kernel_rfl) (by kernel_rfl)
      exact ⟨(), (⟨p1.Base, p1.Frames⟩ : T_frames_Table), sinj H, j, hr, h⟩
    ·
      replace H := ifF c7 H
      refine cond_ff hr (b := p1.Odd) (bF c7) ?_
      refine wp_skip ?_
      refine then_normal ?_
      replace hr := hr.fold2 [(2, .pointer (some ⟨b1, 0, none⟩)), (3, .pointer (some ⟨b2, 0, none⟩)), (4, .pointer (some ⟨b3, 0, none⟩))] (by kernel_rfl); obtain ⟨j, hr⟩ := hr
      replace h : Fit z (sepL (ob39 b1 p0 :: ob76 b2 p1 :: pts b3 (.cells #[.int .i64 0, .int .i64 0, .int .i64 0, .int .i64 0, .int .i64 0, .int .i64 0, .int .i64 0, .int .i64 0, .int .i64 0] 50) :: L)) _ := h.sel 3 [2, 1, 0] (by kernel_rfl) (by kernel_rfl)
      exact ⟨(), p0, sinj H, j, hr, h⟩
  clear h hr a; rintro _ a w ⟨S4, rfl, j, hr, h⟩
  replace H := kk1 hK5
  refine wp_seq ?_
  refine wp_seq ?_
  refine wp_region_lit ?_
  refine ov hr (.pointer (some ⟨b2, 0, none⟩)) (by kernel_rfl) ?_; clear hr a; intro a hr
  refine op_val (wn rfl) rfl rfl hr (v := .int .i64 p1.Kind) (rl rfl (by kernel_rfl) (by kernel_rfl) ((h.pick 1).cell 0 rfl)) ?_; clear hr a; intro a hr
  replace H := bd1 H; obtain ⟨r8, e9, H⟩ := H
  have hc := plunderlaw8_mod_ok (H := e9) (h := h)
  refine op_call (wn rfl) rfl rfl hr (f := 29) (args := #[.int .i64 p1.Kind, .int .i64 6]) (by kernel_rfl) hc ?_; clear hc h
  rintro _ w ⟨rfl, h⟩; refine ⟨_, rfl, ?_⟩
  clear hr a; intro a hr
  refine wpList_nil ?_
  refine then_normal ?_
  refine wp_block ?_
  refine wp_seq ?_
  refine wp_region_lit ?_
  refine ovs [16, 15] [.bool (r8 == (0 : Int)), .bool (r8 == (0 : Int))] hr ⟨rfl, rfl⟩ (by kernel_rfl) ?_; clear hr a; intro a hr
  refine wpList_nil ?_
  refine then_normal ?_
  by_cases c10 : r8 = (0 : Int)
  ·
    replace H := ifT c10 H
    refine cond_tt hr (b := (r8 == (0 : Int))) (beq_iff_eq.mpr c10) ?_
    refine wp_seq ?_
    refine wp_region_lit ?_
    refine op_val (wn rfl) rfl rfl hr (v := .agg #[.int .i64 S4.Base, .int .i64 S4.Frames]) (rlm (cs := [.int .i64 S4.Base, .int .i64 S4.Frames]) rfl (by kernel_rfl) (by kernel_rfl) (by kernel_rfl) ⟨h.cell 0 rfl, h.cell 1 rfl, trivial⟩) ?_; clear hr a; intro a hr
    replace H := bd1 H; obtain ⟨r11, e12, H⟩ := H
    have hc := frames_Alloc_ok (H := e12) (h := h)
    refine op_call (wn rfl) rfl rfl hr (f := 27) (args := #[.agg #[.int .i64 S4.Base, .int .i64 S4.Frames]]) (by kernel_rfl) hc ?_; clear hc h
    rintro _ w ⟨rfl, h⟩; refine ⟨_, rfl, ?_⟩
    clear hr a; intro a hr
    replace h : Fit z (sepL (pts b3 (.cells #[.int .i64 0, .int .i64 0, .int .i64 0, .int .i64 0, .int .i64 0, .int .i64 0, .int .i64 0, .int .i64 0, .int .i64 0] 50) :: ob39 b1 S4 :: ob76 b2 p1 :: L)) _ := h.sel 3 [2, 0, 1] (by kernel_rfl) (by kernel_rfl)
    refine op_stores (wn rfl) rfl hr rfl (by kernel_rfl) (by kernel_rfl) (vs := [.int .i64 r11.head_t_Base, .int .i64 r11.head_t_Frames, .int .i64 r11.head_frame, .int .i64 r11.head_stands, .int .i64 r11.head_code, .int .i64 r11.head_v, .int .i64 r11.kind, .int .i64 r11.slot, .int .i64 r11.give]) rfl rfl (by kernel_rfl) h (i := 0) (cs' := #[.int .i64 r11.head_t_Base, .int .i64 r11.head_t_Frames, .int .i64 r11.head_frame, .int .i64 r11.head_stands, .int .i64 r11.head_code, .int .i64 r11.head_v, .int .i64 r11.kind, .int .i64 r11.slot, .int .i64 r11.give]) rfl ?_; clear h; intro w h
    refine wpList_nil ?_
    replace h : Fit z (sepL (ob50 b3 r11 :: ob39 b1 S4 :: ob76 b2 p1 :: L)) _ := h
    refine then_normal ?_
    refine wp_ret ?_
    refine blk_ret ?_
    refine then_ret ?_
    refine end_retC (cs := [.int .i64 r11.head_t_Base, .int .i64 r11.head_t_Frames, .int .i64 r11.head_frame, .int .i64 r11.head_stands, .int .i64 r11.head_code, .int .i64 r11.head_v, .int .i64 r11.kind, .int .i64 r11.slot, .int .i64 r11.give]) rfl hr (by kernel_rfl) (by kernel_rfl) (by kernel_rfl) ⟨h.cell 0 rfl, h.cell 1 rfl, h.cell 2 rfl, h.cell 3 rfl, h.cell 4 rfl, h.cell 5 rfl, h.cell 6 rfl, h.cell 7 rfl, h.cell 8 rfl, trivial⟩ ?_
    replace h : Fit z (sepL (L)) _ := h.sel 3 [] (by kernel_rfl) (by kernel_rfl)
    replace H := ej1 H; subst H
    exact ⟨rfl, h⟩
  ·
    replace H := ifF c10 H
    refine cond_ff hr (b := (r8 == (0 : Int))) (beq_eq_false_iff_ne.mpr c10) ?_
    refine wp_seq ?_
    refine wp_region_lit ?_
    refine ovs [20, 19] [.bool (r8 == (1 : Int)), .bool (r8 == (1 : Int))] hr ⟨rfl, rfl⟩ (by kernel_rfl) ?_; clear hr a; intro a hr
    refine wpList_nil ?_
    refine then_normal ?_
    by_cases c13 : r8 = (1 : Int)
    ·
      replace H := ifT c13 H
      refine cond_tt hr (b := (r8 == (1 : Int))) (beq_iff_eq.mpr c13) ?_
      refine wp_seq ?_
      refine wp_region_lit ?_
      refine op_val (wn rfl) rfl rfl hr (v := .agg #[.int .i64 S4.Base, .int .i64 S4.Frames]) (rlm (cs := [.int .i64 S4.Base, .int .i64 S4.Frames]) rfl (by kernel_rfl) (by kernel_rfl) (by kernel_rfl) ⟨h.cell 0 rfl, h.cell 1 rfl, trivial⟩) ?_; clear hr a; intro a hr
      refine ov hr (.pointer (some ⟨b2, 1, none⟩)) (by kernel_rfl) ?_; clear hr a; intro a hr
      refine op_val (wn rfl) rfl rfl hr (v := .int .i64 p1.Frame) (rl rfl (by kernel_rfl) (by kernel_rfl) ((h.pick 1).cell 1 rfl)) ?_; clear hr a; intro a hr
      replace H := bd1 H; obtain ⟨r14, e15, H⟩ := H
      have hc := frames_Fork_ok (H := e15) (h := h)
      refine op_call (wn rfl) rfl rfl hr (f := 30) (args := #[.agg #[.int .i64 S4.Base, .int .i64 S4.Frames], .int .i64 p1.Frame]) (by kernel_rfl) hc ?_; clear hc h
      rintro _ w ⟨rfl, h⟩; refine ⟨_, rfl, ?_⟩
      clear hr a; intro a hr
      replace h : Fit z (sepL (pts b3 (.cells #[.int .i64 0, .int .i64 0, .int .i64 0, .int .i64 0, .int .i64 0, .int .i64 0, .int .i64 0, .int .i64 0, .int .i64 0] 50) :: ob39 b1 S4 :: ob76 b2 p1 :: L)) _ := h.sel 3 [2, 0, 1] (by kernel_rfl) (by kernel_rfl)
      refine op_stores (wn rfl) rfl hr rfl (by kernel_rfl) (by kernel_rfl) (vs := [.int .i64 r14.head_t_Base, .int .i64 r14.head_t_Frames, .int .i64 r14.head_frame, .int .i64 r14.head_stands, .int .i64 r14.head_code, .int .i64 r14.head_v, .int .i64 r14.kind, .int .i64 r14.slot, .int .i64 r14.give]) rfl rfl (by kernel_rfl) h (i := 0) (cs' := #[.int .i64 r14.head_t_Base, .int .i64 r14.head_t_Frames, .int .i64 r14.head_frame, .int .i64 r14.head_stands, .int .i64 r14.head_code, .int .i64 r14.head_v, .int .i64 r14.kind, .int .i64 r14.slot, .int .i64 r14.give]) rfl ?_; clear h; intro w h
      refine wpList_nil ?_
      replace h : Fit z (sepL (ob50 b3 r14 :: ob39 b1 S4 :: ob76 b2 p1 :: L)) _ := h
      refine then_normal ?_
      refine wp_ret ?_
      refine blk_ret ?_
      refine then_ret ?_
      refine end_retC (cs := [.int .i64 r14.head_t_Base, .int .i64 r14.head_t_Frames, .int .i64 r14.head_frame, .int .i64 r14.head_stands, .int .i64 r14.head_code, .int .i64 r14.head_v, .int .i64 r14.kind, .int .i64 r14.slot, .int .i64 r14.give]) rfl hr (by kernel_rfl) (by kernel_rfl) (by kernel_rfl) ⟨h.cell 0 rfl, h.cell 1 rfl, h.cell 2 rfl, h.cell 3 rfl, h.cell 4 rfl, h.cell 5 rfl, h.cell 6 rfl, h.cell 7 rfl, h.cell 8 rfl, trivial⟩ ?_
      replace h : Fit z (sepL (L)) _ := h.sel 3 [] (by kernel_rfl) (by kernel_rfl)
      replace H := ej1 H; subst H
      exact ⟨rfl, h⟩
    ·
      replace H := ifF c13 H
      refine cond_ff hr (b := (r8 == (1 : Int))) (beq_eq_false_iff_ne.mpr c13) ?_
      refine wp_seq ?_
      refine wp_region_lit ?_
      refine ovs [26, 25] [.bool (r8 == (2 : Int)), .bool (r8 == (2 : Int))] hr ⟨rfl, rfl⟩ (by kernel_rfl) ?_; clear hr a; intro a hr
      refine wpList_nil ?_
      refine then_normal ?_
      by_cases c16 : r8 = (2 : Int)
      ·
        replace H := ifT c16 H
        refine cond_tt hr (b := (r8 == (2 : Int))) (beq_iff_eq.mpr c16) ?_
        refine wp_seq ?_
        refine wp_region_lit ?_
        refine op_val (wn rfl) rfl rfl hr (v := .agg #[.int .i64 S4.Base, .int .i64 S4.Frames]) (rlm (cs := [.int .i64 S4.Base, .int .i64 S4.Frames]) rfl (by kernel_rfl) (by kernel_rfl) (by kernel_rfl) ⟨h.cell 0 rfl, h.cell 1 rfl, trivial⟩) ?_; clear hr a; intro a hr
        refine ov hr (.pointer (some ⟨b2, 1, none⟩)) (by kernel_rfl) ?_; clear hr a; intro a hr
        refine op_val (wn rfl) rfl rfl hr (v := .int .i64 p1.Frame) (rl rfl (by kernel_rfl) (by kernel_rfl) ((h.pick 1).cell 1 rfl)) ?_; clear hr a; intro a hr
        refine ov hr (.pointer (some ⟨b2, 2, none⟩)) (by kernel_rfl) ?_; clear hr a; intro a hr
        refine op_val (wn rfl) rfl rfl hr (v := .int .i64 p1.Slot) (rl rfl (by kernel_rfl) (by kernel_rfl) ((h.pick 1).cell 2 rfl)) ?_; clear hr a; intro a hr
        refine ov hr (.pointer (some ⟨b2, 3, none⟩)) (by kernel_rfl) ?_; clear hr a; intro a hr
        refine op_val (wn rfl) rfl rfl hr (v := .int .i64 p1.V) (rl rfl (by kernel_rfl) (by kernel_rfl) ((h.pick 1).cell 3 rfl)) ?_; clear hr a; intro a hr
        replace H := bd1 H; obtain ⟨r17, e18, H⟩ := H
        have hc := frames_Finish_ok (H := e18) (h := h)
        refine op_call (wn rfl) rfl rfl hr (f := 32) (args := #[.agg #[.int .i64 S4.Base, .int .i64 S4.Frames], .int .i64 p1.Frame, .int .i64 p1.Slot, .int .i64 p1.V]) (by kernel_rfl) hc ?_; clear hc h
        rintro _ w ⟨rfl, h⟩; refine ⟨_, rfl, ?_⟩
        clear hr a; intro a hr
        replace h : Fit z (sepL (pts b3 (.cells #[.int .i64 0, .int .i64 0, .int .i64 0, .int .i64 0, .int .i64 0, .int .i64 0, .int .i64 0, .int .i64 0, .int .i64 0] 50) :: ob39 b1 S4 :: ob76 b2 p1 :: L)) _ := h.sel 3 [2, 0, 1] (by kernel_rfl) (by kernel_rfl)
        refine op_stores (wn rfl) rfl hr rfl (by kernel_rfl) (by kernel_rfl) (vs := [.int .i64 r17.head_t_Base, .int .i64 r17.head_t_Frames, .int .i64 r17.head_frame, .int .i64 r17.head_stands, .int .i64 r17.head_code, .int .i64 r17.head_v, .int .i64 r17.kind, .int .i64 r17.slot, .int .i64 r17.give]) rfl rfl (by kernel_rfl) h (i := 0) (cs' := #[.int .i64 r17.head_t_Base, .int .i64 r17.head_t_Frames, .int .i64 r17.head_frame, .int .i64 r17.head_stands, .int .i64 r17.head_code, .int .i64 r17.head_v, .int .i64 r17.kind, .int .i64 r17.slot, .int .i64 r17.give]) rfl ?_; clear h; intro w h
        refine wpList_nil ?_
        replace h : Fit z (sepL (ob50 b3 r17 :: ob39 b1 S4 :: ob76 b2 p1 :: L)) _ := h
        refine then_normal ?_
        refine wp_ret ?_
        refine blk_ret ?_
        refine then_ret ?_
        refine end_retC (cs := [.int .i64 r17.head_t_Base, .int .i64 r17.head_t_Frames, .int .i64 r17.head_frame, .int .i64 r17.head_stands, .int .i64 r17.head_code, .int .i64 r17.head_v, .int .i64 r17.kind, .int .i64 r17.slot, .int .i64 r17.give]) rfl hr (by kernel_rfl) (by kernel_rfl) (by kernel_rfl) ⟨h.cell 0 rfl, h.cell 1 rfl, h.cell 2 rfl, h.cell 3 rfl, h.cell 4 rfl, h.cell 5 rfl, h.cell 6 rfl, h.cell 7 rfl, h.cell 8 rfl, trivial⟩ ?_
        replace h : Fit z (sepL (L)) _ := h.sel 3 [] (by kernel_rfl) (by kernel_rfl)
        replace H := ej1 H; subst H
        exact ⟨rfl, h⟩
      ·
        replace H := ifF c16 H
        refine cond_ff hr (b := (r8 == (2 : Int))) (beq_eq_false_iff_ne.mpr c16) ?_
        refine wp_seq ?_
        refine wp_region_lit ?_
        refine ovs [36, 35] [.bool (r8 == (3 : Int)), .bool (r8 == (3 : Int))] hr ⟨rfl, rfl⟩ (by kernel_rfl) ?_; clear hr a; intro a hr
        refine wpList_nil ?_
        refine then_normal ?_
        by_cases c19 : r8 = (3 : Int)
        ·
          replace H := ifT c19 H
          refine cond_tt hr (b := (r8 == (3 : Int))) (beq_iff_eq.mpr c19) ?_
          refine wp_seq ?_
          refine wp_region_lit ?_
          refine op_val (wn rfl) rfl rfl hr (v := .agg #[.int .i64 S4.Base, .int .i64 S4.Frames]) (rlm (cs := [.int .i64 S4.Base, .int .i64 S4.Frames]) rfl (by kernel_rfl) (by kernel_rfl) (by kernel_rfl) ⟨h.cell 0 rfl, h.cell 1 rfl, trivial⟩) ?_; clear hr a; intro a hr
          refine ov hr (.pointer (some ⟨b2, 1, none⟩)) (by kernel_rfl) ?_; clear hr a; intro a hr
          refine op_val (wn rfl) rfl rfl hr (v := .int .i64 p1.Frame) (rl rfl (by kernel_rfl) (by kernel_rfl) ((h.pick 1).cell 1 rfl)) ?_; clear hr a; intro a hr
          replace H := bd1 H; obtain ⟨r20, e21, H⟩ := H
          have hc := frames_Sync_ok (H := e21) (h := h)
          refine op_call (wn rfl) rfl rfl hr (f := 31) (args := #[.agg #[.int .i64 S4.Base, .int .i64 S4.Frames], .int .i64 p1.Frame]) (by kernel_rfl) hc ?_; clear hc h
          rintro _ w ⟨rfl, h⟩; refine ⟨_, rfl, ?_⟩
          clear hr a; intro a hr
          replace h : Fit z (sepL (pts b3 (.cells #[.int .i64 0, .int .i64 0, .int .i64 0, .int .i64 0, .int .i64 0, .int .i64 0, .int .i64 0, .int .i64 0, .int .i64 0] 50) :: ob39 b1 S4 :: ob76 b2 p1 :: L)) _ := h.sel 3 [2, 0, 1] (by kernel_rfl) (by kernel_rfl)
          refine op_stores (wn rfl) rfl hr rfl (by kernel_rfl) (by kernel_rfl) (vs := [.int .i64 r20.head_t_Base, .int .i64 r20.head_t_Frames, .int .i64 r20.head_frame, .int .i64 r20.head_stands, .int .i64 r20.head_code, .int .i64 r20.head_v, .int .i64 r20.kind, .int .i64 r20.slot, .int .i64 r20.give]) rfl rfl (by kernel_rfl) h (i := 0) (cs' := #[.int .i64 r20.head_t_Base, .int .i64 r20.head_t_Frames, .int .i64 r20.head_frame, .int .i64 r20.head_stands, .int .i64 r20.head_code, .int .i64 r20.head_v, .int .i64 r20.kind, .int .i64 r20.slot, .int .i64 r20.give]) rfl ?_; clear h; intro w h
          refine wpList_nil ?_
          replace h : Fit z (sepL (ob50 b3 r20 :: ob39 b1 S4 :: ob76 b2 p1 :: L)) _ := h
          refine then_normal ?_
          refine wp_ret ?_
          refine blk_ret ?_
          refine then_ret ?_
          refine end_retC (cs := [.int .i64 r20.head_t_Base, .int .i64 r20.head_t_Frames, .int .i64 r20.head_frame, .int .i64 r20.head_stands, .int .i64 r20.head_code, .int .i64 r20.head_v, .int .i64 r20.kind, .int .i64 r20.slot, .int .i64 r20.give]) rfl hr (by kernel_rfl) (by kernel_rfl) (by kernel_rfl) ⟨h.cell 0 rfl, h.cell 1 rfl, h.cell 2 rfl, h.cell 3 rfl, h.cell 4 rfl, h.cell 5 rfl, h.cell 6 rfl, h.cell 7 rfl, h.cell 8 rfl, trivial⟩ ?_
          replace h : Fit z (sepL (L)) _ := h.sel 3 [] (by kernel_rfl) (by kernel_rfl)
          replace H := ej1 H; subst H
          exact ⟨rfl, h⟩
        ·
          replace H := ifF c19 H
          refine cond_ff hr (b := (r8 == (3 : Int))) (beq_eq_false_iff_ne.mpr c19) ?_
          refine wp_seq ?_
          refine wp_region_lit ?_
          refine ovs [42, 41] [.bool (r8 == (4 : Int)), .bool (r8 == (4 : Int))] hr ⟨rfl, rfl⟩ (by kernel_rfl) ?_; clear hr a; intro a hr
          refine wpList_nil ?_
          refine then_normal ?_
          by_cases c22 : r8 = (4 : Int)
          ·
            replace H := ifT c22 H
            refine cond_tt hr (b := (r8 == (4 : Int))) (beq_iff_eq.mpr c22) ?_
            refine wp_seq ?_
            refine wp_region_lit ?_
            refine op_val (wn rfl) rfl rfl hr (v := .agg #[.int .i64 S4.Base, .int .i64 S4.Frames]) (rlm (cs := [.int .i64 S4.Base, .int .i64 S4.Frames]) rfl (by kernel_rfl) (by kernel_rfl) (by kernel_rfl) ⟨h.cell 0 rfl, h.cell 1 rfl, trivial⟩) ?_; clear hr a; intro a hr
            refine ov hr (.pointer (some ⟨b2, 1, none⟩)) (by kernel_rfl) ?_; clear hr a; intro a hr
            refine op_val (wn rfl) rfl rfl hr (v := .int .i64 p1.Frame) (rl rfl (by kernel_rfl) (by kernel_rfl) ((h.pick 1).cell 1 rfl)) ?_; clear hr a; intro a hr
            replace H := bd1 H; obtain ⟨r23, e24, H⟩ := H
            have hc := frames_Start_ok (H := e24) (h := h)
            refine op_call (wn rfl) rfl rfl hr (f := 64) (args := #[.agg #[.int .i64 S4.Base, .int .i64 S4.Frames], .int .i64 p1.Frame]) (by kernel_rfl) hc ?_; clear hc h
            rintro _ w ⟨rfl, h⟩; refine ⟨_, rfl, ?_⟩
            clear hr a; intro a hr
            replace h : Fit z (sepL (pts b3 (.cells #[.int .i64 0, .int .i64 0, .int .i64 0, .int .i64 0, .int .i64 0, .int .i64 0, .int .i64 0, .int .i64 0, .int .i64 0] 50) :: ob39 b1 S4 :: ob76 b2 p1 :: L)) _ := h.sel 3 [2, 0, 1] (by kernel_rfl) (by kernel_rfl)
            refine op_stores (wn rfl) rfl hr rfl (by kernel_rfl) (by kernel_rfl) (vs := [.int .i64 r23.head_t_Base, .int .i64 r23.head_t_Frames, .int .i64 r23.head_frame, .int .i64 r23.head_stands, .int .i64 r23.head_code, .int .i64 r23.head_v, .int .i64 r23.kind, .int .i64 r23.slot, .int .i64 r23.give]) rfl rfl (by kernel_rfl) h (i := 0) (cs' := #[.int .i64 r23.head_t_Base, .int .i64 r23.head_t_Frames, .int .i64 r23.head_frame, .int .i64 r23.head_stands, .int .i64 r23.head_code, .int .i64 r23.head_v, .int .i64 r23.kind, .int .i64 r23.slot, .int .i64 r23.give]) rfl ?_; clear h; intro w h
            refine wpList_nil ?_
            replace h : Fit z (sepL (ob50 b3 r23 :: ob39 b1 S4 :: ob76 b2 p1 :: L)) _ := h
            refine then_normal ?_
            refine wp_ret ?_
            refine blk_ret ?_
            refine then_ret ?_
            refine end_retC (cs := [.int .i64 r23.head_t_Base, .int .i64 r23.head_t_Frames, .int .i64 r23.head_frame, .int .i64 r23.head_stands, .int .i64 r23.head_code, .int .i64 r23.head_v, .int .i64 r23.kind, .int .i64 r23.slot, .int .i64 r23.give]) rfl hr (by kernel_rfl) (by kernel_rfl) (by kernel_rfl) ⟨h.cell 0 rfl, h.cell 1 rfl, h.cell 2 rfl, h.cell 3 rfl, h.cell 4 rfl, h.cell 5 rfl, h.cell 6 rfl, h.cell 7 rfl, h.cell 8 rfl, trivial⟩ ?_
            replace h : Fit z (sepL (L)) _ := h.sel 3 [] (by kernel_rfl) (by kernel_rfl)
            replace H := ej1 H; subst H
            exact ⟨rfl, h⟩
          ·
            replace H := ifF c22 H
            refine cond_ff hr (b := (r8 == (4 : Int))) (beq_eq_false_iff_ne.mpr c22) ?_
            refine wp_skip ?_
            refine blk_normal ?_
            refine then_normal ?_
            refine wp_seq ?_
            refine wp_region_lit ?_
            refine op_val (wn rfl) rfl rfl hr (v := .agg #[.int .i64 S4.Base, .int .i64 S4.Frames]) (rlm (cs := [.int .i64 S4.Base, .int .i64 S4.Frames]) rfl (by kernel_rfl) (by kernel_rfl) (by kernel_rfl) ⟨h.cell 0 rfl, h.cell 1 rfl, trivial⟩) ?_; clear hr a; intro a hr
            refine ov hr (.pointer (some ⟨b2, 1, none⟩)) (by kernel_rfl) ?_; clear hr a; intro a hr
            refine op_val (wn rfl) rfl rfl hr (v := .int .i64 p1.Frame) (rl rfl (by kernel_rfl) (by kernel_rfl) ((h.pick 1).cell 1 rfl)) ?_; clear hr a; intro a hr
            refine ov hr (.pointer (some ⟨b2, 2, none⟩)) (by kernel_rfl) ?_; clear hr a; intro a hr
            refine op_val (wn rfl) rfl rfl hr (v := .int .i64 p1.Slot) (rl rfl (by kernel_rfl) (by kernel_rfl) ((h.pick 1).cell 2 rfl)) ?_; clear hr a; intro a hr
            replace H := bd1 H; obtain ⟨r25, e26, H⟩ := H
            have hc := frames_Fetch_ok (H := e26) (h := h)
            refine op_call (wn rfl) rfl rfl hr (f := 33) (args := #[.agg #[.int .i64 S4.Base, .int .i64 S4.Frames], .int .i64 p1.Frame, .int .i64 p1.Slot]) (by kernel_rfl) hc ?_; clear hc h
            rintro _ w ⟨rfl, h⟩; refine ⟨_, rfl, ?_⟩
            clear hr a; intro a hr
            replace h : Fit z (sepL (pts b3 (.cells #[.int .i64 0, .int .i64 0, .int .i64 0, .int .i64 0, .int .i64 0, .int .i64 0, .int .i64 0, .int .i64 0, .int .i64 0] 50) :: ob39 b1 S4 :: ob76 b2 p1 :: L)) _ := h.sel 3 [2, 0, 1] (by kernel_rfl) (by kernel_rfl)
            refine op_stores (wn rfl) rfl hr rfl (by kernel_rfl) (by kernel_rfl) (vs := [.int .i64 r25.head_t_Base, .int .i64 r25.head_t_Frames, .int .i64 r25.head_frame, .int .i64 r25.head_stands, .int .i64 r25.head_code, .int .i64 r25.head_v, .int .i64 r25.kind, .int .i64 r25.slot, .int .i64 r25.give]) rfl rfl (by kernel_rfl) h (i := 0) (cs' := #[.int .i64 r25.head_t_Base, .int .i64 r25.head_t_Frames, .int .i64 r25.head_frame, .int .i64 r25.head_stands, .int .i64 r25.head_code, .int .i64 r25.head_v, .int .i64 r25.kind, .int .i64 r25.slot, .int .i64 r25.give]) rfl ?_; clear h; intro w h
            refine wpList_nil ?_
            replace h : Fit z (sepL (ob50 b3 r25 :: ob39 b1 S4 :: ob76 b2 p1 :: L)) _ := h
            refine then_normal ?_
            refine wp_ret ?_
            refine end_retC (cs := [.int .i64 r25.head_t_Base, .int .i64 r25.head_t_Frames, .int .i64 r25.head_frame, .int .i64 r25.head_stands, .int .i64 r25.head_code, .int .i64 r25.head_v, .int .i64 r25.kind, .int .i64 r25.slot, .int .i64 r25.give]) rfl hr (by kernel_rfl) (by kernel_rfl) (by kernel_rfl) ⟨h.cell 0 rfl, h.cell 1 rfl, h.cell 2 rfl, h.cell 3 rfl, h.cell 4 rfl, h.cell 5 rfl, h.cell 6 rfl, h.cell 7 rfl, h.cell 8 rfl, trivial⟩ ?_
            replace h : Fit z (sepL (L)) _ := h.sel 3 [] (by kernel_rfl) (by kernel_rfl)
            replace H := ej1 H; subst H
            exact ⟨rfl, h⟩

/-- plunder/plunderref8.Begin -/
def plunderref8_Begin (p0 : Int) (p1 : T_plunderref8_Table) (p2 : Int) (p3 : Int) (p4 : Int) : Option (T_plunderref8_Op) :=
  jn0 ((if p1.Base < (0 : Int) then some (.inr (⟨p0, 0, 0, p4, p1.Base, p1.Frames, 0, 1, 0⟩ : T_plunderref8_Op)) else (if p1.Frames < (1 : Int) then some (.inr (⟨p0, 0, 0, p4, p1.Base, p1.Frames, 0, 1, 0⟩ : T_plunderref8_Op)) else (if p1.Frames > (4096 : Int) then some (.inr (⟨p0, 0, 0, p4, p1.Base, p1.Frames, 0, 1, 0⟩ : T_plunderref8_Op)) else some (.inl ()))))) ((if p0 = (0 : Int) then some (⟨p0, 0, 0, p4, p1.Base, p1.Frames, 0, 0, 0⟩ : T_plunderref8_Op) else jn0 ((if p2 < (0 : Int) then some (.inr (⟨p0, 0, 0, p4, p1.Base, p1.Frames, 0, 1, 0⟩ : T_plunderref8_Op)) else (if p2 ≥ p1.Frames then some (.inr (⟨p0, 0, 0, p4, p1.Base, p1.Frames, 0, 1, 0⟩ : T_plunderref8_Op)) else some (.inl ())))) (ob1 ((if p0 = (2 : Int) then some true else some (p0 == (5 : Int)))) (fun g14 => jn0 ((if g14 = true then (if p3 < (0 : Int) then some (.inr (⟨p0, 0, 0, p4, p1.Base, p1.Frames, 0, 1, 0⟩ : T_plunderref8_Op)) else (if p3 ≥ (8 : Int) then some (.inr (⟨p0, 0, 0, p4, p1.Base, p1.Frames, 0, 1, 0⟩ : T_plunderref8_Op)) else some (.inl ()))) else some (.inl ()))) (some (⟨p0, wi ((wi (p1.Base + (1 : Int))) + (wi (p2 * (10 : Int)))), wi ((wi ((wi ((wi (p1.Base + (1 : Int))) + (wi (p2 * (10 : Int))))) + (2 : Int))) + p3), p4, p1.Base, p1.Frames, 0, 0, 0⟩ : T_plunderref8_Op))))))
set_option maxRecDepth 100000 in
set_option maxHeartbeats 4000000 in
theorem plunderref8_Begin_ok {z w : World} {L : List HProp} {p0 : Int} {p1 : T_plunderref8_Table} {p2 : Int} {p3 : Int} {p4 : Int} {r0 : T_plunderref8_Op} (H : plunderref8_Begin p0 p1 p2 p3 p4 = some r0) (h : Fit z (sepL (L)) w)  :
    Calls Try.prog 65 #[.int .i64 p0, .agg #[.int .i64 p1.Base, .int .i64 p1.Frames], .int .i64 p2, .int .i64 p3, .int .i64 p4] w fun e w => e = .returned (.agg #[.int .i64 r0.Kind, .int .i64 r0.Join, .int .i64 r0.Cell, .int .i64 r0.V, .int .i64 r0.Next, .int .i64 r0.Frames, .int .i64 r0.Made, .int .i64 r0.Code, .int .i64 r0.Came]) ∧ Fit z (sepL (L)) w := by
  unfold plunderref8_Begin at H
  refine enter Try.func65 rfl 79 rfl rfl [(0, .int .i64 p0), (1, .agg #[.int .i64 p1.Base, .int .i64 p1.Frames]), (2, .int .i64 p2), (3, .int .i64 p3), (4, .int .i64 p4)] ⟨rfl, rfl, rfl, rfl, rfl, trivial⟩ ?_
  intro j a hr
  refine wp_seq ?_
  refine wp_region_lit ?_
  refine op_new (wn rfl) rfl rfl hr h (vf := fun b => .pointer (some ⟨b, 0, none⟩)) (cs := #[.int .i64 p1.Base, .int .i64 p1.Frames]) (T := 36) (by kernel_rfl) ?_; clear h hr a; intro b1 w a h hr
  refine op_new (wn rfl) rfl rfl hr h (vf := fun b => .pointer (some ⟨b, 0, none⟩)) (cs := #[.int .i64 0, .int .i64 0, .int .i64 0, .int .i64 0, .int .i64 0, .int .i64 0, .int .i64 0, .int .i64 0, .int .i64 0]) (T := 78) (by kernel_rfl) ?_; clear h hr a; intro b2 w a h hr
  refine wpList_nil ?_
  refine then_normal ?_
  refine wp_seq ?_
  refine wp_region_lit ?_
  refine ovs [13, 14, 15] [.int .i64 p0, .int .i64 p4, .pointer (some ⟨b1, 0, none⟩)] hr ⟨rfl, rfl⟩ (by kernel_rfl) ?_; clear hr a; intro a hr
  refine op_val (wn rfl) rfl rfl hr (v := .int .i64 p1.Base) (rl rfl (by kernel_rfl) (by kernel_rfl) ((h.pick 1).cell 0 rfl)) ?_; clear hr a; intro a hr
  refine ov hr (.pointer (some ⟨b1, 1, none⟩)) (by kernel_rfl) ?_; clear hr a; intro a hr
  refine op_val (wn rfl) rfl rfl hr (v := .int .i64 p1.Frames) (rl rfl (by kernel_rfl) (by kernel_rfl) ((h.pick 1).cell 1 rfl)) ?_; clear hr a; intro a hr
  refine ov hr (.agg #[.int .i64 p0, .int .i64 0, .int .i64 0, .int .i64 p4, .int .i64 p1.Base, .int .i64 p1.Frames, .int .i64 0, .int .i64 0, .int .i64 0]) (by kernel_rfl) ?_; clear hr a; intro a hr
  refine op_new (wn rfl) rfl rfl hr h (vf := fun b => .pointer (some ⟨b, 0, none⟩)) (cs := #[.int .i64 0, .int .i64 0, .int .i64 0, .int .i64 0, .int .i64 0, .int .i64 0, .int .i64 0, .int .i64 0, .int .i64 0]) (T := 78) (by kernel_rfl) ?_; clear h hr a; intro b3 w a h hr
  refine op_stores (wn rfl) rfl hr rfl (by kernel_rfl) (by kernel_rfl) (vs := [.int .i64 p0, .int .i64 0, .int .i64 0, .int .i64 p4, .int .i64 p1.Base, .int .i64 p1.Frames, .int .i64 0, .int .i64 0, .int .i64 0]) rfl rfl (by kernel_rfl) h (i := 0) (cs' := #[.int .i64 p0, .int .i64 0, .int .i64 0, .int .i64 p4, .int .i64 p1.Base, .int .i64 p1.Frames, .int .i64 0, .int .i64 0, .int .i64 0]) rfl ?_; clear h; intro w h
  refine wpList_nil ?_
  replace h : Fit z (sepL (pts b3 (.cells #[.int .i64 p0, .int .i64 0, .int .i64 0, .int .i64 p4, .int .i64 p1.Base, .int .i64 p1.Frames, .int .i64 0, .int .i64 0, .int .i64 0] 78) :: pts b2 (.cells #[.int .i64 0, .int .i64 0, .int .i64 0, .int .i64 0, .int .i64 0, .int .i64 0, .int .i64 0, .int .i64 0, .int .i64 0] 78) :: ob36 b1 p1 :: L)) _ := h
  refine then_normal ?_
  replace H := jd0 H; obtain ⟨o5, H, hK4⟩ := H
  refine cut_rule (β := Unit) (fun _ a w => .inl () = o5 ∧ ∃ j, Rep 79 (lk [(0, .int .i64 p0), (2, .int .i64 p2), (3, .int .i64 p3), (6, .pointer (some ⟨b1, 0, none⟩)), (10, .pointer (some ⟨b2, 0, none⟩)), (11, .pointer (some ⟨b3, 0, none⟩))] j) a ∧ Fit z (sepL (ob36 b1 p1 :: pts b2 (.cells #[.int .i64 0, .int .i64 0, .int .i64 0, .int .i64 0, .int .i64 0, .int .i64 0, .int .i64 0, .int .i64 0, .int .i64 0] 78) :: pts b3 (.cells #[.int .i64 p0, .int .i64 0, .int .i64 0, .int .i64 p4, .int .i64 p1.Base, .int .i64 p1.Frames, .int .i64 0, .int .i64 0, .int .i64 0] 78) :: L)) w) ?_ ?_
  ·
    refine wp_seq ?_
    refine wp_region_lit ?_
    refine ov hr (.pointer (some ⟨b1, 0, none⟩)) (by kernel_rfl) ?_; clear hr a; intro a hr
    refine op_val (wn rfl) rfl rfl hr (v := .int .i64 p1.Base) (rl rfl (by kernel_rfl) (by kernel_rfl) ((h.pick 2).cell 0 rfl)) ?_; clear hr a; intro a hr
    refine ovs [22, 23] [.bool (decide (p1.Base < (0 : Int))), .bool (decide (p1.Base < (0 : Int)))] hr ⟨rfl, rfl⟩ (by kernel_rfl) ?_; clear hr a; intro a hr
    by_cases c6 : p1.Base < (0 : Int)
    ·
      replace H := ifT c6 H
      refine op_off ((wg hr rfl rfl rfl (b' := (decide (p1.Base < (0 : Int)))) (by kernel_rfl)).trans (by rw [show (decide (p1.Base < (0 : Int))) = true from (decide_eq_true c6)]; rfl)) rfl rfl hr ?_; clear hr a; intro a hr
      refine op_off ((wg hr rfl rfl rfl (b' := (decide (p1.Base < (0 : Int)))) (by kernel_rfl)).trans (by rw [show (decide (p1.Base < (0 : Int))) = true from (decide_eq_true c6)]; rfl)) rfl rfl hr ?_; clear hr a; intro a hr
      refine op_off ((wg hr rfl rfl rfl (b' := (decide (p1.Base < (0 : Int)))) (by kernel_rfl)).trans (by rw [show (decide (p1.Base < (0 : Int))) = true from (decide_eq_true c6)]; rfl)) rfl rfl hr ?_; clear hr a; intro a hr
      refine op_val (wn rfl) rfl rfl hr (v := .bool true) (rp_t (b := (decide (p1.Base < (0 : Int)))) rfl (by kernel_rfl) (decide_eq_true c6) (by kernel_rfl)) ?_; clear hr a; intro a hr
      refine ov hr (.bool true) (by kernel_rfl) ?_; clear hr a; intro a hr
      refine op_off ((wg hr rfl rfl rfl (b' := true) (by kernel_rfl)).trans rfl) rfl rfl hr ?_; clear hr a; intro a hr
      refine op_off ((wg hr rfl rfl rfl (b' := true) (by kernel_rfl)).trans rfl) rfl rfl hr ?_; clear hr a; intro a hr
      refine op_off ((wg hr rfl rfl rfl (b' := true) (by kernel_rfl)).trans rfl) rfl rfl hr ?_; clear hr a; intro a hr
      refine ov hr (.bool true) (by kernel_rfl) ?_; clear hr a; intro a hr
      refine wpList_nil ?_
      refine then_normal ?_
      refine cond_tt hr (b := true) rfl ?_
      refine wp_seq ?_
      refine wp_region_lit ?_
      refine ov hr (.pointer (some ⟨b3, 7, none⟩)) (by kernel_rfl) ?_; clear hr a; intro a hr
      refine op_store (wn rfl) rfl hr rfl (by kernel_rfl) (by kernel_rfl) (v := .int .i64 1) rfl rfl (by kernel_rfl) h (i := 7) rfl ?_; clear h; intro w h
      refine wpList_nil ?_
      replace h : Fit z (sepL (pts b3 (.cells #[.int .i64 p0, .int .i64 0, .int .i64 0, .int .i64 p4, .int .i64 p1.Base, .int .i64 p1.Frames, .int .i64 0, .int .i64 1, .int .i64 0] 78) :: pts b2 (.cells #[.int .i64 0, .int .i64 0, .int .i64 0, .int .i64 0, .int .i64 0, .int .i64 0, .int .i64 0, .int .i64 0, .int .i64 0] 78) :: ob36 b1 p1 :: L)) _ := h
      refine then_normal ?_
      refine wp_seq ?_
      refine wp_region_lit ?_
      refine op_val (wn rfl) rfl rfl hr (v := .agg #[.int .i64 p0, .int .i64 0, .int .i64 0, .int .i64 p4, .int .i64 p1.Base, .int .i64 p1.Frames, .int .i64 0, .int .i64 1, .int .i64 0]) (rlm (cs := [.int .i64 p0, .int .i64 0, .int .i64 0, .int .i64 p4, .int .i64 p1.Base, .int .i64 p1.Frames, .int .i64 0, .int .i64 1, .int .i64 0]) rfl (by kernel_rfl) (by kernel_rfl) (by kernel_rfl) ⟨h.cell 0 rfl, h.cell 1 rfl, h.cell 2 rfl, h.cell 3 rfl, h.cell 4 rfl, h.cell 5 rfl, h.cell 6 rfl, h.cell 7 rfl, h.cell 8 rfl, trivial⟩) ?_; clear hr a; intro a hr
      replace h : Fit z (sepL (pts b2 (.cells #[.int .i64 0, .int .i64 0, .int .i64 0, .int .i64 0, .int .i64 0, .int .i64 0, .int .i64 0, .int .i64 0, .int .i64 0] 78) :: pts b3 (.cells #[.int .i64 p0, .int .i64 0, .int .i64 0, .int .i64 p4, .int .i64 p1.Base, .int .i64 p1.Frames, .int .i64 0, .int .i64 1, .int .i64 0] 78) :: ob36 b1 p1 :: L)) _ := h.sel 3 [1, 0, 2] (by kernel_rfl) (by kernel_rfl)
      refine op_stores (wn rfl) rfl hr rfl (by kernel_rfl) (by kernel_rfl) (vs := [.int .i64 p0, .int .i64 0, .int .i64 0, .int .i64 p4, .int .i64 p1.Base, .int .i64 p1.Frames, .int .i64 0, .int .i64 1, .int .i64 0]) rfl rfl (by kernel_rfl) h (i := 0) (cs' := #[.int .i64 p0, .int .i64 0, .int .i64 0, .int .i64 p4, .int .i64 p1.Base, .int .i64 p1.Frames, .int .i64 0, .int .i64 1, .int .i64 0]) rfl ?_; clear h; intro w h
      refine wpList_nil ?_
      replace h : Fit z (sepL (pts b2 (.cells #[.int .i64 p0, .int .i64 0, .int .i64 0, .int .i64 p4, .int .i64 p1.Base, .int .i64 p1.Frames, .int .i64 0, .int .i64 1, .int .i64 0] 78) :: pts b3 (.cells #[.int .i64 p0, .int .i64 0, .int .i64 0, .int .i64 p4, .int .i64 p1.Base, .int .i64 p1.Frames, .int .i64 0, .int .i64 1, .int .i64 0] 78) :: ob36 b1 p1 :: L)) _ := h
      refine then_normal ?_
      refine wp_ret ?_
      refine then_ret ?_
      refine end_retC (cs := [.int .i64 p0, .int .i64 0, .int .i64 0, .int .i64 p4, .int .i64 p1.Base, .int .i64 p1.Frames, .int .i64 0, .int .i64 1, .int .i64 0]) rfl hr (by kernel_rfl) (by kernel_rfl) (by kernel_rfl) ⟨h.cell 0 rfl, h.cell 1 rfl, h.cell 2 rfl, h.cell 3 rfl, h.cell 4 rfl, h.cell 5 rfl, h.cell 6 rfl, h.cell 7 rfl, h.cell 8 rfl, trivial⟩ ?_
      replace H := jx0 H hK4
      replace h : Fit z (sepL (L)) _ := h.sel 3 [] (by kernel_rfl) (by kernel_rfl)
      replace H := ej1 H; subst H
      exact ⟨rfl, h⟩
    ·
      replace H := ifF c6 H
      refine op_val ((wg hr rfl rfl rfl (b' := (decide (p1.Base < (0 : Int)))) (by kernel_rfl)).trans (by rw [show (decide (p1.Base < (0 : Int))) = false from (decide_eq_false c6)]; rfl)) rfl rfl hr (v := .pointer (some ⟨b1, 1, none⟩)) (by kernel_rfl) ?_; clear hr a; intro a hr
      refine op_val ((wg hr rfl rfl rfl (b' := (decide (p1.Base < (0 : Int)))) (by kernel_rfl)).trans (by rw [show (decide (p1.Base < (0 : Int))) = false from (decide_eq_false c6)]; rfl)) rfl rfl hr (v := .int .i64 p1.Frames) (rl rfl (by kernel_rfl) (by kernel_rfl) ((h.pick 2).cell 1 rfl)) ?_; clear hr a; intro a hr
      refine op_val ((wg hr rfl rfl rfl (b' := (decide (p1.Base < (0 : Int)))) (by kernel_rfl)).trans (by rw [show (decide (p1.Base < (0 : Int))) = false from (decide_eq_false c6)]; rfl)) rfl rfl hr (v := .bool (decide (p1.Frames < (1 : Int)))) (by kernel_rfl) ?_; clear hr a; intro a hr
      refine op_val (wn rfl) rfl rfl hr (v := .bool (decide (p1.Frames < (1 : Int)))) (rp_f (b := (decide (p1.Base < (0 : Int)))) rfl (by kernel_rfl) (decide_eq_false c6) (by kernel_rfl)) ?_; clear hr a; intro a hr
      refine ov hr (.bool (decide (p1.Frames < (1 : Int)))) (by kernel_rfl) ?_; clear hr a; intro a hr
      by_cases c7 : p1.Frames < (1 : Int)
      ·
        replace H := ifT c7 H
        refine op_off ((wg hr rfl rfl rfl (b' := (decide (p1.Frames < (1 : Int)))) (by kernel_rfl)).trans (by rw [show (decide (p1.Frames < (1 : Int))) = true from (decide_eq_true c7)]; rfl)) rfl rfl hr ?_; clear hr a; intro a hr
        refine op_off ((wg hr rfl rfl rfl (b' := (decide (p1.Frames < (1 : Int)))) (by kernel_rfl)).trans (by rw [show (decide (p1.Frames < (1 : Int))) = true from (decide_eq_true c7)]; rfl)) rfl rfl hr ?_; clear hr a; intro a hr
        refine op_off ((wg hr rfl rfl rfl (b' := (decide (p1.Frames < (1 : Int)))) (by kernel_rfl)).trans (by rw [show (decide (p1.Frames < (1 : Int))) = true from (decide_eq_true c7)]; rfl)) rfl rfl hr ?_; clear hr a; intro a hr
        refine op_val (wn rfl) rfl rfl hr (v := .bool true) (rp_t (b := (decide (p1.Frames < (1 : Int)))) rfl (by kernel_rfl) (decide_eq_true c7) (by kernel_rfl)) ?_; clear hr a; intro a hr
        refine wpList_nil ?_
        refine then_normal ?_
        refine cond_tt hr (b := true) rfl ?_
        refine wp_seq ?_
        refine wp_region_lit ?_
        refine ov hr (.pointer (some ⟨b3, 7, none⟩)) (by kernel_rfl) ?_; clear hr a; intro a hr
        refine op_store (wn rfl) rfl hr rfl (by kernel_rfl) (by kernel_rfl) (v := .int .i64 1) rfl rfl (by kernel_rfl) h (i := 7) rfl ?_; clear h; intro w h
        refine wpList_nil ?_
        replace h : Fit z (sepL (pts b3 (.cells #[.int .i64 p0, .int .i64 0, .int .i64 0, .int .i64 p4, .int .i64 p1.Base, .int .i64 p1.Frames, .int .i64 0, .int .i64 1, .int .i64 0] 78) :: pts b2 (.cells #[.int .i64 0, .int .i64 0, .int .i64 0, .int .i64 0, .int .i64 0, .int .i64 0, .int .i64 0, .int .i64 0, .int .i64 0] 78) :: ob36 b1 p1 :: L)) _ := h
        refine then_normal ?_
        refine wp_seq ?_
        refine wp_region_lit ?_
        refine op_val (wn rfl) rfl rfl hr (v := .agg #[.int .i64 p0, .int .i64 0, .int .i64 0, .int .i64 p4, .int .i64 p1.Base, .int .i64 p1.Frames, .int .i64 0, .int .i64 1, .int .i64 0]) (rlm (cs := [.int .i64 p0, .int .i64 0, .int .i64 0, .int .i64 p4, .int .i64 p1.Base, .int .i64 p1.Frames, .int .i64 0, .int .i64 1, .int .i64 0]) rfl (by kernel_rfl) (by kernel_rfl) (by kernel_rfl) ⟨h.cell 0 rfl, h.cell 1 rfl, h.cell 2 rfl, h.cell 3 rfl, h.cell 4 rfl, h.cell 5 rfl, h.cell 6 rfl, h.cell 7 rfl, h.cell 8 rfl, trivial⟩) ?_; clear hr a; intro a hr
        replace h : Fit z (sepL (pts b2 (.cells #[.int .i64 0, .int .i64 0, .int .i64 0, .int .i64 0, .int .i64 0, .int .i64 0, .int .i64 0, .int .i64 0, .int .i64 0] 78) :: pts b3 (.cells #[.int .i64 p0, .int .i64 0, .int .i64 0, .int .i64 p4, .int .i64 p1.Base, .int .i64 p1.Frames, .int .i64 0, .int .i64 1, .int .i64 0] 78) :: ob36 b1 p1 :: L)) _ := h.sel 3 [1, 0, 2] (by kernel_rfl) (by kernel_rfl)
        refine op_stores (wn rfl) rfl hr rfl (by kernel_rfl) (by kernel_rfl) (vs := [.int .i64 p0, .int .i64 0, .int .i64 0, .int .i64 p4, .int .i64 p1.Base, .int .i64 p1.Frames, .int .i64 0, .int .i64 1, .int .i64 0]) rfl rfl (by kernel_rfl) h (i := 0) (cs' := #[.int .i64 p0, .int .i64 0, .int .i64 0, .int .i64 p4, .int .i64 p1.Base, .int .i64 p1.Frames, .int .i64 0, .int .i64 1, .int .i64 0]) rfl ?_; clear h; intro w h
        refine wpList_nil ?_
        replace h : Fit z (sepL (pts b2 (.cells #[.int .i64 p0, .int .i64 0, .int .i64 0, .int .i64 p4, .int .i64 p1.Base, .int .i64 p1.Frames, .int .i64 0, .int .i64 1, .int .i64 0] 78) :: pts b3 (.cells #[.int .i64 p0, .int .i64 0, .int .i64 0, .int .i64 p4, .int .i64 p1.Base, .int .i64 p1.Frames, .int .i64 0, .int .i64 1, .int .i64 0] 78) :: ob36 b1 p1 :: L)) _ := h
        refine then_normal ?_
        refine wp_ret ?_
        refine then_ret ?_
        refine end_retC (cs := [.int .i64 p0, .int .i64 0, .int .i64 0, .int .i64 p4, .int .i64 p1.Base, .int .i64 p1.Frames, .int .i64 0, .int .i64 1, .int .i64 0]) rfl hr (by kernel_rfl) (by kernel_rfl) (by kernel_rfl) ⟨h.cell 0 rfl, h.cell 1 rfl, h.cell 2 rfl, h.cell 3 rfl, h.cell 4 rfl, h.cell 5 rfl, h.cell 6 rfl, h.cell 7 rfl, h.cell 8 rfl, trivial⟩ ?_
        replace H := jx0 H hK4
        replace h : Fit z (sepL (L)) _ := h.sel 3 [] (by kernel_rfl) (by kernel_rfl)
        replace H := ej1 H; subst H
        exact ⟨rfl, h⟩
      ·
        replace H := ifF c7 H
        refine op_val ((wg hr rfl rfl rfl (b' := (decide (p1.Frames < (1 : Int)))) (by kernel_rfl)).trans (by rw [show (decide (p1.Frames < (1 : Int))) = false from (decide_eq_false c7)]; rfl)) rfl rfl hr (v := .pointer (some ⟨b1, 1, none⟩)) (by kernel_rfl) ?_; clear hr a; intro a hr
        refine op_val ((wg hr rfl rfl rfl (b' := (decide (p1.Frames < (1 : Int)))) (by kernel_rfl)).trans (by rw [show (decide (p1.Frames < (1 : Int))) = false from (decide_eq_false c7)]; rfl)) rfl rfl hr (v := .int .i64 p1.Frames) (rl rfl (by kernel_rfl) (by kernel_rfl) ((h.pick 2).cell 1 rfl)) ?_; clear hr a; intro a hr
        refine op_val ((wg hr rfl rfl rfl (b' := (decide (p1.Frames < (1 : Int)))) (by kernel_rfl)).trans (by rw [show (decide (p1.Frames < (1 : Int))) = false from (decide_eq_false c7)]; rfl)) rfl rfl hr (v := .bool (decide (p1.Frames > (4096 : Int)))) (by kernel_rfl) ?_; clear hr a; intro a hr
        refine op_val (wn rfl) rfl rfl hr (v := .bool (decide (p1.Frames > (4096 : Int)))) (rp_f (b := (decide (p1.Frames < (1 : Int)))) rfl (by kernel_rfl) (decide_eq_false c7) (by kernel_rfl)) ?_; clear hr a; intro a hr
        refine wpList_nil ?_
        refine then_normal ?_
        by_cases c8 : p1.Frames > (4096 : Int)
        ·
          replace H := ifT c8 H
          refine cond_tt hr (b := (decide (p1.Frames > (4096 : Int)))) (decide_eq_true c8) ?_
          refine wp_seq ?_
          refine wp_region_lit ?_
          refine ov hr (.pointer (some ⟨b3, 7, none⟩)) (by kernel_rfl) ?_; clear hr a; intro a hr
          refine op_store (wn rfl) rfl hr rfl (by kernel_rfl) (by kernel_rfl) (v := .int .i64 1) rfl rfl (by kernel_rfl) h (i := 7) rfl ?_; clear h; intro w h
          refine wpList_nil ?_
          replace h : Fit z (sepL (pts b3 (.cells #[.int .i64 p0, .int .i64 0, .int .i64 0, .int .i64 p4, .int .i64 p1.Base, .int .i64 p1.Frames, .int .i64 0, .int .i64 1, .int .i64 0] 78) :: pts b2 (.cells #[.int .i64 0, .int .i64 0, .int .i64 0, .int .i64 0, .int .i64 0, .int .i64 0, .int .i64 0, .int .i64 0, .int .i64 0] 78) :: ob36 b1 p1 :: L)) _ := h
          refine then_normal ?_
          refine wp_seq ?_
          refine wp_region_lit ?_
          refine op_val (wn rfl) rfl rfl hr (v := .agg #[.int .i64 p0, .int .i64 0, .int .i64 0, .int .i64 p4, .int .i64 p1.Base, .int .i64 p1.Frames, .int .i64 0, .int .i64 1, .int .i64 0]) (rlm (cs := [.int .i64 p0, .int .i64 0, .int .i64 0, .int .i64 p4, .int .i64 p1.Base, .int .i64 p1.Frames, .int .i64 0, .int .i64 1, .int .i64 0]) rfl (by kernel_rfl) (by kernel_rfl) (by kernel_rfl) ⟨h.cell 0 rfl, h.cell 1 rfl, h.cell 2 rfl, h.cell 3 rfl, h.cell 4 rfl, h.cell 5 rfl, h.cell 6 rfl, h.cell 7 rfl, h.cell 8 rfl, trivial⟩) ?_; clear hr a; intro a hr
          replace h : Fit z (sepL (pts b2 (.cells #[.int .i64 0, .int .i64 0, .int .i64 0, .int .i64 0, .int .i64 0, .int .i64 0, .int .i64 0, .int .i64 0, .int .i64 0] 78) :: pts b3 (.cells #[.int .i64 p0, .int .i64 0, .int .i64 0, .int .i64 p4, .int .i64 p1.Base, .int .i64 p1.Frames, .int .i64 0, .int .i64 1, .int .i64 0] 78) :: ob36 b1 p1 :: L)) _ := h.sel 3 [1, 0, 2] (by kernel_rfl) (by kernel_rfl)
          refine op_stores (wn rfl) rfl hr rfl (by kernel_rfl) (by kernel_rfl) (vs := [.int .i64 p0, .int .i64 0, .int .i64 0, .int .i64 p4, .int .i64 p1.Base, .int .i64 p1.Frames, .int .i64 0, .int .i64 1, .int .i64 0]) rfl rfl (by kernel_rfl) h (i := 0) (cs' := #[.int .i64 p0, .int .i64 0, .int .i64 0, .int .i64 p4, .int .i64 p1.Base, .int .i64 p1.Frames, .int .i64 0, .int .i64 1, .int .i64 0]) rfl ?_; clear h; intro w h
          refine wpList_nil ?_
          replace h : Fit z (sepL (pts b2 (.cells #[.int .i64 p0, .int .i64 0, .int .i64 0, .int .i64 p4, .int .i64 p1.Base, .int .i64 p1.Frames, .int .i64 0, .int .i64 1, .int .i64 0] 78) :: pts b3 (.cells #[.int .i64 p0, .int .i64 0, .int .i64 0, .int .i64 p4, .int .i64 p1.Base, .int .i64 p1.Frames, .int .i64 0, .int .i64 1, .int .i64 0] 78) :: ob36 b1 p1 :: L)) _ := h
          refine then_normal ?_
          refine wp_ret ?_
          refine then_ret ?_
          refine end_retC (cs := [.int .i64 p0, .int .i64 0, .int .i64 0, .int .i64 p4, .int .i64 p1.Base, .int .i64 p1.Frames, .int .i64 0, .int .i64 1, .int .i64 0]) rfl hr (by kernel_rfl) (by kernel_rfl) (by kernel_rfl) ⟨h.cell 0 rfl, h.cell 1 rfl, h.cell 2 rfl, h.cell 3 rfl, h.cell 4 rfl, h.cell 5 rfl, h.cell 6 rfl, h.cell 7 rfl, h.cell 8 rfl, trivial⟩ ?_
          replace H := jx0 H hK4
          replace h : Fit z (sepL (L)) _ := h.sel 3 [] (by kernel_rfl) (by kernel_rfl)
          replace H := ej1 H; subst H
          exact ⟨rfl, h⟩
        ·
          replace H := ifF c8 H
          refine cond_ff hr (b := (decide (p1.Frames > (4096 : Int)))) (decide_eq_false c8) ?_
          refine wp_skip ?_
          refine then_normal ?_
          replace hr := hr.fold2 [(0, .int .i64 p0), (2, .int .i64 p2), (3, .int .i64 p3), (6, .pointer (some ⟨b1, 0, none⟩)), (10, .pointer (some ⟨b2, 0, none⟩)), (11, .pointer (some ⟨b3, 0, none⟩))] (by kernel_rfl); obtain ⟨j, hr⟩ := hr
          replace h : Fit z (sepL (ob36 b1 p1 :: pts b2 (.cells #[.int .i64 0, .int .i64 0, .int .i64 0, .int .i64 0, .int .i64 0, .int .i64 0, .int .i64 0, .int .i64 0, .int .i64 0] 78) :: pts b3 (.cells #[.int .i64 p0, .int .i64 0, .int .i64 0, .int .i64 p4, .int .i64 p1.Base, .int .i64 p1.Frames, .int .i64 0, .int .i64 0, .int .i64 0] 78) :: L)) _ := h.sel 3 [2, 1, 0] (by kernel_rfl) (by kernel_rfl)
          exact ⟨(), sinj H, j, hr, h⟩
  clear h hr a; rintro _ a w ⟨rfl, j, hr, h⟩
  replace H := jk0 hK4
  refine wp_seq ?_
  refine wp_seq ?_
  refine wp_region_lit ?_
  refine ovs [35, 36] [.int .i64 p0, .bool (p0 == (0 : Int))] hr ⟨rfl, rfl⟩ (by kernel_rfl) ?_; clear hr a; intro a hr
  refine wpList_nil ?_
  refine then_normal ?_
  by_cases c9 : p0 = (0 : Int)
  ·
    replace H := ifT c9 H
    refine cond_tt hr (b := (p0 == (0 : Int))) (beq_iff_eq.mpr c9) ?_
    refine wp_seq ?_
    refine wp_region_lit ?_
    refine op_val (wn rfl) rfl rfl hr (v := .agg #[.int .i64 p0, .int .i64 0, .int .i64 0, .int .i64 p4, .int .i64 p1.Base, .int .i64 p1.Frames, .int .i64 0, .int .i64 0, .int .i64 0]) (rlm (cs := [.int .i64 p0, .int .i64 0, .int .i64 0, .int .i64 p4, .int .i64 p1.Base, .int .i64 p1.Frames, .int .i64 0, .int .i64 0, .int .i64 0]) rfl (by kernel_rfl) (by kernel_rfl) (by kernel_rfl) ⟨(h.pick 2).cell 0 rfl, (h.pick 2).cell 1 rfl, (h.pick 2).cell 2 rfl, (h.pick 2).cell 3 rfl, (h.pick 2).cell 4 rfl, (h.pick 2).cell 5 rfl, (h.pick 2).cell 6 rfl, (h.pick 2).cell 7 rfl, (h.pick 2).cell 8 rfl, trivial⟩) ?_; clear hr a; intro a hr
    replace h : Fit z (sepL (pts b2 (.cells #[.int .i64 0, .int .i64 0, .int .i64 0, .int .i64 0, .int .i64 0, .int .i64 0, .int .i64 0, .int .i64 0, .int .i64 0] 78) :: ob36 b1 p1 :: pts b3 (.cells #[.int .i64 p0, .int .i64 0, .int .i64 0, .int .i64 p4, .int .i64 p1.Base, .int .i64 p1.Frames, .int .i64 0, .int .i64 0, .int .i64 0] 78) :: L)) _ := h.sel 3 [1, 0, 2] (by kernel_rfl) (by kernel_rfl)
    refine op_stores (wn rfl) rfl hr rfl (by kernel_rfl) (by kernel_rfl) (vs := [.int .i64 p0, .int .i64 0, .int .i64 0, .int .i64 p4, .int .i64 p1.Base, .int .i64 p1.Frames, .int .i64 0, .int .i64 0, .int .i64 0]) rfl rfl (by kernel_rfl) h (i := 0) (cs' := #[.int .i64 p0, .int .i64 0, .int .i64 0, .int .i64 p4, .int .i64 p1.Base, .int .i64 p1.Frames, .int .i64 0, .int .i64 0, .int .i64 0]) rfl ?_; clear h; intro w h
    refine wpList_nil ?_
    replace h : Fit z (sepL (pts b2 (.cells #[.int .i64 p0, .int .i64 0, .int .i64 0, .int .i64 p4, .int .i64 p1.Base, .int .i64 p1.Frames, .int .i64 0, .int .i64 0, .int .i64 0] 78) :: ob36 b1 p1 :: pts b3 (.cells #[.int .i64 p0, .int .i64 0, .int .i64 0, .int .i64 p4, .int .i64 p1.Base, .int .i64 p1.Frames, .int .i64 0, .int .i64 0, .int .i64 0] 78) :: L)) _ := h
    refine then_normal ?_
    refine wp_ret ?_
    refine then_ret ?_
    refine end_retC (cs := [.int .i64 p0, .int .i64 0, .int .i64 0, .int .i64 p4, .int .i64 p1.Base, .int .i64 p1.Frames, .int .i64 0, .int .i64 0, .int .i64 0]) rfl hr (by kernel_rfl) (by kernel_rfl) (by kernel_rfl) ⟨h.cell 0 rfl, h.cell 1 rfl, h.cell 2 rfl, h.cell 3 rfl, h.cell 4 rfl, h.cell 5 rfl, h.cell 6 rfl, h.cell 7 rfl, h.cell 8 rfl, trivial⟩ ?_
    replace h : Fit z (sepL (L)) _ := h.sel 3 [] (by kernel_rfl) (by kernel_rfl)
    replace H := ej1 H; subst H
    exact ⟨rfl, h⟩
  ·
    replace H := ifF c9 H
    refine cond_ff hr (b := (p0 == (0 : Int))) (beq_eq_false_iff_ne.mpr c9) ?_
    refine wp_skip ?_
    refine then_normal ?_
    replace H := jd0 H; obtain ⟨o11, H, hK10⟩ := H
    refine cut_rule (β := Unit) (fun _ a w => .inl () = o11 ∧ ∃ j, Rep 79 (lk [(0, .int .i64 p0), (2, .int .i64 p2), (3, .int .i64 p3), (6, .pointer (some ⟨b1, 0, none⟩)), (10, .pointer (some ⟨b2, 0, none⟩)), (11, .pointer (some ⟨b3, 0, none⟩))] j) a ∧ Fit z (sepL (ob36 b1 p1 :: pts b2 (.cells #[.int .i64 0, .int .i64 0, .int .i64 0, .int .i64 0, .int .i64 0, .int .i64 0, .int .i64 0, .int .i64 0, .int .i64 0] 78) :: pts b3 (.cells #[.int .i64 p0, .int .i64 0, .int .i64 0, .int .i64 p4, .int .i64 p1.Base, .int .i64 p1.Frames, .int .i64 0, .int .i64 0, .int .i64 0] 78) :: L)) w) ?_ ?_
    ·
      refine wp_seq ?_
      refine wp_region_lit ?_
      refine ovs [38, 39, 40] [.int .i64 p2, .bool (decide (p2 < (0 : Int))), .bool (decide (p2 < (0 : Int)))] hr ⟨rfl, rfl⟩ (by kernel_rfl) ?_; clear hr a; intro a hr
      by_cases c12 : p2 < (0 : Int)
      ·
        replace H := ifT c12 H
        refine op_off ((wg hr rfl rfl rfl (b' := (decide (p2 < (0 : Int)))) (by kernel_rfl)).trans (by rw [show (decide (p2 < (0 : Int))) = true from (decide_eq_true c12)]; rfl)) rfl rfl hr ?_; clear hr a; intro a hr
        refine op_off ((wg hr rfl rfl rfl (b' := (decide (p2 < (0 : Int)))) (by kernel_rfl)).trans (by rw [show (decide (p2 < (0 : Int))) = true from (decide_eq_true c12)]; rfl)) rfl rfl hr ?_; clear hr a; intro a hr
        refine op_off ((wg hr rfl rfl rfl (b' := (decide (p2 < (0 : Int)))) (by kernel_rfl)).trans (by rw [show (decide (p2 < (0 : Int))) = true from (decide_eq_true c12)]; rfl)) rfl rfl hr ?_; clear hr a; intro a hr
        refine op_off ((wg hr rfl rfl rfl (b' := (decide (p2 < (0 : Int)))) (by kernel_rfl)).trans (by rw [show (decide (p2 < (0 : Int))) = true from (decide_eq_true c12)]; rfl)) rfl rfl hr ?_; clear hr a; intro a hr
        refine op_val (wn rfl) rfl rfl hr (v := .bool true) (rp_t (b := (decide (p2 < (0 : Int)))) rfl (by kernel_rfl) (decide_eq_true c12) (by kernel_rfl)) ?_; clear hr a; intro a hr
        refine wpList_nil ?_
        refine then_normal ?_
        refine cond_tt hr (b := true) rfl ?_
        refine wp_seq ?_
        refine wp_region_lit ?_
        refine ov hr (.pointer (some ⟨b3, 7, none⟩)) (by kernel_rfl) ?_; clear hr a; intro a hr
        replace h : Fit z (sepL (pts b3 (.cells #[.int .i64 p0, .int .i64 0, .int .i64 0, .int .i64 p4, .int .i64 p1.Base, .int .i64 p1.Frames, .int .i64 0, .int .i64 0, .int .i64 0] 78) :: ob36 b1 p1 :: pts b2 (.cells #[.int .i64 0, .int .i64 0, .int .i64 0, .int .i64 0, .int .i64 0, .int .i64 0, .int .i64 0, .int .i64 0, .int .i64 0] 78) :: L)) _ := h.sel 3 [2, 0, 1] (by kernel_rfl) (by kernel_rfl)
        refine op_store (wn rfl) rfl hr rfl (by kernel_rfl) (by kernel_rfl) (v := .int .i64 1) rfl rfl (by kernel_rfl) h (i := 7) rfl ?_; clear h; intro w h
        refine wpList_nil ?_
        replace h : Fit z (sepL (pts b3 (.cells #[.int .i64 p0, .int .i64 0, .int .i64 0, .int .i64 p4, .int .i64 p1.Base, .int .i64 p1.Frames, .int .i64 0, .int .i64 1, .int .i64 0] 78) :: ob36 b1 p1 :: pts b2 (.cells #[.int .i64 0, .int .i64 0, .int .i64 0, .int .i64 0, .int .i64 0, .int .i64 0, .int .i64 0, .int .i64 0, .int .i64 0] 78) :: L)) _ := h
        refine then_normal ?_
        refine wp_seq ?_
        refine wp_region_lit ?_
        refine op_val (wn rfl) rfl rfl hr (v := .agg #[.int .i64 p0, .int .i64 0, .int .i64 0, .int .i64 p4, .int .i64 p1.Base, .int .i64 p1.Frames, .int .i64 0, .int .i64 1, .int .i64 0]) (rlm (cs := [.int .i64 p0, .int .i64 0, .int .i64 0, .int .i64 p4, .int .i64 p1.Base, .int .i64 p1.Frames, .int .i64 0, .int .i64 1, .int .i64 0]) rfl (by kernel_rfl) (by kernel_rfl) (by kernel_rfl) ⟨h.cell 0 rfl, h.cell 1 rfl, h.cell 2 rfl, h.cell 3 rfl, h.cell 4 rfl, h.cell 5 rfl, h.cell 6 rfl, h.cell 7 rfl, h.cell 8 rfl, trivial⟩) ?_; clear hr a; intro a hr
        replace h : Fit z (sepL (pts b2 (.cells #[.int .i64 0, .int .i64 0, .int .i64 0, .int .i64 0, .int .i64 0, .int .i64 0, .int .i64 0, .int .i64 0, .int .i64 0] 78) :: pts b3 (.cells #[.int .i64 p0, .int .i64 0, .int .i64 0, .int .i64 p4, .int .i64 p1.Base, .int .i64 p1.Frames, .int .i64 0, .int .i64 1, .int .i64 0] 78) :: ob36 b1 p1 :: L)) _ := h.sel 3 [2, 0, 1] (by kernel_rfl) (by kernel_rfl)
        refine op_stores (wn rfl) rfl hr rfl (by kernel_rfl) (by kernel_rfl) (vs := [.int .i64 p0, .int .i64 0, .int .i64 0, .int .i64 p4, .int .i64 p1.Base, .int .i64 p1.Frames, .int .i64 0, .int .i64 1, .int .i64 0]) rfl rfl (by kernel_rfl) h (i := 0) (cs' := #[.int .i64 p0, .int .i64 0, .int .i64 0, .int .i64 p4, .int .i64 p1.Base, .int .i64 p1.Frames, .int .i64 0, .int .i64 1, .int .i64 0]) rfl ?_; clear h; intro w h
        refine wpList_nil ?_
        replace h : Fit z (sepL (pts b2 (.cells #[.int .i64 p0, .int .i64 0, .int .i64 0, .int .i64 p4, .int .i64 p1.Base, .int .i64 p1.Frames, .int .i64 0, .int .i64 1, .int .i64 0] 78) :: pts b3 (.cells #[.int .i64 p0, .int .i64 0, .int .i64 0, .int .i64 p4, .int .i64 p1.Base, .int .i64 p1.Frames, .int .i64 0, .int .i64 1, .int .i64 0] 78) :: ob36 b1 p1 :: L)) _ := h
        refine then_normal ?_
        refine wp_ret ?_
        refine then_ret ?_
        refine end_retC (cs := [.int .i64 p0, .int .i64 0, .int .i64 0, .int .i64 p4, .int .i64 p1.Base, .int .i64 p1.Frames, .int .i64 0, .int .i64 1, .int .i64 0]) rfl hr (by kernel_rfl) (by kernel_rfl) (by kernel_rfl) ⟨h.cell 0 rfl, h.cell 1 rfl, h.cell 2 rfl, h.cell 3 rfl, h.cell 4 rfl, h.cell 5 rfl, h.cell 6 rfl, h.cell 7 rfl, h.cell 8 rfl, trivial⟩ ?_
        replace H := jx0 H hK10
        replace h : Fit z (sepL (L)) _ := h.sel 3 [] (by kernel_rfl) (by kernel_rfl)
        replace H := ej1 H; subst H
        exact ⟨rfl, h⟩
      ·
        replace H := ifF c12 H
        refine op_val ((wg hr rfl rfl rfl (b' := (decide (p2 < (0 : Int)))) (by kernel_rfl)).trans (by rw [show (decide (p2 < (0 : Int))) = false from (decide_eq_false c12)]; rfl)) rfl rfl hr (v := .int .i64 p2) (by kernel_rfl) ?_; clear hr a; intro a hr
        refine op_val ((wg hr rfl rfl rfl (b' := (decide (p2 < (0 : Int)))) (by kernel_rfl)).trans (by rw [show (decide (p2 < (0 : Int))) = false from (decide_eq_false c12)]; rfl)) rfl rfl hr (v := .pointer (some ⟨b1, 1, none⟩)) (by kernel_rfl) ?_; clear hr a; intro a hr
        refine op_val ((wg hr rfl rfl rfl (b' := (decide (p2 < (0 : Int)))) (by kernel_rfl)).trans (by rw [show (decide (p2 < (0 : Int))) = false from (decide_eq_false c12)]; rfl)) rfl rfl hr (v := .int .i64 p1.Frames) (rl rfl (by kernel_rfl) (by kernel_rfl) (h.cell 1 rfl)) ?_; clear hr a; intro a hr
        refine op_val ((wg hr rfl rfl rfl (b' := (decide (p2 < (0 : Int)))) (by kernel_rfl)).trans (by rw [show (decide (p2 < (0 : Int))) = false from (decide_eq_false c12)]; rfl)) rfl rfl hr (v := .bool (decide (p2 ≥ p1.Frames))) (by kernel_rfl) ?_; clear hr a; intro a hr
        refine op_val (wn rfl) rfl rfl hr (v := .bool (decide (p2 ≥ p1.Frames))) (rp_f (b := (decide (p2 < (0 : Int)))) rfl (by kernel_rfl) (decide_eq_false c12) (by kernel_rfl)) ?_; clear hr a; intro a hr
        refine wpList_nil ?_
        refine then_normal ?_
        by_cases c13 : p2 ≥ p1.Frames
        ·
          replace H := ifT c13 H
          refine cond_tt hr (b := (decide (p2 ≥ p1.Frames))) (decide_eq_true c13) ?_
          refine wp_seq ?_
          refine wp_region_lit ?_
          refine ov hr (.pointer (some ⟨b3, 7, none⟩)) (by kernel_rfl) ?_; clear hr a; intro a hr
          replace h : Fit z (sepL (pts b3 (.cells #[.int .i64 p0, .int .i64 0, .int .i64 0, .int .i64 p4, .int .i64 p1.Base, .int .i64 p1.Frames, .int .i64 0, .int .i64 0, .int .i64 0] 78) :: ob36 b1 p1 :: pts b2 (.cells #[.int .i64 0, .int .i64 0, .int .i64 0, .int .i64 0, .int .i64 0, .int .i64 0, .int .i64 0, .int .i64 0, .int .i64 0] 78) :: L)) _ := h.sel 3 [2, 0, 1] (by kernel_rfl) (by kernel_rfl)
          refine op_store (wn rfl) rfl hr rfl (by kernel_rfl) (by kernel_rfl) (v := .int .i64 1) rfl rfl (by kernel_rfl) h (i := 7) rfl ?_; clear h; intro w h
          refine wpList_nil ?_
          replace h : Fit z (sepL (pts b3 (.cells #[.int .i64 p0, .int .i64 0, .int .i64 0, .int .i64 p4, .int .i64 p1.Base, .int .i64 p1.Frames, .int .i64 0, .int .i64 1, .int .i64 0] 78) :: ob36 b1 p1 :: pts b2 (.cells #[.int .i64 0, .int .i64 0, .int .i64 0, .int .i64 0, .int .i64 0, .int .i64 0, .int .i64 0, .int .i64 0, .int .i64 0] 78) :: L)) _ := h
          refine then_normal ?_
          refine wp_seq ?_
          refine wp_region_lit ?_
          refine op_val (wn rfl) rfl rfl hr (v := .agg #[.int .i64 p0, .int .i64 0, .int .i64 0, .int .i64 p4, .int .i64 p1.Base, .int .i64 p1.Frames, .int .i64 0, .int .i64 1, .int .i64 0]) (rlm (cs := [.int .i64 p0, .int .i64 0, .int .i64 0, .int .i64 p4, .int .i64 p1.Base, .int .i64 p1.Frames, .int .i64 0, .int .i64 1, .int .i64 0]) rfl (by kernel_rfl) (by kernel_rfl) (by kernel_rfl) ⟨h.cell 0 rfl, h.cell 1 rfl, h.cell 2 rfl, h.cell 3 rfl, h.cell 4 rfl, h.cell 5 rfl, h.cell 6 rfl, h.cell 7 rfl, h.cell 8 rfl, trivial⟩) ?_; clear hr a; intro a hr
          replace h : Fit z (sepL (pts b2 (.cells #[.int .i64 0, .int .i64 0, .int .i64 0, .int .i64 0, .int .i64 0, .int .i64 0, .int .i64 0, .int .i64 0, .int .i64 0] 78) :: pts b3 (.cells #[.int .i64 p0, .int .i64 0, .int .i64 0, .int .i64 p4, .int .i64 p1.Base, .int .i64 p1.Frames, .int .i64 0, .int .i64 1, .int .i64 0] 78) :: ob36 b1 p1 :: L)) _ := h.sel 3 [2, 0, 1] (by kernel_rfl) (by kernel_rfl)
          refine op_stores (wn rfl) rfl hr rfl (by kernel_rfl) (by kernel_rfl) (vs := [.int .i64 p0, .int .i64 0, .int .i64 0, .int .i64 p4, .int .i64 p1.Base, .int .i64 p1.Frames, .int .i64 0, .int .i64 1, .int .i64 0]) rfl rfl (by kernel_rfl) h (i := 0) (cs' := #[.int .i64 p0, .int .i64 0, .int .i64 0, .int .i64 p4, .int .i64 p1.Base, .int .i64 p1.Frames, .int .i64 0, .int .i64 1, .int .i64 0]) rfl ?_; clear h; intro w h
          refine wpList_nil ?_
          replace h : Fit z (sepL (pts b2 (.cells #[.int .i64 p0, .int .i64 0, .int .i64 0, .int .i64 p4, .int .i64 p1.Base, .int .i64 p1.Frames, .int .i64 0, .int .i64 1, .int .i64 0] 78) :: pts b3 (.cells #[.int .i64 p0, .int .i64 0, .int .i64 0, .int .i64 p4, .int .i64 p1.Base, .int .i64 p1.Frames, .int .i64 0, .int .i64 1, .int .i64 0] 78) :: ob36 b1 p1 :: L)) _ := h
          refine then_normal ?_
          refine wp_ret ?_
          refine then_ret ?_
          refine end_retC (cs := [.int .i64 p0, .int .i64 0, .int .i64 0, .int .i64 p4, .int .i64 p1.Base, .int .i64 p1.Frames, .int .i64 0, .int .i64 1, .int .i64 0]) rfl hr (by kernel_rfl) (by kernel_rfl) (by kernel_rfl) ⟨h.cell 0 rfl, h.cell 1 rfl, h.cell 2 rfl, h.cell 3 rfl, h.cell 4 rfl, h.cell 5 rfl, h.cell 6 rfl, h.cell 7 rfl, h.cell 8 rfl, trivial⟩ ?_
          replace H := jx0 H hK10
          replace h : Fit z (sepL (L)) _ := h.sel 3 [] (by kernel_rfl) (by kernel_rfl)
          replace H := ej1 H; subst H
          exact ⟨rfl, h⟩
        ·
          replace H := ifF c13 H
          refine cond_ff hr (b := (decide (p2 ≥ p1.Frames))) (decide_eq_false c13) ?_
          refine wp_skip ?_
          refine then_normal ?_
          replace hr := hr.fold2 [(0, .int .i64 p0), (2, .int .i64 p2), (3, .int .i64 p3), (6, .pointer (some ⟨b1, 0, none⟩)), (10, .pointer (some ⟨b2, 0, none⟩)), (11, .pointer (some ⟨b3, 0, none⟩))] (by kernel_rfl); obtain ⟨j, hr⟩ := hr
          exact ⟨(), sinj H, j, hr, h⟩
    clear h hr a; rintro _ a w ⟨rfl, j, hr, h⟩
    replace H := jk0 hK10
    replace H := kd1 H; obtain ⟨o16, H, hK15⟩ := H
    refine cut_rule (β := Unit) (fun _ a w => ∃ g14 : Bool, g14 = o16 ∧ ∃ j, Rep 79 (lk [(2, .int .i64 p2), (3, .int .i64 p3), (6, .pointer (some ⟨b1, 0, none⟩)), (10, .pointer (some ⟨b2, 0, none⟩)), (11, .pointer (some ⟨b3, 0, none⟩)), (12, .bool g14)] j) a ∧ Fit z (sepL (ob36 b1 p1 :: pts b2 (.cells #[.int .i64 0, .int .i64 0, .int .i64 0, .int .i64 0, .int .i64 0, .int .i64 0, .int .i64 0, .int .i64 0, .int .i64 0] 78) :: pts b3 (.cells #[.int .i64 p0, .int .i64 0, .int .i64 0, .int .i64 p4, .int .i64 p1.Base, .int .i64 p1.Frames, .int .i64 0, .int .i64 0, .int .i64 0] 78) :: L)) w) ?_ ?_
    ·
      refine wp_region_lit ?_
      refine ovs [48, 49, 50] [.int .i64 p0, .bool (p0 == (2 : Int)), .bool (p0 == (2 : Int))] hr ⟨rfl, rfl⟩ (by kernel_rfl) ?_; clear hr a; intro a hr
      by_cases c17 : p0 = (2 : Int)
      ·
        replace H := ifT c17 H
        refine op_off ((wg hr rfl rfl rfl (b' := (p0 == (2 : Int))) (by kernel_rfl)).trans (by rw [show (p0 == (2 : Int)) = true from (beq_iff_eq.mpr c17)]; rfl)) rfl rfl hr ?_; clear hr a; intro a hr
        refine op_off ((wg hr rfl rfl rfl (b' := (p0 == (2 : Int))) (by kernel_rfl)).trans (by rw [show (p0 == (2 : Int)) = true from (beq_iff_eq.mpr c17)]; rfl)) rfl rfl hr ?_; clear hr a; intro a hr
        refine op_val (wn rfl) rfl rfl hr (v := .bool true) (rp_t (b := (p0 == (2 : Int))) rfl (by kernel_rfl) (beq_iff_eq.mpr c17) (by kernel_rfl)) ?_; clear hr a; intro a hr
        refine ov hr (.bool true) (by kernel_rfl) ?_; clear hr a; intro a hr
        refine wpList_nil ?_
        refine then_normal ?_
        replace hr := hr.fold2 [(2, .int .i64 p2), (3, .int .i64 p3), (6, .pointer (some ⟨b1, 0, none⟩)), (10, .pointer (some ⟨b2, 0, none⟩)), (11, .pointer (some ⟨b3, 0, none⟩)), (12, .bool true)] (by kernel_rfl); obtain ⟨j, hr⟩ := hr
        exact ⟨(), true, sinj H, j, hr, h⟩
      ·
        replace H := ifF c17 H
        refine op_val ((wg hr rfl rfl rfl (b' := (p0 == (2 : Int))) (by kernel_rfl)).trans (by rw [show (p0 == (2 : Int)) = false from (beq_eq_false_iff_ne.mpr c17)]; rfl)) rfl rfl hr (v := .int .i64 p0) (by kernel_rfl) ?_; clear hr a; intro a hr
        refine op_val ((wg hr rfl rfl rfl (b' := (p0 == (2 : Int))) (by kernel_rfl)).trans (by rw [show (p0 == (2 : Int)) = false from (beq_eq_false_iff_ne.mpr c17)]; rfl)) rfl rfl hr (v := .bool (p0 == (5 : Int))) (by kernel_rfl) ?_; clear hr a; intro a hr
        refine op_val (wn rfl) rfl rfl hr (v := .bool (p0 == (5 : Int))) (rp_f (b := (p0 == (2 : Int))) rfl (by kernel_rfl) (beq_eq_false_iff_ne.mpr c17) (by kernel_rfl)) ?_; clear hr a; intro a hr
        refine ov hr (.bool (p0 == (5 : Int))) (by kernel_rfl) ?_; clear hr a; intro a hr
        refine wpList_nil ?_
        refine then_normal ?_
        replace hr := hr.fold2 [(2, .int .i64 p2), (3, .int .i64 p3), (6, .pointer (some ⟨b1, 0, none⟩)), (10, .pointer (some ⟨b2, 0, none⟩)), (11, .pointer (some ⟨b3, 0, none⟩)), (12, .bool (p0 == (5 : Int)))] (by kernel_rfl); obtain ⟨j, hr⟩ := hr
        exact ⟨(), (p0 == (5 : Int)), sinj H, j, hr, h⟩
    clear h hr a; rintro _ a w ⟨g14, rfl, j, hr, h⟩
    replace H := kk1 hK15
    replace H := jd0 H; obtain ⟨o19, H, hK18⟩ := H
    refine cut_rule (β := Unit) (fun _ a w => .inl () = o19 ∧ ∃ j, Rep 79 (lk [(2, .int .i64 p2), (3, .int .i64 p3), (6, .pointer (some ⟨b1, 0, none⟩)), (10, .pointer (some ⟨b2, 0, none⟩)), (11, .pointer (some ⟨b3, 0, none⟩))] j) a ∧ Fit z (sepL (ob36 b1 p1 :: pts b2 (.cells #[.int .i64 0, .int .i64 0, .int .i64 0, .int .i64 0, .int .i64 0, .int .i64 0, .int .i64 0, .int .i64 0, .int .i64 0] 78) :: pts b3 (.cells #[.int .i64 p0, .int .i64 0, .int .i64 0, .int .i64 p4, .int .i64 p1.Base, .int .i64 p1.Frames, .int .i64 0, .int .i64 0, .int .i64 0] 78) :: L)) w) ?_ ?_
    ·
      refine wp_seq ?_
      refine wp_region_lit ?_
      refine ovs [54, 55] [.bool g14, .bool g14] hr ⟨rfl, rfl⟩ (by kernel_rfl) ?_; clear hr a; intro a hr
      by_cases c20 : g14 = true
      ·
        replace H := ifT c20 H
        refine op_val ((wg hr rfl rfl rfl (b' := g14) (by kernel_rfl)).trans (by rw [show g14 = true from (c20)]; rfl)) rfl rfl hr (v := .int .i64 p3) (by kernel_rfl) ?_; clear hr a; intro a hr
        refine op_val ((wg hr rfl rfl rfl (b' := g14) (by kernel_rfl)).trans (by rw [show g14 = true from (c20)]; rfl)) rfl rfl hr (v := .bool (decide (p3 < (0 : Int)))) (by kernel_rfl) ?_; clear hr a; intro a hr
        refine op_val ((wg hr rfl rfl rfl (b' := g14) (by kernel_rfl)).trans (by rw [show g14 = true from (c20)]; rfl)) rfl rfl hr (v := .bool (decide (p3 < (0 : Int)))) (by kernel_rfl) ?_; clear hr a; intro a hr
        by_cases c21 : p3 < (0 : Int)
        ·
          replace H := ifT c21 H
          refine op_off ((wg hr rfl rfl rfl (b' := (decide (p3 < (0 : Int)))) (by kernel_rfl)).trans (by rw [show (decide (p3 < (0 : Int))) = true from (decide_eq_true c21)]; rfl)) rfl rfl hr ?_; clear hr a; intro a hr
          refine op_off ((wg hr rfl rfl rfl (b' := (decide (p3 < (0 : Int)))) (by kernel_rfl)).trans (by rw [show (decide (p3 < (0 : Int))) = true from (decide_eq_true c21)]; rfl)) rfl rfl hr ?_; clear hr a; intro a hr
          refine op_val ((wg hr rfl rfl rfl (b' := g14) (by kernel_rfl)).trans (by rw [show g14 = true from (c20)]; rfl)) rfl rfl hr (v := .bool true) (rp_t (b := (decide (p3 < (0 : Int)))) rfl (by kernel_rfl) (decide_eq_true c21) (by kernel_rfl)) ?_; clear hr a; intro a hr
          refine op_val (wn rfl) rfl rfl hr (v := .bool true) (rp_t (b := g14) rfl (by kernel_rfl) (c20) (by kernel_rfl)) ?_; clear hr a; intro a hr
          refine wpList_nil ?_
          refine then_normal ?_
          refine cond_tt hr (b := true) rfl ?_
          refine wp_seq ?_
          refine wp_region_lit ?_
          refine ov hr (.pointer (some ⟨b3, 7, none⟩)) (by kernel_rfl) ?_; clear hr a; intro a hr
          replace h : Fit z (sepL (pts b3 (.cells #[.int .i64 p0, .int .i64 0, .int .i64 0, .int .i64 p4, .int .i64 p1.Base, .int .i64 p1.Frames, .int .i64 0, .int .i64 0, .int .i64 0] 78) :: ob36 b1 p1 :: pts b2 (.cells #[.int .i64 0, .int .i64 0, .int .i64 0, .int .i64 0, .int .i64 0, .int .i64 0, .int .i64 0, .int .i64 0, .int .i64 0] 78) :: L)) _ := h.sel 3 [2, 0, 1] (by kernel_rfl) (by kernel_rfl)
          refine op_store (wn rfl) rfl hr rfl (by kernel_rfl) (by kernel_rfl) (v := .int .i64 1) rfl rfl (by kernel_rfl) h (i := 7) rfl ?_; clear h; intro w h
          refine wpList_nil ?_
          replace h : Fit z (sepL (pts b3 (.cells #[.int .i64 p0, .int .i64 0, .int .i64 0, .int .i64 p4, .int .i64 p1.Base, .int .i64 p1.Frames, .int .i64 0, .int .i64 1, .int .i64 0] 78) :: ob36 b1 p1 :: pts b2 (.cells #[.int .i64 0, .int .i64 0, .int .i64 0, .int .i64 0, .int .i64 0, .int .i64 0, .int .i64 0, .int .i64 0, .int .i64 0] 78) :: L)) _ := h
          refine then_normal ?_
          refine wp_seq ?_
          refine wp_region_lit ?_
          refine op_val (wn rfl) rfl rfl hr (v := .agg #[.int .i64 p0, .int .i64 0, .int .i64 0, .int .i64 p4, .int .i64 p1.Base, .int .i64 p1.Frames, .int .i64 0, .int .i64 1, .int .i64 0]) (rlm (cs := [.int .i64 p0, .int .i64 0, .int .i64 0, .int .i64 p4, .int .i64 p1.Base, .int .i64 p1.Frames, .int .i64 0, .int .i64 1, .int .i64 0]) rfl (by kernel_rfl) (by kernel_rfl) (by kernel_rfl) ⟨h.cell 0 rfl, h.cell 1 rfl, h.cell 2 rfl, h.cell 3 rfl, h.cell 4 rfl, h.cell 5 rfl, h.cell 6 rfl, h.cell 7 rfl, h.cell 8 rfl, trivial⟩) ?_; clear hr a; intro a hr
          replace h : Fit z (sepL (pts b2 (.cells #[.int .i64 0, .int .i64 0, .int .i64 0, .int .i64 0, .int .i64 0, .int .i64 0, .int .i64 0, .int .i64 0, .int .i64 0] 78) :: pts b3 (.cells #[.int .i64 p0, .int .i64 0, .int .i64 0, .int .i64 p4, .int .i64 p1.Base, .int .i64 p1.Frames, .int .i64 0, .int .i64 1, .int .i64 0] 78) :: ob36 b1 p1 :: L)) _ := h.sel 3 [2, 0, 1] (by kernel_rfl) (by kernel_rfl)
          refine op_stores (wn rfl) rfl hr rfl (by kernel_rfl) (by kernel_rfl) (vs := [.int .i64 p0, .int .i64 0, .int .i64 0, .int .i64 p4, .int .i64 p1.Base, .int .i64 p1.Frames, .int .i64 0, .int .i64 1, .int .i64 0]) rfl rfl (by kernel_rfl) h (i := 0) (cs' := #[.int .i64 p0, .int .i64 0, .int .i64 0, .int .i64 p4, .int .i64 p1.Base, .int .i64 p1.Frames, .int .i64 0, .int .i64 1, .int .i64 0]) rfl ?_; clear h; intro w h
          refine wpList_nil ?_
          replace h : Fit z (sepL (pts b2 (.cells #[.int .i64 p0, .int .i64 0, .int .i64 0, .int .i64 p4, .int .i64 p1.Base, .int .i64 p1.Frames, .int .i64 0, .int .i64 1, .int .i64 0] 78) :: pts b3 (.cells #[.int .i64 p0, .int .i64 0, .int .i64 0, .int .i64 p4, .int .i64 p1.Base, .int .i64 p1.Frames, .int .i64 0, .int .i64 1, .int .i64 0] 78) :: ob36 b1 p1 :: L)) _ := h
          refine then_normal ?_
          refine wp_ret ?_
          refine then_ret ?_
          refine end_retC (cs := [.int .i64 p0, .int .i64 0, .int .i64 0, .int .i64 p4, .int .i64 p1.Base, .int .i64 p1.Frames, .int .i64 0, .int .i64 1, .int .i64 0]) rfl hr (by kernel_rfl) (by kernel_rfl) (by kernel_rfl) ⟨h.cell 0 rfl, h.cell 1 rfl, h.cell 2 rfl, h.cell 3 rfl, h.cell 4 rfl, h.cell 5 rfl, h.cell 6 rfl, h.cell 7 rfl, h.cell 8 rfl, trivial⟩ ?_
          replace H := jx0 H hK18
          replace h : Fit z (sepL (L)) _ := h.sel 3 [] (by kernel_rfl) (by kernel_rfl)
          replace H := ej1 H; subst H
          exact ⟨rfl, h⟩
        ·
          replace H := ifF c21 H
          refine op_val ((wg hr rfl rfl rfl (b' := (decide (p3 < (0 : Int)))) (by kernel_rfl)).trans (by rw [show (decide (p3 < (0 : Int))) = false from (decide_eq_false c21)]; rfl)) rfl rfl hr (v := .int .i64 p3) (by kernel_rfl) ?_; clear hr a; intro a hr
          refine op_val ((wg hr rfl rfl rfl (b' := (decide (p3 < (0 : Int)))) (by kernel_rfl)).trans (by rw [show (decide (p3 < (0 : Int))) = false from (decide_eq_false c21)]; rfl)) rfl rfl hr (v := .bool (decide (p3 ≥ (8 : Int)))) (by kernel_rfl) ?_; clear hr a; intro a hr
          refine op_val ((wg hr rfl rfl rfl (b' := g14) (by kernel_rfl)).trans (by rw [show g14 = true from (c20)]; rfl)) rfl rfl hr (v := .bool (decide (p3 ≥ (8 : Int)))) (rp_f (b := (decide (p3 < (0 : Int)))) rfl (by kernel_rfl) (decide_eq_false c21) (by kernel_rfl)) ?_; clear hr a; intro a hr
          refine op_val (wn rfl) rfl rfl hr (v := .bool (decide (p3 ≥ (8 : Int)))) (rp_t (b := g14) rfl (by kernel_rfl) (c20) (by kernel_rfl)) ?_; clear hr a; intro a hr
          refine wpList_nil ?_
          refine then_normal ?_
          by_cases c22 : p3 ≥ (8 : Int)
          ·
            replace H := ifT c22 H
            refine cond_tt hr (b := (decide (p3 ≥ (8 : Int)))) (decide_eq_true c22) ?_
            refine wp_seq ?_
            refine wp_region_lit ?_
            refine ov hr (.pointer (some ⟨b3, 7, none⟩)) (by kernel_rfl) ?_; clear hr a; intro a hr
            replace h : Fit z (sepL (pts b3 (.cells #[.int .i64 p0, .int .i64 0, .int .i64 0, .int .i64 p4, .int .i64 p1.Base, .int .i64 p1.Frames, .int .i64 0, .int .i64 0, .int .i64 0] 78) :: ob36 b1 p1 :: pts b2 (.cells #[.int .i64 0, .int .i64 0, .int .i64 0, .int .i64 0, .int .i64 0, .int .i64 0, .int .i64 0, .int .i64 0, .int .i64 0] 78) :: L)) _ := h.sel 3 [2, 0, 1] (by kernel_rfl) (by kernel_rfl)
            refine op_store (wn rfl) rfl hr rfl (by kernel_rfl) (by kernel_rfl) (v := .int .i64 1) rfl rfl (by kernel_rfl) h (i := 7) rfl ?_; clear h; intro w h
            refine wpList_nil ?_
            replace h : Fit z (sepL (pts b3 (.cells #[.int .i64 p0, .int .i64 0, .int .i64 0, .int .i64 p4, .int .i64 p1.Base, .int .i64 p1.Frames, .int .i64 0, .int .i64 1, .int .i64 0] 78) :: ob36 b1 p1 :: pts b2 (.cells #[.int .i64 0, .int .i64 0, .int .i64 0, .int .i64 0, .int .i64 0, .int .i64 0, .int .i64 0, .int .i64 0, .int .i64 0] 78) :: L)) _ := h
            refine then_normal ?_
            refine wp_seq ?_
            refine wp_region_lit ?_
            refine op_val (wn rfl) rfl rfl hr (v := .agg #[.int .i64 p0, .int .i64 0, .int .i64 0, .int .i64 p4, .int .i64 p1.Base, .int .i64 p1.Frames, .int .i64 0, .int .i64 1, .int .i64 0]) (rlm (cs := [.int .i64 p0, .int .i64 0, .int .i64 0, .int .i64 p4, .int .i64 p1.Base, .int .i64 p1.Frames, .int .i64 0, .int .i64 1, .int .i64 0]) rfl (by kernel_rfl) (by kernel_rfl) (by kernel_rfl) ⟨h.cell 0 rfl, h.cell 1 rfl, h.cell 2 rfl, h.cell 3 rfl, h.cell 4 rfl, h.cell 5 rfl, h.cell 6 rfl, h.cell 7 rfl, h.cell 8 rfl, trivial⟩) ?_; clear hr a; intro a hr
            replace h : Fit z (sepL (pts b2 (.cells #[.int .i64 0, .int .i64 0, .int .i64 0, .int .i64 0, .int .i64 0, .int .i64 0, .int .i64 0, .int .i64 0, .int .i64 0] 78) :: pts b3 (.cells #[.int .i64 p0, .int .i64 0, .int .i64 0, .int .i64 p4, .int .i64 p1.Base, .int .i64 p1.Frames, .int .i64 0, .int .i64 1, .int .i64 0] 78) :: ob36 b1 p1 :: L)) _ := h.sel 3 [2, 0, 1] (by kernel_rfl) (by kernel_rfl)
            refine op_stores (wn rfl) rfl hr rfl (by kernel_rfl) (by kernel_rfl) (vs := [.int .i64 p0, .int .i64 0, .int .i64 0, .int .i64 p4, .int .i64 p1.Base, .int .i64 p1.Frames, .int .i64 0, .int .i64 1, .int .i64 0]) rfl rfl (by kernel_rfl) h (i := 0) (cs' := #[.int .i64 p0, .int .i64 0, .int .i64 0, .int .i64 p4, .int .i64 p1.Base, .int .i64 p1.Frames, .int .i64 0, .int .i64 1, .int .i64 0]) rfl ?_; clear h; intro w h
            refine wpList_nil ?_
            replace h : Fit z (sepL (pts b2 (.cells #[.int .i64 p0, .int .i64 0, .int .i64 0, .int .i64 p4, .int .i64 p1.Base, .int .i64 p1.Frames, .int .i64 0, .int .i64 1, .int .i64 0] 78) :: pts b3 (.cells #[.int .i64 p0, .int .i64 0, .int .i64 0, .int .i64 p4, .int .i64 p1.Base, .int .i64 p1.Frames, .int .i64 0, .int .i64 1, .int .i64 0] 78) :: ob36 b1 p1 :: L)) _ := h
            refine then_normal ?_
            refine wp_ret ?_
            refine then_ret ?_
            refine end_retC (cs := [.int .i64 p0, .int .i64 0, .int .i64 0, .int .i64 p4, .int .i64 p1.Base, .int .i64 p1.Frames, .int .i64 0, .int .i64 1, .int .i64 0]) rfl hr (by kernel_rfl) (by kernel_rfl) (by kernel_rfl) ⟨h.cell 0 rfl, h.cell 1 rfl, h.cell 2 rfl, h.cell 3 rfl, h.cell 4 rfl, h.cell 5 rfl, h.cell 6 rfl, h.cell 7 rfl, h.cell 8 rfl, trivial⟩ ?_
            replace H := jx0 H hK18
            replace h : Fit z (sepL (L)) _ := h.sel 3 [] (by kernel_rfl) (by kernel_rfl)
            replace H := ej1 H; subst H
            exact ⟨rfl, h⟩
          ·
            replace H := ifF c22 H
            refine cond_ff hr (b := (decide (p3 ≥ (8 : Int)))) (decide_eq_false c22) ?_
            refine wp_skip ?_
            refine then_normal ?_
            replace hr := hr.fold2 [(2, .int .i64 p2), (3, .int .i64 p3), (6, .pointer (some ⟨b1, 0, none⟩)), (10, .pointer (some ⟨b2, 0, none⟩)), (11, .pointer (some ⟨b3, 0, none⟩))] (by kernel_rfl); obtain ⟨j, hr⟩ := hr
            exact ⟨(), sinj H, j, hr, h⟩
      ·
        replace H := ifF c20 H
        refine op_off ((wg hr rfl rfl rfl (b' := g14) (by kernel_rfl)).trans (by rw [show g14 = false from (bF c20)]; rfl)) rfl rfl hr ?_; clear hr a; intro a hr
        refine op_off ((wg hr rfl rfl rfl (b' := g14) (by kernel_rfl)).trans (by rw [show g14 = false from (bF c20)]; rfl)) rfl rfl hr ?_; clear hr a; intro a hr
        refine op_off ((wg hr rfl rfl rfl (b' := g14) (by kernel_rfl)).trans (by rw [show g14 = false from (bF c20)]; rfl)) rfl rfl hr ?_; clear hr a; intro a hr
        refine op_off (wg_undef hr rfl rfl rfl (by kernel_rfl)) rfl rfl hr ?_; clear hr a; intro a hr
        refine op_off (wg_undef hr rfl rfl rfl (by kernel_rfl)) rfl rfl hr ?_; clear hr a; intro a hr
        refine op_off ((wg hr rfl rfl rfl (b' := g14) (by kernel_rfl)).trans (by rw [show g14 = false from (bF c20)]; rfl)) rfl rfl hr ?_; clear hr a; intro a hr
        refine op_val (wn rfl) rfl rfl hr (v := .bool false) (rp_f (b := g14) rfl (by kernel_rfl) (bF c20) (by kernel_rfl)) ?_; clear hr a; intro a hr
        refine wpList_nil ?_
        refine then_normal ?_
        refine cond_ff hr (b := false) rfl ?_
        refine wp_skip ?_
        refine then_normal ?_
        replace hr := hr.fold2 [(2, .int .i64 p2), (3, .int .i64 p3), (6, .pointer (some ⟨b1, 0, none⟩)), (10, .pointer (some ⟨b2, 0, none⟩)), (11, .pointer (some ⟨b3, 0, none⟩))] (by kernel_rfl); obtain ⟨j, hr⟩ := hr
        exact ⟨(), sinj H, j, hr, h⟩
    clear h hr a; rintro _ a w ⟨rfl, j, hr, h⟩
    replace H := jk0 hK18
    refine wp_seq ?_
    refine wp_region_lit ?_
    refine ov hr (.pointer (some ⟨b1, 0, none⟩)) (by kernel_rfl) ?_; clear hr a; intro a hr
    refine op_val (wn rfl) rfl rfl hr (v := .int .i64 p1.Base) (rl rfl (by kernel_rfl) (by kernel_rfl) (h.cell 0 rfl)) ?_; clear hr a; intro a hr
    refine ovs [67, 68, 69, 70, 71] [.int .i64 (wi (p1.Base + (1 : Int))), .int .i64 p2, .int .i64 (wi (p2 * (10 : Int))), .int .i64 (wi ((wi (p1.Base + (1 : Int))) + (wi (p2 * (10 : Int))))), .pointer (some ⟨b3, 1, none⟩)] hr ⟨rfl, rfl⟩ (by kernel_rfl) ?_; clear hr a; intro a hr
    replace h : Fit z (sepL (pts b3 (.cells #[.int .i64 p0, .int .i64 0, .int .i64 0, .int .i64 p4, .int .i64 p1.Base, .int .i64 p1.Frames, .int .i64 0, .int .i64 0, .int .i64 0] 78) :: ob36 b1 p1 :: pts b2 (.cells #[.int .i64 0, .int .i64 0, .int .i64 0, .int .i64 0, .int .i64 0, .int .i64 0, .int .i64 0, .int .i64 0, .int .i64 0] 78) :: L)) _ := h.sel 3 [2, 0, 1] (by kernel_rfl) (by kernel_rfl)
    refine op_store (wn rfl) rfl hr rfl (by kernel_rfl) (by kernel_rfl) (v := .int .i64 (wi ((wi (p1.Base + (1 : Int))) + (wi (p2 * (10 : Int)))))) rfl rfl (by kernel_rfl) h (i := 1) rfl ?_; clear h; intro w h
    refine wpList_nil ?_
    replace h : Fit z (sepL (pts b3 (.cells #[.int .i64 p0, .int .i64 (wi ((wi (p1.Base + (1 : Int))) + (wi (p2 * (10 : Int))))), .int .i64 0, .int .i64 p4, .int .i64 p1.Base, .int .i64 p1.Frames, .int .i64 0, .int .i64 0, .int .i64 0] 78) :: ob36 b1 p1 :: pts b2 (.cells #[.int .i64 0, .int .i64 0, .int .i64 0, .int .i64 0, .int .i64 0, .int .i64 0, .int .i64 0, .int .i64 0, .int .i64 0] 78) :: L)) _ := h
    refine then_normal ?_
    refine wp_seq ?_
    refine wp_region_lit ?_
    refine ov hr (.pointer (some ⟨b3, 1, none⟩)) (by kernel_rfl) ?_; clear hr a; intro a hr
    refine op_val (wn rfl) rfl rfl hr (v := .int .i64 (wi ((wi (p1.Base + (1 : Int))) + (wi (p2 * (10 : Int)))))) (rl rfl (by kernel_rfl) (by kernel_rfl) (h.cell 1 rfl)) ?_; clear hr a; intro a hr
    refine ovs [74, 75, 76, 77] [.int .i64 (wi ((wi ((wi (p1.Base + (1 : Int))) + (wi (p2 * (10 : Int))))) + (2 : Int))), .int .i64 p3, .int .i64 (wi ((wi ((wi ((wi (p1.Base + (1 : Int))) + (wi (p2 * (10 : Int))))) + (2 : Int))) + p3)), .pointer (some ⟨b3, 2, none⟩)] hr ⟨rfl, rfl⟩ (by kernel_rfl) ?_; clear hr a; intro a hr
    refine op_store (wn rfl) rfl hr rfl (by kernel_rfl) (by kernel_rfl) (v := .int .i64 (wi ((wi ((wi ((wi (p1.Base + (1 : Int))) + (wi (p2 * (10 : Int))))) + (2 : Int))) + p3))) rfl rfl (by kernel_rfl) h (i := 2) rfl ?_; clear h; intro w h
    refine wpList_nil ?_
    replace h : Fit z (sepL (pts b3 (.cells #[.int .i64 p0, .int .i64 (wi ((wi (p1.Base + (1 : Int))) + (wi (p2 * (10 : Int))))), .int .i64 (wi ((wi ((wi ((wi (p1.Base + (1 : Int))) + (wi (p2 * (10 : Int))))) + (2 : Int))) + p3)), .int .i64 p4, .int .i64 p1.Base, .int .i64 p1.Frames, .int .i64 0, .int .i64 0, .int .i64 0] 78) :: ob36 b1 p1 :: pts b2 (.cells #[.int .i64 0, .int .i64 0, .int .i64 0, .int .i64 0, .int .i64 0, .int .i64 0, .int .i64 0, .int .i64 0, .int .i64 0] 78) :: L)) _ := h
    refine then_normal ?_
    refine wp_seq ?_
    refine wp_region_lit ?_
    refine op_val (wn rfl) rfl rfl hr (v := .agg #[.int .i64 p0, .int .i64 (wi ((wi (p1.Base + (1 : Int))) + (wi (p2 * (10 : Int))))), .int .i64 (wi ((wi ((wi ((wi (p1.Base + (1 : Int))) + (wi (p2 * (10 : Int))))) + (2 : Int))) + p3)), .int .i64 p4, .int .i64 p1.Base, .int .i64 p1.Frames, .int .i64 0, .int .i64 0, .int .i64 0]) (rlm (cs := [.int .i64 p0, .int .i64 (wi ((wi (p1.Base + (1 : Int))) + (wi (p2 * (10 : Int))))), .int .i64 (wi ((wi ((wi ((wi (p1.Base + (1 : Int))) + (wi (p2 * (10 : Int))))) + (2 : Int))) + p3)), .int .i64 p4, .int .i64 p1.Base, .int .i64 p1.Frames, .int .i64 0, .int .i64 0, .int .i64 0]) rfl (by kernel_rfl) (by kernel_rfl) (by kernel_rfl) ⟨h.cell 0 rfl, h.cell 1 rfl, h.cell 2 rfl, h.cell 3 rfl, h.cell 4 rfl, h.cell 5 rfl, h.cell 6 rfl, h.cell 7 rfl, h.cell 8 rfl, trivial⟩) ?_; clear hr a; intro a hr
    replace h : Fit z (sepL (pts b2 (.cells #[.int .i64 0, .int .i64 0, .int .i64 0, .int .i64 0, .int .i64 0, .int .i64 0, .int .i64 0, .int .i64 0, .int .i64 0] 78) :: pts b3 (.cells #[.int .i64 p0, .int .i64 (wi ((wi (p1.Base + (1 : Int))) + (wi (p2 * (10 : Int))))), .int .i64 (wi ((wi ((wi ((wi (p1.Base + (1 : Int))) + (wi (p2 * (10 : Int))))) + (2 : Int))) + p3)), .int .i64 p4, .int .i64 p1.Base, .int .i64 p1.Frames, .int .i64 0, .int .i64 0, .int .i64 0] 78) :: ob36 b1 p1 :: L)) _ := h.sel 3 [2, 0, 1] (by kernel_rfl) (by kernel_rfl)
    refine op_stores (wn rfl) rfl hr rfl (by kernel_rfl) (by kernel_rfl) (vs := [.int .i64 p0, .int .i64 (wi ((wi (p1.Base + (1 : Int))) + (wi (p2 * (10 : Int))))), .int .i64 (wi ((wi ((wi ((wi (p1.Base + (1 : Int))) + (wi (p2 * (10 : Int))))) + (2 : Int))) + p3)), .int .i64 p4, .int .i64 p1.Base, .int .i64 p1.Frames, .int .i64 0, .int .i64 0, .int .i64 0]) rfl rfl (by kernel_rfl) h (i := 0) (cs' := #[.int .i64 p0, .int .i64 (wi ((wi (p1.Base + (1 : Int))) + (wi (p2 * (10 : Int))))), .int .i64 (wi ((wi ((wi ((wi (p1.Base + (1 : Int))) + (wi (p2 * (10 : Int))))) + (2 : Int))) + p3)), .int .i64 p4, .int .i64 p1.Base, .int .i64 p1.Frames, .int .i64 0, .int .i64 0, .int .i64 0]) rfl ?_; clear h; intro w h
    refine wpList_nil ?_
    replace h : Fit z (sepL (pts b2 (.cells #[.int .i64 p0, .int .i64 (wi ((wi (p1.Base + (1 : Int))) + (wi (p2 * (10 : Int))))), .int .i64 (wi ((wi ((wi ((wi (p1.Base + (1 : Int))) + (wi (p2 * (10 : Int))))) + (2 : Int))) + p3)), .int .i64 p4, .int .i64 p1.Base, .int .i64 p1.Frames, .int .i64 0, .int .i64 0, .int .i64 0] 78) :: pts b3 (.cells #[.int .i64 p0, .int .i64 (wi ((wi (p1.Base + (1 : Int))) + (wi (p2 * (10 : Int))))), .int .i64 (wi ((wi ((wi ((wi (p1.Base + (1 : Int))) + (wi (p2 * (10 : Int))))) + (2 : Int))) + p3)), .int .i64 p4, .int .i64 p1.Base, .int .i64 p1.Frames, .int .i64 0, .int .i64 0, .int .i64 0] 78) :: ob36 b1 p1 :: L)) _ := h
    refine then_normal ?_
    refine wp_ret ?_
    refine end_retC (cs := [.int .i64 p0, .int .i64 (wi ((wi (p1.Base + (1 : Int))) + (wi (p2 * (10 : Int))))), .int .i64 (wi ((wi ((wi ((wi (p1.Base + (1 : Int))) + (wi (p2 * (10 : Int))))) + (2 : Int))) + p3)), .int .i64 p4, .int .i64 p1.Base, .int .i64 p1.Frames, .int .i64 0, .int .i64 0, .int .i64 0]) rfl hr (by kernel_rfl) (by kernel_rfl) (by kernel_rfl) ⟨h.cell 0 rfl, h.cell 1 rfl, h.cell 2 rfl, h.cell 3 rfl, h.cell 4 rfl, h.cell 5 rfl, h.cell 6 rfl, h.cell 7 rfl, h.cell 8 rfl, trivial⟩ ?_
    replace h : Fit z (sepL (L)) _ := h.sel 3 [] (by kernel_rfl) (by kernel_rfl)
    replace H := ej1 H; subst H
    exact ⟨rfl, h⟩

/-- plunder/plunderlaw8.beginRef -/
def plunderlaw8_beginRef (p0 : T_plunderref8_Table) (p1 : T_plunderlaw8_Ask) : Option (T_plunderref8_Op) :=
  ob1 ((if p1.Odd = true then some (⟨p1.Base, p1.Frames⟩ : T_plunderref8_Table) else some p0)) (fun S4 => ob1 (plunderlaw8_mod p1.Kind 6) (fun r8 => ob1 (plunderref8_Begin r8 S4 p1.Frame p1.Slot p1.V) (fun r10 => some r10)))
set_option maxRecDepth 100000 in
set_option maxHeartbeats 4000000 in
theorem plunderlaw8_beginRef_ok {z w : World} {L : List HProp} {p0 : T_plunderref8_Table} {p1 : T_plunderlaw8_Ask} {r0 : T_plunderref8_Op} (H : plunderlaw8_beginRef p0 p1 = some r0) (h : Fit z (sepL (L)) w)  :
    Calls Try.prog 37 #[.agg #[.int .i64 p0.Base, .int .i64 p0.Frames], .agg #[.int .i64 p1.Kind, .int .i64 p1.Frame, .int .i64 p1.Slot, .int .i64 p1.V, .bool p1.Odd, .int .i64 p1.Base, .int .i64 p1.Frames]] w fun e w => e = .returned (.agg #[.int .i64 r0.Kind, .int .i64 r0.Join, .int .i64 r0.Cell, .int .i64 r0.V, .int .i64 r0.Next, .int .i64 r0.Frames, .int .i64 r0.Made, .int .i64 r0.Code, .int .i64 r0.Came]) ∧ Fit z (sepL (L)) w := by
  unfold plunderlaw8_beginRef at H
  refine enter Try.func37 rfl 23 rfl rfl [(0, .agg #[.int .i64 p0.Base, .int .i64 p0.Frames]), (1, .agg #[.int .i64 p1.Kind, .int .i64 p1.Frame, .int .i64 p1.Slot, .int .i64 p1.V, .bool p1.Odd, .int .i64 p1.Base, .int .i64 p1.Frames])] ⟨rfl, rfl, trivial⟩ ?_
  intro j a hr
  refine wp_seq ?_
  refine wp_region_lit ?_
  refine op_new (wn rfl) rfl rfl hr h (vf := fun b => .pointer (some ⟨b, 0, none⟩)) (cs := #[.int .i64 p0.Base, .int .i64 p0.Frames]) (T := 36) (by kernel_rfl) ?_; clear h hr a; intro b1 w a h hr
  refine op_new (wn rfl) rfl rfl hr h (vf := fun b => .pointer (some ⟨b, 0, none⟩)) (cs := #[.int .i64 p1.Kind, .int .i64 p1.Frame, .int .i64 p1.Slot, .int .i64 p1.V, .bool p1.Odd, .int .i64 p1.Base, .int .i64 p1.Frames]) (T := 76) (by kernel_rfl) ?_; clear h hr a; intro b2 w a h hr
  refine op_new (wn rfl) rfl rfl hr h (vf := fun b => .pointer (some ⟨b, 0, none⟩)) (cs := #[.int .i64 0, .int .i64 0, .int .i64 0, .int .i64 0, .int .i64 0, .int .i64 0, .int .i64 0, .int .i64 0, .int .i64 0]) (T := 78) (by kernel_rfl) ?_; clear h hr a; intro b3 w a h hr
  refine wpList_nil ?_
  refine then_normal ?_
  replace H := kd1 H; obtain ⟨o6, H, hK5⟩ := H
  refine cut_rule (β := Unit) (fun _ a w => ∃ S4 : T_plunderref8_Table, S4 = o6 ∧ ∃ j, Rep 23 (lk [(2, .pointer (some ⟨b1, 0, none⟩)), (3, .pointer (some ⟨b2, 0, none⟩)), (4, .pointer (some ⟨b3, 0, none⟩))] j) a ∧ Fit z (sepL (ob36 b1 S4 :: ob76 b2 p1 :: pts b3 (.cells #[.int .i64 0, .int .i64 0, .int .i64 0, .int .i64 0, .int .i64 0, .int .i64 0, .int .i64 0, .int .i64 0, .int .i64 0] 78) :: L)) w) ?_ ?_
  ·
    refine wp_seq ?_
    refine wp_region_lit ?_
    refine ov hr (.pointer (some ⟨b2, 4, none⟩)) (by kernel_rfl) ?_; clear hr a; intro a hr
    refine op_val (wn rfl) rfl rfl hr (v := .bool p1.Odd) (rl rfl (by kernel_rfl) (by kernel_rfl) ((h.pick 1).cell 4 rfl)) ?_; clear hr a; intro a hr
    refine wpList_nil ?_
    refine then_normal ?_
    by_cases c7 : p1.Odd = true
    ·
      replace H := ifT c7 H
      refine cond_tt hr (b := p1.Odd) (c7) ?_
      refine wp_region_lit ?_
      refine ov hr (.pointer (some ⟨b2, 5, none⟩)) (by kernel_rfl) ?_; clear hr a; intro a hr
      refine op_val (wn rfl) rfl rfl hr (v := .int .i64 p1.Base) (rl rfl (by kernel_rfl) (by kernel_rfl) ((h.pick 1).cell 5 rfl)) ?_; clear hr a; intro a hr
      refine ov hr (.pointer (some ⟨b2, 6, none⟩)) (by kernel_rfl) ?_; clear hr a; intro a hr
      refine op_val (wn rfl) rfl rfl hr (v := .int .i64 p1.Frames) (rl rfl (by kernel_rfl) (by kernel_rfl) ((h.pick 1).cell 6 rfl)) ?_; clear hr a; intro a hr
      refine ov hr (.agg #[.int .i64 p1.Base, .int .i64 p1.Frames]) (by kernel_rfl) ?_; clear hr a; intro a hr
      replace h : Fit z (sepL (ob36 b1 p0 :: pts b3 (.cells #[.int .i64 0, .int .i64 0, .int .i64 0, .int .i64 0, .int .i64 0, .int .i64 0, .int .i64 0, .int .i64 0, .int .i64 0] 78) :: ob76 b2 p1 :: L)) _ := h.sel 3 [2, 0, 1] (by kernel_rfl) (by kernel_rfl)
      refine op_stores (wn rfl) rfl hr rfl (by kernel_rfl) (by kernel_rfl) (vs := [.int .i64 p1.Base, .int .i64 p1.Frames]) rfl rfl (by kernel_rfl) h (i := 0) (cs' := #[.int .i64 p1.Base, .int .i64 p1.Frames]) rfl ?_; clear h; intro w h
      refine wpList_nil ?_
      replace h : Fit z (sepL (pts b1 (.cells #[.int .i64 p1.Base, .int .i64 p1.Frames] 36) :: pts b3 (.cells #[.int .i64 0, .int .i64 0, .int .i64 0, .int .i64 0, .int .i64 0, .int .i64 0, .int .i64 0, .int .i64 0, .int .i64 0] 78) :: ob76 b2 p1 :: L)) _ := h
      refine then_normal ?_
      replace hr := hr.fold2 [(2, .pointer (some ⟨b1, 0, none⟩)), (3, .pointer (some ⟨b2, 0, none⟩)), (4, .pointer (some ⟨b3, 0, none⟩))] (by kernel_rfl); obtain ⟨j, hr⟩ := hr
      replace h : Fit z (sepL (ob36 b1 (⟨p1.Base, p1.Frames⟩ : T_plunderref8_Table) :: ob76 b2 p1 :: pts b3 (.cells #[.int .i64 0, .int .i64 0, .int .i64 0, .int .i64 0, .int .i64 0, .int .i64 0, .int .i64 0, .int .i64 0, .int .i64 0] 78) :: L)) _ := h.sel 3 [0, 2, 1] (by kernel_rfl) (by kernel_rfl)
      exact ⟨(), (⟨p1.Base, p1.Frames⟩ : T_plunderref8_Table), sinj H, j, hr, h⟩
    ·
      replace H := ifF c7 H
      refine cond_ff hr (b := p1.Odd) (bF c7) ?_
      refine wp_skip ?_
      refine then_normal ?_
      replace hr := hr.fold2 [(2, .pointer (some ⟨b1, 0, none⟩)), (3, .pointer (some ⟨b2, 0, none⟩)), (4, .pointer (some ⟨b3, 0, none⟩))] (by kernel_rfl); obtain ⟨j, hr⟩ := hr
      replace h : Fit z (sepL (ob36 b1 p0 :: ob76 b2 p1 :: pts b3 (.cells #[.int .i64 0, .int .i64 0, .int .i64 0, .int .i64 0, .int .i64 0, .int .i64 0, .int .i64 0, .int .i64 0, .int .i64 0] 78) :: L)) _ := h.sel 3 [2, 1, 0] (by kernel_rfl) (by kernel_rfl)
      exact ⟨(), p0, sinj H, j, hr, h⟩
  clear h hr a; rintro _ a w ⟨S4, rfl, j, hr, h⟩
  replace H := kk1 hK5
  refine wp_seq ?_
  replace H := bd1 H; obtain ⟨r8, e9, H⟩ := H
  replace H := bd1 H; obtain ⟨r10, e11, H⟩ := H
  refine reg_E (fun w => heldC w b2 0 [.int .i64 p1.Kind] ∧ heldC w b1 0 [.int .i64 S4.Base, .int .i64 S4.Frames] ∧ heldC w b2 1 [.int .i64 p1.Frame] ∧ heldC w b2 2 [.int .i64 p1.Slot] ∧ heldC w b2 3 [.int .i64 p1.V] ∧ True) [0, 2, 4, 6, 8] h (by kernel_rfl) ?_; intro w h
  change wpAnyE _ _ _ _ _ _ 12 (Array.replicate 12 false) a w
  have hgo : ∀ w w', CellsGo w w' → (heldC w b2 0 [.int .i64 p1.Kind] ∧ heldC w b1 0 [.int .i64 S4.Base, .int .i64 S4.Frames] ∧ heldC w b2 1 [.int .i64 p1.Frame] ∧ heldC w b2 2 [.int .i64 p1.Slot] ∧ heldC w b2 3 [.int .i64 p1.V] ∧ True) → heldC w' b2 0 [.int .i64 p1.Kind] ∧ heldC w' b1 0 [.int .i64 S4.Base, .int .i64 S4.Frames] ∧ heldC w' b2 1 [.int .i64 p1.Frame] ∧ heldC w' b2 2 [.int .i64 p1.Slot] ∧ heldC w' b2 3 [.int .i64 p1.V] ∧ True := fun w w' g hD => ⟨heldC_go _ _ _ _ _ g hD.1, heldC_go _ _ _ _ _ g hD.2.1, heldC_go _ _ _ _ _ g hD.2.2.1, heldC_go _ _ _ _ _ g hD.2.2.2.1, heldC_go _ _ _ _ _ g hD.2.2.2.2.1, trivial⟩
  refine evD hgo ⟨⟨(h.pick 1).cell 0 rfl, trivial⟩, ⟨h.cell 0 rfl, h.cell 1 rfl, trivial⟩, ⟨(h.pick 1).cell 1 rfl, trivial⟩, ⟨(h.pick 1).cell 2 rfl, trivial⟩, ⟨(h.pick 1).cell 3 rfl, trivial⟩, trivial⟩ 11 0 rfl (by kernel_rfl) (wn rfl) hr (.pointer (some ⟨b2, 0, none⟩)) (fun w => by kernel_rfl) ?_; clear hr a; intro a hr
  refine evD hgo ⟨⟨(h.pick 1).cell 0 rfl, trivial⟩, ⟨h.cell 0 rfl, h.cell 1 rfl, trivial⟩, ⟨(h.pick 1).cell 1 rfl, trivial⟩, ⟨(h.pick 1).cell 2 rfl, trivial⟩, ⟨(h.pick 1).cell 3 rfl, trivial⟩, trivial⟩ 10 4 rfl (by kernel_rfl) (wn rfl) hr (.pointer (some ⟨b2, 1, none⟩)) (fun w => by kernel_rfl) ?_; clear hr a; intro a hr
  refine evD hgo ⟨⟨(h.pick 1).cell 0 rfl, trivial⟩, ⟨h.cell 0 rfl, h.cell 1 rfl, trivial⟩, ⟨(h.pick 1).cell 1 rfl, trivial⟩, ⟨(h.pick 1).cell 2 rfl, trivial⟩, ⟨(h.pick 1).cell 3 rfl, trivial⟩, trivial⟩ 9 6 rfl (by kernel_rfl) (wn rfl) hr (.pointer (some ⟨b2, 2, none⟩)) (fun w => by kernel_rfl) ?_; clear hr a; intro a hr
  refine evD hgo ⟨⟨(h.pick 1).cell 0 rfl, trivial⟩, ⟨h.cell 0 rfl, h.cell 1 rfl, trivial⟩, ⟨(h.pick 1).cell 1 rfl, trivial⟩, ⟨(h.pick 1).cell 2 rfl, trivial⟩, ⟨(h.pick 1).cell 3 rfl, trivial⟩, trivial⟩ 8 8 rfl (by kernel_rfl) (wn rfl) hr (.pointer (some ⟨b2, 3, none⟩)) (fun w => by kernel_rfl) ?_; clear hr a; intro a hr
  refine el [0, 2, 4, 6, 8] (b := b2) (off := 0) (cs := [.int .i64 p1.Kind]) (fun _ hk => ⟨hk, fun w hD => hD.1⟩) 7 1 rfl (by kernel_rfl) (wn rfl) hr (.int .i64 p1.Kind) ⟨(h.pick 1).cell 0 rfl, trivial⟩ (fun w hc => rl rfl (by kernel_rfl) (by kernel_rfl) hc.1) ?_; clear hr a; intro a hr
  refine el [0, 2, 4, 6, 8] (b := b1) (off := 0) (cs := [.int .i64 S4.Base, .int .i64 S4.Frames]) (fun _ hk => ⟨hk, fun w hD => hD.2.1⟩) 6 3 rfl (by kernel_rfl) (wn rfl) hr (.agg #[.int .i64 S4.Base, .int .i64 S4.Frames]) ⟨h.cell 0 rfl, h.cell 1 rfl, trivial⟩ (fun w hc => rlm (cs := [.int .i64 S4.Base, .int .i64 S4.Frames]) rfl (by kernel_rfl) (by kernel_rfl) (by kernel_rfl) hc) ?_; clear hr a; intro a hr
  refine el [0, 2, 4, 6, 8] (b := b2) (off := 1) (cs := [.int .i64 p1.Frame]) (fun _ hk => ⟨hk, fun w hD => hD.2.2.1⟩) 5 5 rfl (by kernel_rfl) (wn rfl) hr (.int .i64 p1.Frame) ⟨(h.pick 1).cell 1 rfl, trivial⟩ (fun w hc => rl rfl (by kernel_rfl) (by kernel_rfl) hc.1) ?_; clear hr a; intro a hr
  refine el [0, 2, 4, 6, 8] (b := b2) (off := 2) (cs := [.int .i64 p1.Slot]) (fun _ hk => ⟨hk, fun w hD => hD.2.2.2.1⟩) 4 7 rfl (by kernel_rfl) (wn rfl) hr (.int .i64 p1.Slot) ⟨(h.pick 1).cell 2 rfl, trivial⟩ (fun w hc => rl rfl (by kernel_rfl) (by kernel_rfl) hc.1) ?_; clear hr a; intro a hr
  refine el [0, 2, 4, 6, 8] (b := b2) (off := 3) (cs := [.int .i64 p1.V]) (fun _ hk => ⟨hk, fun w hD => hD.2.2.2.2.1⟩) 3 9 rfl (by kernel_rfl) (wn rfl) hr (.int .i64 p1.V) ⟨(h.pick 1).cell 3 rfl, trivial⟩ (fun w hc => rl rfl (by kernel_rfl) (by kernel_rfl) hc.1) ?_; clear hr a; intro a hr
  refine e_one (fuel := 2) (i := 2) (by kernel_rfl) rfl ?_
  have hc := plunderlaw8_mod_ok (H := e9) (h := h)
  refine op_call (wn rfl) rfl rfl hr (f := 29) (args := #[.int .i64 p1.Kind, .int .i64 6]) (by kernel_rfl) hc ?_; clear hc h
  rintro _ w ⟨rfl, h⟩; refine ⟨_, rfl, ?_⟩
  clear hr a; intro a hr
  refine wpList_nil ?_; refine then_normal ?_
  refine ⟨fun _ => ⟨⟨(h.pick 1).cell 0 rfl, trivial⟩, ⟨h.cell 0 rfl, h.cell 1 rfl, trivial⟩, ⟨(h.pick 1).cell 1 rfl, trivial⟩, ⟨(h.pick 1).cell 2 rfl, trivial⟩, ⟨(h.pick 1).cell 3 rfl, trivial⟩, trivial⟩, ?_⟩
  refine e_one (fuel := 1) (i := 10) (by kernel_rfl) rfl ?_
  have hc := plunderref8_Begin_ok (H := e11) (h := h)
  refine op_call (wn rfl) rfl rfl hr (f := 65) (args := #[.int .i64 r8, .agg #[.int .i64 S4.Base, .int .i64 S4.Frames], .int .i64 p1.Frame, .int .i64 p1.Slot, .int .i64 p1.V]) (by kernel_rfl) hc ?_; clear hc h
  rintro _ w ⟨rfl, h⟩; refine ⟨_, rfl, ?_⟩
  clear hr a; intro a hr
  refine wpList_nil ?_; refine then_normal ?_
  refine ⟨fun hE => absurd hE (by decide), ?_⟩
  refine e_one (fuel := 0) (i := 11) (by kernel_rfl) rfl ?_
  replace h : Fit z (sepL (pts b3 (.cells #[.int .i64 0, .int .i64 0, .int .i64 0, .int .i64 0, .int .i64 0, .int .i64 0, .int .i64 0, .int .i64 0, .int .i64 0] 78) :: ob36 b1 S4 :: ob76 b2 p1 :: L)) _ := h.sel 3 [2, 0, 1] (by kernel_rfl) (by kernel_rfl)
  refine op_stores (wn rfl) rfl hr rfl (by kernel_rfl) (by kernel_rfl) (vs := [.int .i64 r10.Kind, .int .i64 r10.Join, .int .i64 r10.Cell, .int .i64 r10.V, .int .i64 r10.Next, .int .i64 r10.Frames, .int .i64 r10.Made, .int .i64 r10.Code, .int .i64 r10.Came]) rfl rfl (by kernel_rfl) h (i := 0) (cs' := #[.int .i64 r10.Kind, .int .i64 r10.Join, .int .i64 r10.Cell, .int .i64 r10.V, .int .i64 r10.Next, .int .i64 r10.Frames, .int .i64 r10.Made, .int .i64 r10.Code, .int .i64 r10.Came]) rfl ?_; clear h; intro w h
  refine wpList_nil ?_; refine then_normal ?_
  replace h : Fit z (sepL (ob78 b3 r10 :: ob36 b1 S4 :: ob76 b2 p1 :: L)) _ := h
  refine ⟨fun hE => absurd hE (by decide), ?_⟩
  refine e_end (by kernel_rfl) ?_
  refine then_normal ?_
  refine wp_ret ?_
  refine end_retC (cs := [.int .i64 r10.Kind, .int .i64 r10.Join, .int .i64 r10.Cell, .int .i64 r10.V, .int .i64 r10.Next, .int .i64 r10.Frames, .int .i64 r10.Made, .int .i64 r10.Code, .int .i64 r10.Came]) rfl hr (by kernel_rfl) (by kernel_rfl) (by kernel_rfl) ⟨h.cell 0 rfl, h.cell 1 rfl, h.cell 2 rfl, h.cell 3 rfl, h.cell 4 rfl, h.cell 5 rfl, h.cell 6 rfl, h.cell 7 rfl, h.cell 8 rfl, trivial⟩ ?_
  replace h : Fit z (sepL (L)) _ := h.sel 3 [] (by kernel_rfl) (by kernel_rfl)
  replace H := ej1 H; subst H
  exact ⟨rfl, h⟩

/-- plunder/frames.Answer -/
def frames_Answer (p0 : T_frames_Op) : Option (Int × Int) :=
  (if p0 = (⟨0, 0, 0, 0, 0, 0, 0, 0, 0⟩ : T_frames_Op) then some (1, 0) else (if p0.head_stands > (0 : Int) then some (0, 0) else some (p0.head_code, p0.head_v)))
set_option maxRecDepth 100000 in
set_option maxHeartbeats 4000000 in
theorem frames_Answer_ok {z w : World} {L : List HProp} {p0 : T_frames_Op} {r0 : Int} {r1 : Int} (H : frames_Answer p0 = some (r0, r1)) (h : Fit z (sepL (L)) w)  :
    Calls Try.prog 26 #[.agg #[.int .i64 p0.head_t_Base, .int .i64 p0.head_t_Frames, .int .i64 p0.head_frame, .int .i64 p0.head_stands, .int .i64 p0.head_code, .int .i64 p0.head_v, .int .i64 p0.kind, .int .i64 p0.slot, .int .i64 p0.give]] w fun e w => e = .returned (.tuple #[.int .i64 r0, .int .i64 r1]) ∧ Fit z (sepL (L)) w := by
  unfold frames_Answer at H
  refine enter Try.func26 rfl 17 rfl rfl [(0, .agg #[.int .i64 p0.head_t_Base, .int .i64 p0.head_t_Frames, .int .i64 p0.head_frame, .int .i64 p0.head_stands, .int .i64 p0.head_code, .int .i64 p0.head_v, .int .i64 p0.kind, .int .i64 p0.slot, .int .i64 p0.give])] ⟨rfl, trivial⟩ ?_
  intro j a hr
  refine wp_seq ?_
  refine wp_region_lit ?_
  refine op_new (wn rfl) rfl rfl hr h (vf := fun b => .pointer (some ⟨b, 0, none⟩)) (cs := #[.int .i64 p0.head_t_Base, .int .i64 p0.head_t_Frames, .int .i64 p0.head_frame, .int .i64 p0.head_stands, .int .i64 p0.head_code, .int .i64 p0.head_v, .int .i64 p0.kind, .int .i64 p0.slot, .int .i64 p0.give]) (T := 50) (by kernel_rfl) ?_; clear h hr a; intro b1 w a h hr
  refine ovs [2, 3] [.int .i64 0, .int .i64 0] hr ⟨rfl, rfl⟩ (by kernel_rfl) ?_; clear hr a; intro a hr
  refine wpList_nil ?_
  refine then_normal ?_
  refine wp_seq ?_
  refine wp_seq ?_
  refine wp_region_lit ?_
  refine op_val (wn rfl) rfl rfl hr (v := .agg #[.int .i64 p0.head_t_Base, .int .i64 p0.head_t_Frames, .int .i64 p0.head_frame, .int .i64 p0.head_stands, .int .i64 p0.head_code, .int .i64 p0.head_v, .int .i64 p0.kind, .int .i64 p0.slot, .int .i64 p0.give]) (rlm (cs := [.int .i64 p0.head_t_Base, .int .i64 p0.head_t_Frames, .int .i64 p0.head_frame, .int .i64 p0.head_stands, .int .i64 p0.head_code, .int .i64 p0.head_v, .int .i64 p0.kind, .int .i64 p0.slot, .int .i64 p0.give]) rfl (by kernel_rfl) (by kernel_rfl) (by kernel_rfl) ⟨h.cell 0 rfl, h.cell 1 rfl, h.cell 2 rfl, h.cell 3 rfl, h.cell 4 rfl, h.cell 5 rfl, h.cell 6 rfl, h.cell 7 rfl, h.cell 8 rfl, trivial⟩) ?_; clear hr a; intro a hr
  refine ov hr (.agg #[.int .i64 0, .int .i64 0, .int .i64 0, .int .i64 0, .int .i64 0, .int .i64 0, .int .i64 0, .int .i64 0, .int .i64 0]) (by kernel_rfl) ?_; clear hr a; intro a hr
  refine op_val (wn rfl) rfl rfl hr (v := .bool (decide (p0 = (⟨0, 0, 0, 0, 0, 0, 0, 0, 0⟩ : T_frames_Op)))) (rb (reqd rfl (by kernel_rfl) (by kernel_rfl) (by kernel_rfl) (by kernel_rfl) (by kernel_rfl) (by kernel_rfl)) (eq_T_frames_Op p0 (⟨0, 0, 0, 0, 0, 0, 0, 0, 0⟩ : T_frames_Op))) ?_; clear hr a; intro a hr
  refine wpList_nil ?_
  refine then_normal ?_
  by_cases c2 : p0 = (⟨0, 0, 0, 0, 0, 0, 0, 0, 0⟩ : T_frames_Op)
  ·
    replace H := ifT c2 H
    refine cond_tt hr (b := (decide (p0 = (⟨0, 0, 0, 0, 0, 0, 0, 0, 0⟩ : T_frames_Op)))) (decide_eq_true c2) ?_
    refine wp_seq ?_
    refine wp_region_lit ?_
    refine ovs [2, 3] [.int .i64 1, .int .i64 0] hr ⟨rfl, rfl⟩ (by kernel_rfl) ?_; clear hr a; intro a hr
    refine wpList_nil ?_
    refine then_normal ?_
    refine wp_ret ?_
    refine then_ret ?_
    refine end_ret2 (v := .int .i64 1) (v' := .int .i64 0) rfl hr (by kernel_rfl) (by kernel_rfl) ?_
    replace h : Fit z (sepL (L)) _ := h.sel 1 [] (by kernel_rfl) (by kernel_rfl)
    replace H := ej2 H; obtain ⟨rfl, rfl⟩ := H
    exact ⟨rfl, h⟩
  ·
    replace H := ifF c2 H
    refine cond_ff hr (b := (decide (p0 = (⟨0, 0, 0, 0, 0, 0, 0, 0, 0⟩ : T_frames_Op)))) (decide_eq_false c2) ?_
    refine wp_skip ?_
    refine then_normal ?_
    refine wp_seq ?_
    refine wp_seq ?_
    refine wp_region_lit ?_
    refine ovs [7, 8] [.pointer (some ⟨b1, 0, none⟩), .pointer (some ⟨b1, 3, none⟩)] hr ⟨rfl, rfl⟩ (by kernel_rfl) ?_; clear hr a; intro a hr
    refine op_val (wn rfl) rfl rfl hr (v := .int .i64 p0.head_stands) (rl rfl (by kernel_rfl) (by kernel_rfl) (h.cell 3 rfl)) ?_; clear hr a; intro a hr
    refine ov hr (.bool (decide (p0.head_stands > (0 : Int)))) (by kernel_rfl) ?_; clear hr a; intro a hr
    refine wpList_nil ?_
    refine then_normal ?_
    by_cases c3 : p0.head_stands > (0 : Int)
    ·
      replace H := ifT c3 H
      refine cond_tt hr (b := (decide (p0.head_stands > (0 : Int)))) (decide_eq_true c3) ?_
      refine wp_seq ?_
      refine wp_region_lit ?_
      refine ovs [2, 3] [.int .i64 0, .int .i64 0] hr ⟨rfl, rfl⟩ (by kernel_rfl) ?_; clear hr a; intro a hr
      refine wpList_nil ?_
      refine then_normal ?_
      refine wp_ret ?_
      refine then_ret ?_
      refine end_ret2 (v := .int .i64 0) (v' := .int .i64 0) rfl hr (by kernel_rfl) (by kernel_rfl) ?_
      replace h : Fit z (sepL (L)) _ := h.sel 1 [] (by kernel_rfl) (by kernel_rfl)
      replace H := ej2 H; obtain ⟨rfl, rfl⟩ := H
      exact ⟨rfl, h⟩
    ·
      replace H := ifF c3 H
      refine cond_ff hr (b := (decide (p0.head_stands > (0 : Int)))) (decide_eq_false c3) ?_
      refine wp_skip ?_
      refine then_normal ?_
      refine wp_seq ?_
      refine reg_E (fun w => heldC w b1 4 [.int .i64 p0.head_code] ∧ heldC w b1 5 [.int .i64 p0.head_v] ∧ True) [0, 1, 3, 4] h (by kernel_rfl) ?_; intro w h
      change wpAnyE _ _ _ _ _ _ 8 (Array.replicate 8 false) a w
      have hgo : ∀ w w', CellsGo w w' → (heldC w b1 4 [.int .i64 p0.head_code] ∧ heldC w b1 5 [.int .i64 p0.head_v] ∧ True) → heldC w' b1 4 [.int .i64 p0.head_code] ∧ heldC w' b1 5 [.int .i64 p0.head_v] ∧ True := fun w w' g hD => ⟨heldC_go _ _ _ _ _ g hD.1, heldC_go _ _ _ _ _ g hD.2.1, trivial⟩
      refine evD hgo ⟨⟨h.cell 4 rfl, trivial⟩, ⟨h.cell 5 rfl, trivial⟩, trivial⟩ 7 0 rfl (by kernel_rfl) (wn rfl) hr (.pointer (some ⟨b1, 0, none⟩)) (fun w => by kernel_rfl) ?_; clear hr a; intro a hr
      refine evD hgo ⟨⟨h.cell 4 rfl, trivial⟩, ⟨h.cell 5 rfl, trivial⟩, trivial⟩ 6 1 rfl (by kernel_rfl) (wn rfl) hr (.pointer (some ⟨b1, 4, none⟩)) (fun w => by kernel_rfl) ?_; clear hr a; intro a hr
      refine evD hgo ⟨⟨h.cell 4 rfl, trivial⟩, ⟨h.cell 5 rfl, trivial⟩, trivial⟩ 5 3 rfl (by kernel_rfl) (wn rfl) hr (.pointer (some ⟨b1, 0, none⟩)) (fun w => by kernel_rfl) ?_; clear hr a; intro a hr
      refine evD hgo ⟨⟨h.cell 4 rfl, trivial⟩, ⟨h.cell 5 rfl, trivial⟩, trivial⟩ 4 4 rfl (by kernel_rfl) (wn rfl) hr (.pointer (some ⟨b1, 5, none⟩)) (fun w => by kernel_rfl) ?_; clear hr a; intro a hr
      refine el [0, 1, 3, 4] (b := b1) (off := 4) (cs := [.int .i64 p0.head_code]) (fun _ hk => ⟨hk, fun w hD => hD.1⟩) 3 2 rfl (by kernel_rfl) (wn rfl) hr (.int .i64 p0.head_code) ⟨h.cell 4 rfl, trivial⟩ (fun w hc => rl rfl (by kernel_rfl) (by kernel_rfl) hc.1) ?_; clear hr a; intro a hr
      refine ev 2 6 rfl (by kernel_rfl) (wn rfl) hr (.int .i64 p0.head_code) (fun w => by kernel_rfl) ?_; clear hr a; intro a hr
      refine el [0, 1, 3, 4] (b := b1) (off := 5) (cs := [.int .i64 p0.head_v]) (fun _ hk => ⟨hk, fun w hD => hD.2.1⟩) 1 5 rfl (by kernel_rfl) (wn rfl) hr (.int .i64 p0.head_v) ⟨h.cell 5 rfl, trivial⟩ (fun w hc => rl rfl (by kernel_rfl) (by kernel_rfl) hc.1) ?_; clear hr a; intro a hr
      refine ev 0 7 rfl (by kernel_rfl) (wn rfl) hr (.int .i64 p0.head_v) (fun w => by kernel_rfl) ?_; clear hr a; intro a hr
      refine e_end (by kernel_rfl) ?_
      refine then_normal ?_
      refine wp_ret ?_
      refine end_ret2 (v := .int .i64 p0.head_code) (v' := .int .i64 p0.head_v) rfl hr (by kernel_rfl) (by kernel_rfl) ?_
      replace h : Fit z (sepL (L)) _ := h.sel 1 [] (by kernel_rfl) (by kernel_rfl)
      replace H := ej2 H; obtain ⟨rfl, rfl⟩ := H
      exact ⟨rfl, h⟩


end Go.Proofs.Ytnghahgfcaolbaa.Mo
