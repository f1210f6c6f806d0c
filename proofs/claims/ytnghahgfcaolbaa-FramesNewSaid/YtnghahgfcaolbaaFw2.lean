/- what the functions compute, as plain Lean functions, and that they do -/
import Derived.Test.YtnghahgfcaolbaaFw1
namespace Go.Proofs.Ytnghahgfcaolbaa.Mo
open Go Go.RowKit Go.Proofs.Ytnghahgfcaolbaa.SL Go.Proofs.Ytnghahgfcaolbaa.GX
set_option linter.unusedVariables false
set_option linter.unusedSimpArgs false

/-- (*plunder/cells.ledger).has -/
def cells_ledger_has (p0 : T_cells_Arena) (p1 : Int) : Option (Bool) :=
  (if p1 ≥ (0 : Int) then some (decide (p1 < p0.ledger_mark)) else some false)
set_option maxRecDepth 100000 in
set_option maxHeartbeats 4000000 in
theorem cells_ledger_has_ok {z w : World} {L : List HProp} {p0 : T_cells_Arena} {p1 : Int} {B0 : Nat} {ca1 : Option Addr} {cc2 : Nat} {ca3 : Option Addr} {cc4 : Nat} {r0 : Bool} (H : cells_ledger_has p0 p1 = some r0) (h : Fit z (sepL (ob103 B0 p0 ca1 cc2 ca3 cc4 :: ro2 ca1 cc2 p0.cell :: ro96 ca3 cc4 p0.log :: L)) w)  :
    Calls Try.prog 127 #[.pointer (some ⟨B0, 0, none⟩), .int .i64 p1] w fun e w => e = .returned (.bool r0) ∧ Fit z (sepL (ob103 B0 p0 ca1 cc2 ca3 cc4 :: ro2 ca1 cc2 p0.cell :: ro96 ca3 cc4 p0.log :: L)) w := by
  unfold cells_ledger_has at H
  refine enter Try.func127 rfl 15 rfl rfl [(0, .pointer (some ⟨B0, 0, none⟩)), (1, .int .i64 p1)] ⟨rfl, rfl, trivial⟩ ?_
  intro j a hr
  refine wp_seq ?_
  refine wp_region_lit ?_
  refine ov hr (.bool false) (by kernel_rfl) ?_; clear hr a; intro a hr
  refine wpList_nil ?_
  refine then_normal ?_
  refine wp_seq ?_
  refine wp_region_lit ?_
  refine ovs [5, 6, 7] [.int .i64 p1, .bool (decide (p1 ≥ (0 : Int))), .bool (decide (p1 ≥ (0 : Int)))] hr ⟨rfl, rfl⟩ (by kernel_rfl) ?_; clear hr a; intro a hr
  by_cases c5 : p1 ≥ (0 : Int)
  ·
    replace H := ifT c5 H
    refine op_val ((wg hr rfl rfl rfl (b' := (decide (p1 ≥ (0 : Int)))) (by kernel_rfl)).trans (by rw [show (decide (p1 ≥ (0 : Int))) = true from (decide_eq_true c5)]; rfl)) rfl rfl hr (v := .int .i64 p1) (by kernel_rfl) ?_; clear hr a; intro a hr
    refine op_val ((wg hr rfl rfl rfl (b' := (decide (p1 ≥ (0 : Int)))) (by kernel_rfl)).trans (by rw [show (decide (p1 ≥ (0 : Int))) = true from (decide_eq_true c5)]; rfl)) rfl rfl hr (v := .pointer (some ⟨B0, 0, none⟩)) (by kernel_rfl) ?_; clear hr a; intro a hr
    refine op_val ((wg hr rfl rfl rfl (b' := (decide (p1 ≥ (0 : Int)))) (by kernel_rfl)).trans (by rw [show (decide (p1 ≥ (0 : Int))) = true from (decide_eq_true c5)]; rfl)) rfl rfl hr (v := .pointer (some ⟨B0, 0, none⟩)) (by kernel_rfl) ?_; clear hr a; intro a hr
    refine op_val ((wg hr rfl rfl rfl (b' := (decide (p1 ≥ (0 : Int)))) (by kernel_rfl)).trans (by rw [show (decide (p1 ≥ (0 : Int))) = true from (decide_eq_true c5)]; rfl)) rfl rfl hr (v := .pointer (some ⟨B0, 1, none⟩)) (by kernel_rfl) ?_; clear hr a; intro a hr
    refine op_val ((wg hr rfl rfl rfl (b' := (decide (p1 ≥ (0 : Int)))) (by kernel_rfl)).trans (by rw [show (decide (p1 ≥ (0 : Int))) = true from (decide_eq_true c5)]; rfl)) rfl rfl hr (v := .int .i64 p0.ledger_mark) (rl rfl (by kernel_rfl) (by kernel_rfl) (h.cell 1 rfl)) ?_; clear hr a; intro a hr
    refine op_val ((wg hr rfl rfl rfl (b' := (decide (p1 ≥ (0 : Int)))) (by kernel_rfl)).trans (by rw [show (decide (p1 ≥ (0 : Int))) = true from (decide_eq_true c5)]; rfl)) rfl rfl hr (v := .bool (decide (p1 < p0.ledger_mark))) (by kernel_rfl) ?_; clear hr a; intro a hr
    refine op_val (wn rfl) rfl rfl hr (v := .bool (decide (p1 < p0.ledger_mark))) (rp_t (b := (decide (p1 ≥ (0 : Int)))) rfl (by kernel_rfl) (decide_eq_true c5) (by kernel_rfl)) ?_; clear hr a; intro a hr
    refine ov hr (.bool (decide (p1 < p0.ledger_mark))) (by kernel_rfl) ?_; clear hr a; intro a hr
    refine wpList_nil ?_
    refine then_normal ?_
    refine wp_ret ?_
    refine end_ret1 (v := .bool (decide (p1 < p0.ledger_mark))) rfl hr (by kernel_rfl) ?_
    replace H := ej1 H; subst H
    exact ⟨rfl, h⟩
  ·
    replace H := ifF c5 H
    refine op_off ((wg hr rfl rfl rfl (b' := (decide (p1 ≥ (0 : Int)))) (by kernel_rfl)).trans (by rw [show (decide (p1 ≥ (0 : Int))) = false from (decide_eq_false c5)]; rfl)) rfl rfl hr ?_; clear hr a; intro a hr
    refine op_off ((wg hr rfl rfl rfl (b' := (decide (p1 ≥ (0 : Int)))) (by kernel_rfl)).trans (by rw [show (decide (p1 ≥ (0 : Int))) = false from (decide_eq_false c5)]; rfl)) rfl rfl hr ?_; clear hr a; intro a hr
    refine op_off ((wg hr rfl rfl rfl (b' := (decide (p1 ≥ (0 : Int)))) (by kernel_rfl)).trans (by rw [show (decide (p1 ≥ (0 : Int))) = false from (decide_eq_false c5)]; rfl)) rfl rfl hr ?_; clear hr a; intro a hr
    refine op_off ((wg hr rfl rfl rfl (b' := (decide (p1 ≥ (0 : Int)))) (by kernel_rfl)).trans (by rw [show (decide (p1 ≥ (0 : Int))) = false from (decide_eq_false c5)]; rfl)) rfl rfl hr ?_; clear hr a; intro a hr
    refine op_off ((wg hr rfl rfl rfl (b' := (decide (p1 ≥ (0 : Int)))) (by kernel_rfl)).trans (by rw [show (decide (p1 ≥ (0 : Int))) = false from (decide_eq_false c5)]; rfl)) rfl rfl hr ?_; clear hr a; intro a hr
    refine op_off ((wg hr rfl rfl rfl (b' := (decide (p1 ≥ (0 : Int)))) (by kernel_rfl)).trans (by rw [show (decide (p1 ≥ (0 : Int))) = false from (decide_eq_false c5)]; rfl)) rfl rfl hr ?_; clear hr a; intro a hr
    refine op_val (wn rfl) rfl rfl hr (v := .bool false) (rp_f (b := (decide (p1 ≥ (0 : Int)))) rfl (by kernel_rfl) (decide_eq_false c5) (by kernel_rfl)) ?_; clear hr a; intro a hr
    refine ov hr (.bool false) (by kernel_rfl) ?_; clear hr a; intro a hr
    refine wpList_nil ?_
    refine then_normal ?_
    refine wp_ret ?_
    refine end_ret1 (v := .bool false) rfl hr (by kernel_rfl) ?_
    replace H := ej1 H; subst H
    exact ⟨rfl, h⟩

/-- (*plunder/cells.Arena).outside -/
def cells_Arena_outside (p0 : T_cells_Arena) (p1 : Int) : Option (Bool) :=
  ob1 (cells_ledger_has p0 p1) (fun r5 => some (!r5))
set_option maxRecDepth 100000 in
set_option maxHeartbeats 4000000 in
theorem cells_Arena_outside_ok {z w : World} {L : List HProp} {p0 : T_cells_Arena} {p1 : Int} {B0 : Nat} {ca1 : Option Addr} {cc2 : Nat} {ca3 : Option Addr} {cc4 : Nat} {r0 : Bool} (H : cells_Arena_outside p0 p1 = some r0) (h : Fit z (sepL (ob103 B0 p0 ca1 cc2 ca3 cc4 :: ro2 ca1 cc2 p0.cell :: ro96 ca3 cc4 p0.log :: L)) w)  :
    Calls Try.prog 126 #[.pointer (some ⟨B0, 0, none⟩), .int .i64 p1] w fun e w => e = .returned (.bool r0) ∧ Fit z (sepL (ob103 B0 p0 ca1 cc2 ca3 cc4 :: ro2 ca1 cc2 p0.cell :: ro96 ca3 cc4 p0.log :: L)) w := by
  unfold cells_Arena_outside at H
  refine enter Try.func126 rfl 15 rfl rfl [(0, .pointer (some ⟨B0, 0, none⟩)), (1, .int .i64 p1)] ⟨rfl, rfl, trivial⟩ ?_
  intro j a hr
  refine wp_seq ?_
  refine wp_region_lit ?_
  refine ov hr (.bool false) (by kernel_rfl) ?_; clear hr a; intro a hr
  refine wpList_nil ?_
  refine then_normal ?_
  refine wp_seq ?_
  refine wp_region_lit ?_
  refine ovs [5, 6, 7] [.pointer (some ⟨B0, 0, none⟩), .bool false, .bool false] hr ⟨rfl, rfl⟩ (by kernel_rfl) ?_; clear hr a; intro a hr
  refine op_val ((wg hr rfl rfl rfl (b' := false) (by kernel_rfl)).trans rfl) rfl rfl hr (v := .pointer (some ⟨B0, 0, none⟩)) (by kernel_rfl) ?_; clear hr a; intro a hr
  refine op_val ((wg hr rfl rfl rfl (b' := false) (by kernel_rfl)).trans rfl) rfl rfl hr (v := .pointer (some ⟨B0, 0, none⟩)) (by kernel_rfl) ?_; clear hr a; intro a hr
  refine op_val ((wg hr rfl rfl rfl (b' := false) (by kernel_rfl)).trans rfl) rfl rfl hr (v := .pointer (some ⟨B0, 0, none⟩)) (by kernel_rfl) ?_; clear hr a; intro a hr
  refine op_val ((wg hr rfl rfl rfl (b' := false) (by kernel_rfl)).trans rfl) rfl rfl hr (v := .int .i64 p1) (by kernel_rfl) ?_; clear hr a; intro a hr
  replace H := bd1 H; obtain ⟨r5, e6, H⟩ := H
  have hc := cells_ledger_has_ok (H := e6) (h := h)
  refine op_call ((wg hr rfl rfl rfl (b' := false) (by kernel_rfl)).trans rfl) rfl rfl hr (f := 127) (args := #[.pointer (some ⟨B0, 0, none⟩), .int .i64 p1]) (by kernel_rfl) hc ?_; clear hc h
  rintro _ w ⟨rfl, h⟩; refine ⟨_, rfl, ?_⟩
  clear hr a; intro a hr
  refine op_val ((wg hr rfl rfl rfl (b' := false) (by kernel_rfl)).trans rfl) rfl rfl hr (v := .bool (!r5)) (by kernel_rfl) ?_; clear hr a; intro a hr
  refine ovs [14, 4] [.bool (!r5), .bool (!r5)] hr ⟨rfl, rfl⟩ (by kernel_rfl) ?_; clear hr a; intro a hr
  refine wpList_nil ?_
  refine then_normal ?_
  refine wp_ret ?_
  refine end_ret1 (v := .bool (!r5)) rfl hr (by kernel_rfl) ?_
  replace H := ej1 H; subst H
  exact ⟨rfl, h⟩

/-- (*plunder/cells.Arena).Store -/
def cells_Arena_Store (p0 : T_cells_Arena) (p1 : Int) (p2 : Int) : Option (Int × T_cells_Arena) :=
  ob1 (cells_Arena_outside p0 p1) (fun r5 => (if r5 = true then some (20, p0) else if inr_ p1 p0.cell.length then ob1 (cells_Arena_note ({ p0 with cell := p0.cell.set p1.toNat p2 }) 1 p1 p2 0 true) (fun S10 => some (0, S10)) else none))
set_option maxRecDepth 100000 in
set_option maxHeartbeats 4000000 in
theorem cells_Arena_Store_ok {z w : World} {L : List HProp} {p0 : T_cells_Arena} {p1 : Int} {p2 : Int} {B0 : Nat} {ca1 : Option Addr} {cc2 : Nat} {ca3 : Option Addr} {cc4 : Nat} {r0 : Int} {q0 : T_cells_Arena} (H : cells_Arena_Store p0 p1 p2 = some (r0, q0)) (h : Fit z (sepL (ob103 B0 p0 ca1 cc2 ca3 cc4 :: ro2 ca1 cc2 p0.cell :: ro96 ca3 cc4 p0.log :: L)) w)  :
    Calls Try.prog 125 #[.pointer (some ⟨B0, 0, none⟩), .int .i64 p1, .int .i64 p2] w fun e w => ∃ caq0_1 : Option Addr, ∃ ccq0_2 : Nat, ∃ caq0_3 : Option Addr, ∃ ccq0_4 : Nat, e = .returned (.int .i64 r0) ∧ Fit z (sepL (ob103 B0 q0 caq0_1 ccq0_2 caq0_3 ccq0_4 :: ro2 caq0_1 ccq0_2 q0.cell :: ro96 caq0_3 ccq0_4 q0.log :: L)) w := by
  unfold cells_Arena_Store at H
  refine enter Try.func125 rfl 21 rfl rfl [(0, .pointer (some ⟨B0, 0, none⟩)), (1, .int .i64 p1), (2, .int .i64 p2)] ⟨rfl, rfl, rfl, trivial⟩ ?_
  intro j a hr
  refine wp_seq ?_
  refine wp_region_lit ?_
  refine ov hr (.int .i64 0) (by kernel_rfl) ?_; clear hr a; intro a hr
  refine wpList_nil ?_
  refine then_normal ?_
  refine wp_seq ?_
  refine wp_seq ?_
  refine wp_region_lit ?_
  replace H := bd1 H; obtain ⟨r5, e6, H⟩ := H
  refine ovs [7, 8] [.pointer (some ⟨B0, 0, none⟩), .int .i64 p1] hr ⟨rfl, rfl⟩ (by kernel_rfl) ?_; clear hr a; intro a hr
  have hc := cells_Arena_outside_ok (H := e6) (h := h)
  refine op_call (wn rfl) rfl rfl hr (f := 126) (args := #[.pointer (some ⟨B0, 0, none⟩), .int .i64 p1]) (by kernel_rfl) hc ?_; clear hc h
  rintro _ w ⟨rfl, h⟩; refine ⟨_, rfl, ?_⟩
  clear hr a; intro a hr
  refine wpList_nil ?_
  refine then_normal ?_
  by_cases c7 : r5 = true
  ·
    replace H := ifT c7 H
    refine cond_tt hr (b := r5) (c7) ?_
    refine wp_seq ?_
    refine wp_region_lit ?_
    refine ov hr (.int .i64 20) (by kernel_rfl) ?_; clear hr a; intro a hr
    refine wpList_nil ?_
    refine then_normal ?_
    refine wp_ret ?_
    refine then_ret ?_
    refine end_ret1 (v := .int .i64 20) rfl hr (by kernel_rfl) ?_
    replace H := ej2 H; obtain ⟨rfl, rfl⟩ := H
    exact ⟨ca1, cc2, ca3, cc4, rfl, h⟩
  ·
    replace H := ifF c7 H
    refine cond_ff hr (b := r5) (bF c7) ?_
    refine wp_skip ?_
    refine then_normal ?_
    refine wp_seq ?_
    refine wp_region_lit ?_
    refine ovs [10, 11, 12] [.pointer (some ⟨B0, 0, none⟩), .pointer (some ⟨B0, 0, none⟩), .pointer (some ⟨B0, 2, none⟩)] hr ⟨rfl, rfl⟩ (by kernel_rfl) ?_; clear hr a; intro a hr
    refine op_val (wn rfl) rfl rfl hr (v := .slice ca1 p0.cell.length cc2) (rl rfl (by kernel_rfl) (by kernel_rfl) (h.cell 2 rfl)) ?_; clear hr a; intro a hr
    replace H := gd H; obtain ⟨c8, H⟩ := H
    refine ovs [14, 15] [.int .i64 p1, .int .i64 p2] hr ⟨rfl, rfl⟩ (by kernel_rfl) ?_; clear hr a; intro a hr
    refine op_val (wn rfl) rfl rfl hr (v := .pointer (some ⟨blk ca1, p1.toNat * 1, none⟩)) (ri_row (k := .i64) (E := 2) rfl (by kernel_rfl) (by kernel_rfl) (by kernel_rfl) (by kernel_rfl) (h.pick 1) c8) ?_; clear hr a; intro a hr
    replace h : Fit z (sepL (ro2 ca1 cc2 p0.cell :: ob103 B0 p0 ca1 cc2 ca3 cc4 :: ro96 ca3 cc4 p0.log :: L)) _ := h.sel 3 [1, 0, 2] (by kernel_rfl) (by kernel_rfl)
    refine op_store_row (wn rfl) rfl hr rfl (by kernel_rfl) (by kernel_rfl) (v := .int .i64 p2) rfl rfl (by kernel_rfl) encZ_i64_ok h (i := p1.toNat) (f := 0) (p := (at_ p0.cell p1.toNat)) (q := p2) (at_ok c8) (by decide) rfl ?_; clear h; intro w h
    replace h : Fit z (sepL (rowOf 2 1 encZ_i64 (.slice ca1 p0.cell.length cc2) (p0.cell.set p1.toNat p2) :: ob103 B0 p0 ca1 cc2 ca3 cc4 :: ro96 ca3 cc4 p0.log :: L)) _ := h
    refine wpList_nil ?_
    refine then_normal ?_
    refine wp_seq ?_
    refine wp_region_lit ?_
    refine ovs [17, 18, 19] [.pointer (some ⟨B0, 0, none⟩), .int .i64 p1, .int .i64 p2] hr ⟨rfl, rfl⟩ (by kernel_rfl) ?_; clear hr a; intro a hr
    have hn8 := h.row_n
    replace h : Fit z (sepL (ro2 ca1 cc2 (p0.cell.set p1.toNat p2) :: pts B0 (.cells #[.int .i64 p0.ledger_size, .int .i64 p0.ledger_mark, .slice ca1 ((p0.cell.set p1.toNat p2).length) cc2, .slice ca3 p0.log.length cc4, .int .i64 p0.actor, .bool p0.watched] 103) :: ro96 ca3 cc4 p0.log :: L)) w := (congrArg (fun q_ : Nat => Fit z (sepL (rowOf 2 1 encZ_i64 (.slice ca1 q_ cc2) (p0.cell.set p1.toNat p2) :: pts B0 (.cells #[.int .i64 p0.ledger_size, .int .i64 p0.ledger_mark, .slice ca1 q_ cc2, .slice ca3 p0.log.length cc4, .int .i64 p0.actor, .bool p0.watched] 103) :: ro96 ca3 cc4 p0.log :: L)) w) h.row_n).mp h
    replace H := bd1 H; obtain ⟨S10, e11, H⟩ := H
    replace h : Fit z (sepL (pts B0 (.cells #[.int .i64 p0.ledger_size, .int .i64 p0.ledger_mark, .slice ca1 ((p0.cell.set p1.toNat p2).length) cc2, .slice ca3 p0.log.length cc4, .int .i64 p0.actor, .bool p0.watched] 103) :: ro2 ca1 cc2 (p0.cell.set p1.toNat p2) :: ro96 ca3 cc4 p0.log :: L)) _ := h.sel 3 [1, 0, 2] (by kernel_rfl) (by kernel_rfl)
    have hc := cells_Arena_note_ok (H := e11) (h := h)
    refine op_call (wn rfl) rfl rfl hr (f := 63) (args := #[.pointer (some ⟨B0, 0, none⟩), .int .i64 1, .int .i64 p1, .int .i64 p2, .int .i64 0, .bool true]) (by kernel_rfl) hc ?_; clear hc h
    rintro _ w ⟨caq12, ccq13, caq14, ccq15, rfl, h⟩; refine ⟨_, rfl, ?_⟩
    clear hr a; intro a hr
    refine wpList_nil ?_
    refine then_normal ?_
    refine wp_seq ?_
    refine wp_region_lit ?_
    refine ov hr (.int .i64 0) (by kernel_rfl) ?_; clear hr a; intro a hr
    refine wpList_nil ?_
    refine then_normal ?_
    refine wp_ret ?_
    refine end_ret1 (v := .int .i64 0) rfl hr (by kernel_rfl) ?_
    replace H := ej2 H; obtain ⟨rfl, rfl⟩ := H
    exact ⟨caq12, ccq13, caq14, ccq15, rfl, h⟩

def frames_New_iface_l1 (K : Nat) (p1 : Int) (r11 : Int) : Nat → T_cells_Arena → Int → Option (T_frames_Table × Int × T_cells_Arena)
  | 0, _, _ => none
  | k1 + 1, S21, g26 => (if g26 < p1 then ob1 (frames_Table__join (⟨r11, p1⟩ : T_frames_Table) g26) (fun r28 => ob2 (cells_Arena_Store S21 r28 1) (fun r30 S31 => (if r30 = (0 : Int) then (frames_New_iface_l1 K p1 r11 k1 S31 (wi (g26 + (1 : Int)))) else some ((⟨0, 0⟩ : T_frames_Table), r30, S31)))) else some ((⟨r11, p1⟩ : T_frames_Table), 0, S21))
/-- plunder/frames.New -/
def frames_New_iface (K : Nat) (p0 : T_cells_Arena) (p1 : Int) : Option (T_frames_Table × Int × T_cells_Arena) :=
  ob1 (frames_Cells p1) (fun r6 => (if r6 = (0 : Int) then some ((⟨0, 0⟩ : T_frames_Table), 3, p0) else ob1 (frames_Cells p1) (fun r9 => ob3 (cells_Arena_Reserve p0 r9) (fun r11 r12 S13 => (if r12 = (0 : Int) then (frames_New_iface_l1 K p1 r11 K S13 0) else some ((⟨0, 0⟩ : T_frames_Table), r12, S13))))))
set_option maxRecDepth 100000 in
set_option maxHeartbeats 4000000 in
theorem frames_New_iface_ok {z w : World} {L : List HProp} {K : Nat} {p0 : T_cells_Arena} {p1 : Int} {B0 : Nat} {ca1 : Option Addr} {cc2 : Nat} {ca3 : Option Addr} {cc4 : Nat} {r0 : T_frames_Table} {r1 : Int} {q0 : T_cells_Arena} (H : frames_New_iface K p0 p1 = some (r0, r1, q0)) (h : Fit z (sepL (ob103 B0 p0 ca1 cc2 ca3 cc4 :: ro2 ca1 cc2 p0.cell :: ro96 ca3 cc4 p0.log :: L)) w)  :
    Calls Try.prog 19 #[.iface 26 (.pointer (some ⟨B0, 0, none⟩)), .int .i64 p1] w fun e w => ∃ caq0_1 : Option Addr, ∃ ccq0_2 : Nat, ∃ caq0_3 : Option Addr, ∃ ccq0_4 : Nat, e = .returned (.tuple #[.agg #[.int .i64 r0.Base, .int .i64 r0.Frames], .int .i64 r1]) ∧ Fit z (sepL (ob103 B0 q0 caq0_1 ccq0_2 caq0_3 ccq0_4 :: ro2 caq0_1 ccq0_2 q0.cell :: ro96 caq0_3 ccq0_4 q0.log :: L)) w := by
  unfold frames_New_iface at H
  refine enter Try.func19 rfl 53 rfl rfl [(0, .iface 26 (.pointer (some ⟨B0, 0, none⟩))), (1, .int .i64 p1)] ⟨rfl, rfl, trivial⟩ ?_
  intro j a hr
  refine wp_seq ?_
  refine wp_region_lit ?_
  refine op_new (wn rfl) rfl rfl hr h (vf := fun b => .pointer (some ⟨b, 0, none⟩)) (cs := #[.int .i64 0, .int .i64 0]) (T := 39) (by kernel_rfl) ?_; clear h hr a; intro b5 w a h hr
  refine ov hr (.int .i64 0) (by kernel_rfl) ?_; clear hr a; intro a hr
  refine wpList_nil ?_
  refine then_normal ?_
  refine wp_seq ?_
  refine wp_seq ?_
  refine wp_region_lit ?_
  refine ovs [11, 12] [.iface 26 (.pointer (some ⟨B0, 0, none⟩)), .bool false] hr ⟨rfl, rfl⟩ (by kernel_rfl) ?_; clear hr a; intro a hr
  refine wpList_nil ?_
  refine then_normal ?_
  refine cond_ff hr (b := false) rfl ?_
  refine wp_skip ?_
  refine then_normal ?_
  refine wp_seq ?_
  refine wp_seq ?_
  refine wp_region_lit ?_
  replace H := bd1 H; obtain ⟨r6, e7, H⟩ := H
  refine ov hr (.int .i64 p1) (by kernel_rfl) ?_; clear hr a; intro a hr
  have hc := frames_Cells_ok (H := e7) (h := h)
  refine op_call (wn rfl) rfl rfl hr (f := 15) (args := #[.int .i64 p1]) (by kernel_rfl) hc ?_; clear hc h
  rintro _ w ⟨rfl, h⟩; refine ⟨_, rfl, ?_⟩
  clear hr a; intro a hr
  refine ov hr (.bool (r6 == (0 : Int))) (by kernel_rfl) ?_; clear hr a; intro a hr
  refine wpList_nil ?_
  refine then_normal ?_
  by_cases c8 : r6 = (0 : Int)
  ·
    replace H := ifT c8 H
    refine cond_tt hr (b := (r6 == (0 : Int))) (beq_iff_eq.mpr c8) ?_
    refine wp_seq ?_
    refine wp_region_lit ?_
    refine ov hr (.agg #[.int .i64 0, .int .i64 0]) (by kernel_rfl) ?_; clear hr a; intro a hr
    refine op_stores (wn rfl) rfl hr rfl (by kernel_rfl) (by kernel_rfl) (vs := [.int .i64 0, .int .i64 0]) rfl rfl (by kernel_rfl) h (i := 0) (cs' := #[.int .i64 0, .int .i64 0]) rfl ?_; clear h; intro w h
    refine ov hr (.int .i64 3) (by kernel_rfl) ?_; clear hr a; intro a hr
    refine wpList_nil ?_
    replace h : Fit z (sepL (pts b5 (.cells #[.int .i64 0, .int .i64 0] 39) :: ob103 B0 p0 ca1 cc2 ca3 cc4 :: ro2 ca1 cc2 p0.cell :: ro96 ca3 cc4 p0.log :: L)) _ := h
    refine then_normal ?_
    refine wp_ret ?_
    refine then_ret ?_
    refine end_retCT (cs := [.int .i64 0, .int .i64 0]) (v := .int .i64 3) rfl hr (by kernel_rfl) (by kernel_rfl) (by kernel_rfl) (by kernel_rfl) ⟨h.cell 0 rfl, h.cell 1 rfl, trivial⟩ ?_
    replace h : Fit z (sepL (ob103 B0 p0 ca1 cc2 ca3 cc4 :: ro2 ca1 cc2 p0.cell :: ro96 ca3 cc4 p0.log :: L)) _ := h.sel 4 [1, 2, 3] (by kernel_rfl) (by kernel_rfl)
    replace H := ej3 H; obtain ⟨rfl, rfl, rfl⟩ := H
    exact ⟨ca1, cc2, ca3, cc4, rfl, h⟩
  ·
    replace H := ifF c8 H
    refine cond_ff hr (b := (r6 == (0 : Int))) (beq_eq_false_iff_ne.mpr c8) ?_
    refine wp_skip ?_
    refine then_normal ?_
    refine wp_seq ?_
    replace H := bd1 H; obtain ⟨r9, e10, H⟩ := H
    replace H := bd3 H; obtain ⟨r11, r12, S13, e14, H⟩ := H
    refine reg_E (fun w => True) [] h (by kernel_rfl) ?_; intro w h
    change wpAnyE _ _ _ _ _ _ 12 (Array.replicate 12 false) a w
    refine ev 11 0 rfl (by kernel_rfl) (wn rfl) hr (.iface 26 (.pointer (some ⟨B0, 0, none⟩))) (fun w => by kernel_rfl) ?_; clear hr a; intro a hr
    refine ev 10 1 rfl (by kernel_rfl) (wn rfl) hr (.int .i64 p1) (fun w => by kernel_rfl) ?_; clear hr a; intro a hr
    refine ev 9 3 rfl (by kernel_rfl) (wn rfl) hr (.func (.method "Reserve") #[.iface 26 (.pointer (some ⟨B0, 0, none⟩))] #[]) (fun w => by kernel_rfl) ?_; clear hr a; intro a hr
    refine ev 8 4 rfl (by kernel_rfl) (wn rfl) hr (.func (.method "Reserve") #[.iface 26 (.pointer (some ⟨B0, 0, none⟩))] #[]) (fun w => by kernel_rfl) ?_; clear hr a; intro a hr
    refine ev 7 5 rfl (by kernel_rfl) (wn rfl) hr (.iface 26 (.pointer (some ⟨B0, 0, none⟩))) (fun w => by kernel_rfl) ?_; clear hr a; intro a hr
    refine e_one (fuel := 6) (i := 2) (by kernel_rfl) rfl ?_
    have hc := frames_Cells_ok (H := e10) (h := h)
    refine op_call (wn rfl) rfl rfl hr (f := 15) (args := #[.int .i64 p1]) (by kernel_rfl) hc ?_; clear hc h
    rintro _ w ⟨rfl, h⟩; refine ⟨_, rfl, ?_⟩
    clear hr a; intro a hr
    refine wpList_nil ?_; refine then_normal ?_
    refine ⟨fun hE => absurd hE (by decide), ?_⟩
    refine e_one (fuel := 5) (i := 6) (by kernel_rfl) rfl ?_
    replace h : Fit z (sepL (ob103 B0 p0 ca1 cc2 ca3 cc4 :: ro2 ca1 cc2 p0.cell :: ro96 ca3 cc4 p0.log :: pts b5 (.cells #[.int .i64 0, .int .i64 0] 39) :: L)) _ := h.sel 4 [1, 2, 3, 0] (by kernel_rfl) (by kernel_rfl)
    have hc := cells_Arena_Reserve_ok (H := e14) (h := h)
    refine op_call (wn rfl) rfl rfl hr (f := 35) (args := #[.pointer (some ⟨B0, 0, none⟩), .int .i64 r9]) (by kernel_rfl) hc ?_; clear hc h
    rintro _ w ⟨caq15, ccq16, caq17, ccq18, rfl, h⟩; refine ⟨_, rfl, ?_⟩
    clear hr a; intro a hr
    refine wpList_nil ?_; refine then_normal ?_
    refine ⟨fun hE => absurd hE (by decide), ?_⟩
    refine ev 4 7 rfl (by kernel_rfl) (wn rfl) hr (.tuple #[.int .i64 r11, .int .i64 r12]) (fun w => by kernel_rfl) ?_; clear hr a; intro a hr
    refine ev 3 8 rfl (by kernel_rfl) (wn rfl) hr (.int .i64 r11) (fun w => by kernel_rfl) ?_; clear hr a; intro a hr
    refine ev 2 9 rfl (by kernel_rfl) (wn rfl) hr (.int .i64 r12) (fun w => by kernel_rfl) ?_; clear hr a; intro a hr
    refine ev 1 10 rfl (by kernel_rfl) (wn rfl) hr (.int .i64 r11) (fun w => by kernel_rfl) ?_; clear hr a; intro a hr
    refine ev 0 11 rfl (by kernel_rfl) (wn rfl) hr (.int .i64 r12) (fun w => by kernel_rfl) ?_; clear hr a; intro a hr
    refine e_end (by kernel_rfl) ?_
    refine then_normal ?_
    refine wp_seq ?_
    refine wp_seq ?_
    refine wp_region_lit ?_
    refine ovs [28, 29] [.int .i64 r12, .bool (r12 != (0 : Int))] hr ⟨rfl, rfl⟩ (by kernel_rfl) ?_; clear hr a; intro a hr
    refine wpList_nil ?_
    refine then_normal ?_
    by_cases c19 : r12 = (0 : Int)
    ·
      replace H := ifT c19 H
      refine cond_ff hr (b := (r12 != (0 : Int))) (bne_eq_false_iff_eq.mpr c19) ?_
      refine wp_skip ?_
      refine then_normal ?_
      refine wp_seq ?_
      refine wp_region_lit ?_
      refine ovs [32, 33, 34] [.int .i64 r11, .int .i64 p1, .agg #[.int .i64 r11, .int .i64 p1]] hr ⟨rfl, rfl⟩ (by kernel_rfl) ?_; clear hr a; intro a hr
      refine op_new (wn rfl) rfl rfl hr h (vf := fun b => .pointer (some ⟨b, 0, none⟩)) (cs := #[.int .i64 0, .int .i64 0]) (T := 39) (by kernel_rfl) ?_; clear h hr a; intro b20 w a h hr
      refine op_stores (wn rfl) rfl hr rfl (by kernel_rfl) (by kernel_rfl) (vs := [.int .i64 r11, .int .i64 p1]) rfl rfl (by kernel_rfl) h (i := 0) (cs' := #[.int .i64 r11, .int .i64 p1]) rfl ?_; clear h; intro w h
      refine wpList_nil ?_
      replace h : Fit z (sepL (pts b20 (.cells #[.int .i64 r11, .int .i64 p1] 39) :: ob103 B0 S13 caq15 ccq16 caq17 ccq18 :: ro2 caq15 ccq16 S13.cell :: ro96 caq17 ccq18 S13.log :: pts b5 (.cells #[.int .i64 0, .int .i64 0] 39) :: L)) _ := h
      refine then_normal ?_
      refine wp_seq ?_
      refine wp_seq ?_
      refine wp_region_lit ?_
      refine ovs [35, 36] [.int .i64 p1, .int .i64 0] hr ⟨rfl, rfl⟩ (by kernel_rfl) ?_; clear hr a; intro a hr
      refine wpList_nil ?_
      refine then_normal ?_
      refine wp_block ?_
      replace hr := hr.fold2 [(0, .iface 26 (.pointer (some ⟨B0, 0, none⟩))), (4, .pointer (some ⟨b5, 0, none⟩)), (8, .pointer (some ⟨b20, 0, none⟩)), (35, .int .i64 p1), (36, .int .i64 0)] (by kernel_rfl); obtain ⟨j, hr⟩ := hr
      replace h : Fit z (sepL (ob103 B0 S13 caq15 ccq16 caq17 ccq18 :: ro2 caq15 ccq16 S13.cell :: ro96 caq17 ccq18 S13.log :: pts b5 (.cells #[.int .i64 0, .int .i64 0] 39) :: pts b20 (.cells #[.int .i64 r11, .int .i64 p1] 39) :: L)) _ := h.sel 5 [1, 2, 3, 4, 0] (by kernel_rfl) (by kernel_rfl)
      refine loop_rule (β := Nat) id (fun m a w => ∃ ca22 : Option Addr, ∃ cc23 : Nat, ∃ ca24 : Option Addr, ∃ cc25 : Nat, ∃ S21 : T_cells_Arena, ∃ g26 : Int, (frames_New_iface_l1 K p1 r11 m S21 g26) = some (r0, r1, q0) ∧ ∃ j, Rep 53 (lk [(0, .iface 26 (.pointer (some ⟨B0, 0, none⟩))), (4, .pointer (some ⟨b5, 0, none⟩)), (8, .pointer (some ⟨b20, 0, none⟩)), (35, .int .i64 p1), (36, .int .i64 g26)] j) a ∧ Fit z (sepL (ob103 B0 S21 ca22 cc23 ca24 cc25 :: ro2 ca22 cc23 S21.cell :: ro96 ca24 cc25 S21.log :: pts b5 (.cells #[.int .i64 0, .int .i64 0] 39) :: pts b20 (.cells #[.int .i64 r11, .int .i64 p1] 39) :: L)) w) K ⟨caq15, ccq16, caq17, ccq18, S13, 0, H, j, hr, h⟩ ?_
      clear h hr a H; rintro k1 a w ⟨ca22, cc23, ca24, cc25, S21, g26, H, j, hr, h⟩
      cases k1 with
      | zero => exact absurd H (by simp [frames_New_iface_l1])
      | succ k1 =>
        rw [frames_New_iface_l1] at H
        refine wp_seq ?_
        refine wp_region_lit ?_
        refine ov hr (.bool (decide (g26 < p1))) (by kernel_rfl) ?_; clear hr a; intro a hr
        refine wpList_nil ?_
        refine then_normal ?_
        refine wp_seq ?_
        by_cases c27 : g26 < p1
        ·
          replace H := ifT c27 H
          refine cond_tt hr (b := (decide (g26 < p1))) (decide_eq_true c27) ?_
          refine wp_skip ?_
          refine then_normal ?_
          refine wp_seq ?_
          refine wp_block ?_
          refine wp_seq ?_
          refine wp_region_lit ?_
          refine ovs [38, 9] [.int .i64 g26, .int .i64 g26] hr ⟨rfl, rfl⟩ (by kernel_rfl) ?_; clear hr a; intro a hr
          refine wpList_nil ?_
          refine then_normal ?_
          refine wp_seq ?_
          replace H := bd1 H; obtain ⟨r28, e29, H⟩ := H
          replace H := bd2 H; obtain ⟨r30, S31, e32, H⟩ := H
          refine reg_E (fun w => heldC w b20 0 [.int .i64 r11, .int .i64 p1] ∧ True) [3, 4, 5] h (by kernel_rfl) ?_; intro w h
          change wpAnyE _ _ _ _ _ _ 9 (Array.replicate 9 false) a w
          have hgo : ∀ w w', CellsGo w w' → (heldC w b20 0 [.int .i64 r11, .int .i64 p1] ∧ True) → heldC w' b20 0 [.int .i64 r11, .int .i64 p1] ∧ True := fun w w' g hD => ⟨heldC_go _ _ _ _ _ g hD.1, trivial⟩
          refine ev 8 0 rfl (by kernel_rfl) (wn rfl) hr (.iface 26 (.pointer (some ⟨B0, 0, none⟩))) (fun w => by kernel_rfl) ?_; clear hr a; intro a hr
          refine ev 7 2 rfl (by kernel_rfl) (wn rfl) hr (.int .i64 g26) (fun w => by kernel_rfl) ?_; clear hr a; intro a hr
          refine evD hgo ⟨⟨(h.pick 4).cell 0 rfl, (h.pick 4).cell 1 rfl, trivial⟩, trivial⟩ 6 4 rfl (by kernel_rfl) (wn rfl) hr (.func (.method "Store") #[.iface 26 (.pointer (some ⟨B0, 0, none⟩))] #[]) (fun w => by kernel_rfl) ?_; clear hr a; intro a hr
          refine evD hgo ⟨⟨(h.pick 4).cell 0 rfl, (h.pick 4).cell 1 rfl, trivial⟩, trivial⟩ 5 5 rfl (by kernel_rfl) (wn rfl) hr (.func (.method "Store") #[.iface 26 (.pointer (some ⟨B0, 0, none⟩))] #[]) (fun w => by kernel_rfl) ?_; clear hr a; intro a hr
          refine ev 4 6 rfl (by kernel_rfl) (wn rfl) hr (.iface 26 (.pointer (some ⟨B0, 0, none⟩))) (fun w => by kernel_rfl) ?_; clear hr a; intro a hr
          refine el [3, 4, 5] (b := b20) (off := 0) (cs := [.int .i64 r11, .int .i64 p1]) (fun _ hk => ⟨hk, fun w hD => hD.1⟩) 3 1 rfl (by kernel_rfl) (wn rfl) hr (.agg #[.int .i64 r11, .int .i64 p1]) ⟨(h.pick 4).cell 0 rfl, (h.pick 4).cell 1 rfl, trivial⟩ (fun w hc => rlm (cs := [.int .i64 r11, .int .i64 p1]) rfl (by kernel_rfl) (by kernel_rfl) (by kernel_rfl) hc) ?_; clear hr a; intro a hr
          refine e_one (fuel := 2) (i := 3) (by kernel_rfl) rfl ?_
          have hc := frames_Table__join_ok (H := e29) (h := h)
          refine op_call (wn rfl) rfl rfl hr (f := 54) (args := #[.agg #[.int .i64 r11, .int .i64 p1], .int .i64 g26]) (by kernel_rfl) hc ?_; clear hc h
          rintro _ w ⟨rfl, h⟩; refine ⟨_, rfl, ?_⟩
          clear hr a; intro a hr
          refine wpList_nil ?_; refine then_normal ?_
          refine ⟨fun _ => ⟨⟨(h.pick 4).cell 0 rfl, (h.pick 4).cell 1 rfl, trivial⟩, trivial⟩, ?_⟩
          refine e_one (fuel := 1) (i := 7) (by kernel_rfl) rfl ?_
          have hc := cells_Arena_Store_ok (H := e32) (h := h)
          refine op_call (wn rfl) rfl rfl hr (f := 125) (args := #[.pointer (some ⟨B0, 0, none⟩), .int .i64 r28, .int .i64 1]) (by kernel_rfl) hc ?_; clear hc h
          rintro _ w ⟨caq33, ccq34, caq35, ccq36, rfl, h⟩; refine ⟨_, rfl, ?_⟩
          clear hr a; intro a hr
          refine wpList_nil ?_; refine then_normal ?_
          refine ⟨fun hE => absurd hE (by decide), ?_⟩
          refine ev 0 8 rfl (by kernel_rfl) (wn rfl) hr (.int .i64 r30) (fun w => by kernel_rfl) ?_; clear hr a; intro a hr
          refine e_end (by kernel_rfl) ?_
          refine then_normal ?_
          refine wp_seq ?_
          refine wp_region_lit ?_
          refine ovs [47, 48] [.int .i64 r30, .bool (r30 != (0 : Int))] hr ⟨rfl, rfl⟩ (by kernel_rfl) ?_; clear hr a; intro a hr
          refine wpList_nil ?_
          refine then_normal ?_
          by_cases c37 : r30 = (0 : Int)
          ·
            replace H := ifT c37 H
            refine cond_ff hr (b := (r30 != (0 : Int))) (bne_eq_false_iff_eq.mpr c37) ?_
            refine wp_skip ?_
            refine blk_normal ?_
            refine then_normal ?_
            refine wp_region_lit ?_
            refine ovs [51, 36] [.int .i64 (wi (g26 + (1 : Int))), .int .i64 (wi (g26 + (1 : Int)))] hr ⟨rfl, rfl⟩ (by kernel_rfl) ?_; clear hr a; intro a hr
            refine wpList_nil ?_
            refine then_normal ?_
            replace hr := hr.fold2 [(0, .iface 26 (.pointer (some ⟨B0, 0, none⟩))), (4, .pointer (some ⟨b5, 0, none⟩)), (8, .pointer (some ⟨b20, 0, none⟩)), (35, .int .i64 p1), (36, .int .i64 (wi (g26 + (1 : Int))))] (by kernel_rfl); obtain ⟨j, hr⟩ := hr
            exact ⟨_, ⟨caq33, ccq34, caq35, ccq36, S31, (wi (g26 + (1 : Int))), H, j, hr, h⟩, Nat.lt_succ_self _⟩
          ·
            replace H := ifF c37 H
            refine cond_tt hr (b := (r30 != (0 : Int))) (bne_iff_ne.mpr c37) ?_
            refine wp_seq ?_
            refine wp_region_lit ?_
            refine ovs [49, 50] [.agg #[.int .i64 0, .int .i64 0], .int .i64 r30] hr ⟨rfl, rfl⟩ (by kernel_rfl) ?_; clear hr a; intro a hr
            replace h : Fit z (sepL (pts b5 (.cells #[.int .i64 0, .int .i64 0] 39) :: ob103 B0 S31 caq33 ccq34 caq35 ccq36 :: ro2 caq33 ccq34 S31.cell :: ro96 caq35 ccq36 S31.log :: pts b20 (.cells #[.int .i64 r11, .int .i64 p1] 39) :: L)) _ := h.sel 5 [3, 0, 1, 2, 4] (by kernel_rfl) (by kernel_rfl)
            refine op_stores (wn rfl) rfl hr rfl (by kernel_rfl) (by kernel_rfl) (vs := [.int .i64 0, .int .i64 0]) rfl rfl (by kernel_rfl) h (i := 0) (cs' := #[.int .i64 0, .int .i64 0]) rfl ?_; clear h; intro w h
            refine ov hr (.int .i64 r30) (by kernel_rfl) ?_; clear hr a; intro a hr
            refine wpList_nil ?_
            replace h : Fit z (sepL (pts b5 (.cells #[.int .i64 0, .int .i64 0] 39) :: ob103 B0 S31 caq33 ccq34 caq35 ccq36 :: ro2 caq33 ccq34 S31.cell :: ro96 caq35 ccq36 S31.log :: pts b20 (.cells #[.int .i64 r11, .int .i64 p1] 39) :: L)) _ := h
            refine then_normal ?_
            refine wp_ret ?_
            refine blk_ret ?_
            refine then_ret ?_
            refine then_ret ?_
            refine blk_ret ?_
            refine then_ret ?_
            refine end_retCT (cs := [.int .i64 0, .int .i64 0]) (v := .int .i64 r30) rfl hr (by kernel_rfl) (by kernel_rfl) (by kernel_rfl) (by kernel_rfl) ⟨h.cell 0 rfl, h.cell 1 rfl, trivial⟩ ?_
            replace h : Fit z (sepL (ob103 B0 S31 caq33 ccq34 caq35 ccq36 :: ro2 caq33 ccq34 S31.cell :: ro96 caq35 ccq36 S31.log :: L)) _ := h.sel 5 [1, 2, 3] (by kernel_rfl) (by kernel_rfl)
            replace H := ej3 H; obtain ⟨rfl, rfl, rfl⟩ := H
            exact ⟨caq33, ccq34, caq35, ccq36, rfl, h⟩
        ·
          replace H := ifF c27 H
          refine cond_ff hr (b := (decide (g26 < p1))) (decide_eq_false c27) ?_
          refine wp_exit ?_
          refine then_exit ?_
          refine then_exit ?_
          refine blk_here ?_
          refine then_normal ?_
          refine wp_seq ?_
          refine wp_region_lit ?_
          refine op_val (wn rfl) rfl rfl hr (v := .agg #[.int .i64 r11, .int .i64 p1]) (rlm (cs := [.int .i64 r11, .int .i64 p1]) rfl (by kernel_rfl) (by kernel_rfl) (by kernel_rfl) ⟨(h.pick 4).cell 0 rfl, (h.pick 4).cell 1 rfl, trivial⟩) ?_; clear hr a; intro a hr
          replace h : Fit z (sepL (pts b5 (.cells #[.int .i64 0, .int .i64 0] 39) :: ob103 B0 S21 ca22 cc23 ca24 cc25 :: ro2 ca22 cc23 S21.cell :: ro96 ca24 cc25 S21.log :: pts b20 (.cells #[.int .i64 r11, .int .i64 p1] 39) :: L)) _ := h.sel 5 [3, 0, 1, 2, 4] (by kernel_rfl) (by kernel_rfl)
          refine op_stores (wn rfl) rfl hr rfl (by kernel_rfl) (by kernel_rfl) (vs := [.int .i64 r11, .int .i64 p1]) rfl rfl (by kernel_rfl) h (i := 0) (cs' := #[.int .i64 r11, .int .i64 p1]) rfl ?_; clear h; intro w h
          refine ov hr (.int .i64 0) (by kernel_rfl) ?_; clear hr a; intro a hr
          refine wpList_nil ?_
          replace h : Fit z (sepL (pts b5 (.cells #[.int .i64 r11, .int .i64 p1] 39) :: ob103 B0 S21 ca22 cc23 ca24 cc25 :: ro2 ca22 cc23 S21.cell :: ro96 ca24 cc25 S21.log :: pts b20 (.cells #[.int .i64 r11, .int .i64 p1] 39) :: L)) _ := h
          refine then_normal ?_
          refine wp_ret ?_
          refine end_retCT (cs := [.int .i64 r11, .int .i64 p1]) (v := .int .i64 0) rfl hr (by kernel_rfl) (by kernel_rfl) (by kernel_rfl) (by kernel_rfl) ⟨h.cell 0 rfl, h.cell 1 rfl, trivial⟩ ?_
          replace h : Fit z (sepL (ob103 B0 S21 ca22 cc23 ca24 cc25 :: ro2 ca22 cc23 S21.cell :: ro96 ca24 cc25 S21.log :: L)) _ := h.sel 5 [1, 2, 3] (by kernel_rfl) (by kernel_rfl)
          replace H := ej3 H; obtain ⟨rfl, rfl, rfl⟩ := H
          exact ⟨ca22, cc23, ca24, cc25, rfl, h⟩
    ·
      replace H := ifF c19 H
      refine cond_tt hr (b := (r12 != (0 : Int))) (bne_iff_ne.mpr c19) ?_
      refine wp_seq ?_
      refine wp_region_lit ?_
      refine ovs [30, 31] [.agg #[.int .i64 0, .int .i64 0], .int .i64 r12] hr ⟨rfl, rfl⟩ (by kernel_rfl) ?_; clear hr a; intro a hr
      replace h : Fit z (sepL (pts b5 (.cells #[.int .i64 0, .int .i64 0] 39) :: ob103 B0 S13 caq15 ccq16 caq17 ccq18 :: ro2 caq15 ccq16 S13.cell :: ro96 caq17 ccq18 S13.log :: L)) _ := h.sel 4 [3, 0, 1, 2] (by kernel_rfl) (by kernel_rfl)
      refine op_stores (wn rfl) rfl hr rfl (by kernel_rfl) (by kernel_rfl) (vs := [.int .i64 0, .int .i64 0]) rfl rfl (by kernel_rfl) h (i := 0) (cs' := #[.int .i64 0, .int .i64 0]) rfl ?_; clear h; intro w h
      refine ov hr (.int .i64 r12) (by kernel_rfl) ?_; clear hr a; intro a hr
      refine wpList_nil ?_
      replace h : Fit z (sepL (pts b5 (.cells #[.int .i64 0, .int .i64 0] 39) :: ob103 B0 S13 caq15 ccq16 caq17 ccq18 :: ro2 caq15 ccq16 S13.cell :: ro96 caq17 ccq18 S13.log :: L)) _ := h
      refine then_normal ?_
      refine wp_ret ?_
      refine then_ret ?_
      refine end_retCT (cs := [.int .i64 0, .int .i64 0]) (v := .int .i64 r12) rfl hr (by kernel_rfl) (by kernel_rfl) (by kernel_rfl) (by kernel_rfl) ⟨h.cell 0 rfl, h.cell 1 rfl, trivial⟩ ?_
      replace h : Fit z (sepL (ob103 B0 S13 caq15 ccq16 caq17 ccq18 :: ro2 caq15 ccq16 S13.cell :: ro96 caq17 ccq18 S13.log :: L)) _ := h.sel 4 [1, 2, 3] (by kernel_rfl) (by kernel_rfl)
      replace H := ej3 H; obtain ⟨rfl, rfl, rfl⟩ := H
      exact ⟨caq15, ccq16, caq17, ccq18, rfl, h⟩

/-- (*plunder/cells.Arena).Cells -/
def cells_Arena_Cells (p0 : T_cells_Arena) : Option ((List Int)) :=
  if 0 ≤ ((p0.cell.length : Nat) : Int) ∧ ((p0.cell.length : Nat) : Int) * 8 ≤ 140737488355328 then if p0.cell.length = (List.replicate p0.cell.length (0 : Int)).length then some p0.cell else none else none
set_option maxRecDepth 100000 in
set_option maxHeartbeats 4000000 in
theorem cells_Arena_Cells_ok {z w : World} {L : List HProp} {p0 : T_cells_Arena} {B0 : Nat} {ca1 : Option Addr} {cc2 : Nat} {ca3 : Option Addr} {cc4 : Nat} {r0 : List Int} (H : cells_Arena_Cells p0 = some r0) (h : Fit z (sepL (ob103 B0 p0 ca1 cc2 ca3 cc4 :: ro2 ca1 cc2 p0.cell :: ro96 ca3 cc4 p0.log :: L)) w)  :
    Calls Try.prog 21 #[.pointer (some ⟨B0, 0, none⟩)] w fun e w => ∃ car0_1 : Option Addr, e = .returned (.slice car0_1 r0.length r0.length) ∧ Fit z (sepL (ob103 B0 p0 ca1 cc2 ca3 cc4 :: ro2 ca1 cc2 p0.cell :: ro96 ca3 cc4 p0.log :: ro2 car0_1 r0.length r0 :: L)) w := by
  unfold cells_Arena_Cells at H
  refine enter Try.func21 rfl 19 rfl rfl [(0, .pointer (some ⟨B0, 0, none⟩))] ⟨rfl, trivial⟩ ?_
  intro j a hr
  refine wp_seq ?_
  refine wp_region_lit ?_
  refine ov hr (.slice none 0 0) (by kernel_rfl) ?_; clear hr a; intro a hr
  refine wpList_nil ?_
  refine then_normal ?_
  refine wp_seq ?_
  refine wp_seq ?_
  refine wp_region_lit ?_
  refine ovs [4, 5] [.pointer (some ⟨B0, 0, none⟩), .bool false] hr ⟨rfl, rfl⟩ (by kernel_rfl) ?_; clear hr a; intro a hr
  refine wpList_nil ?_
  refine then_normal ?_
  refine cond_ff hr (b := false) rfl ?_
  refine wp_skip ?_
  refine then_normal ?_
  refine wp_seq ?_
  refine wp_region_lit ?_
  refine ovs [6, 7, 8] [.pointer (some ⟨B0, 0, none⟩), .pointer (some ⟨B0, 0, none⟩), .pointer (some ⟨B0, 2, none⟩)] hr ⟨rfl, rfl⟩ (by kernel_rfl) ?_; clear hr a; intro a hr
  refine op_val (wn rfl) rfl rfl hr (v := .slice ca1 p0.cell.length cc2) (rl rfl (by kernel_rfl) (by kernel_rfl) (h.cell 2 rfl)) ?_; clear hr a; intro a hr
  replace H := gd H; obtain ⟨c5, H⟩ := H
  refine ov hr (.int .i64 ((p0.cell.length : Nat) : Int)) (by kernel_rfl) ?_; clear hr a; intro a hr
  refine op_make_row (i := ((p0.cell.length : Nat) : Int)) (bytes := 8) (zc := #[.int .i64 0]) (0 : Int) (wn rfl) rfl rfl hr rfl (by kernel_rfl) (by kernel_rfl) c5 encZ_i64_ok (E := 2) (by kernel_rfl) (by kernel_rfl) rfl rfl h ?_; clear h hr a; intro ca6 w a h hr
  refine ov hr (.slice ca6 ((List.replicate p0.cell.length (0 : Int)).length) p0.cell.length) (by kernel_rfl) ?_; clear hr a; intro a hr
  refine wpList_nil ?_
  replace h : Fit z (sepL (ro2 ca6 p0.cell.length (List.replicate p0.cell.length (0 : Int)) :: ob103 B0 p0 ca1 cc2 ca3 cc4 :: ro2 ca1 cc2 p0.cell :: ro96 ca3 cc4 p0.log :: L)) _ := h
  refine then_normal ?_
  refine wp_seq ?_
  refine wp_region_lit ?_
  refine ovs [12, 13, 14, 15] [.slice ca6 ((List.replicate p0.cell.length (0 : Int)).length) p0.cell.length, .pointer (some ⟨B0, 0, none⟩), .pointer (some ⟨B0, 0, none⟩), .pointer (some ⟨B0, 2, none⟩)] hr ⟨rfl, rfl⟩ (by kernel_rfl) ?_; clear hr a; intro a hr
  refine op_val (wn rfl) rfl rfl hr (v := .slice ca1 p0.cell.length cc2) (rl rfl (by kernel_rfl) (by kernel_rfl) ((h.pick 1).cell 2 rfl)) ?_; clear hr a; intro a hr
  replace H := gd H; obtain ⟨c7, H⟩ := H
  replace h : Fit z (sepL (ro2 ca6 p0.cell.length (List.replicate p0.cell.length (0 : Int)) :: ro2 ca1 cc2 p0.cell :: ob103 B0 p0 ca1 cc2 ca3 cc4 :: ro96 ca3 cc4 p0.log :: L)) _ := h.sel 4 [0, 2, 1, 3] (by kernel_rfl) (by kernel_rfl)
  refine op_copy_row (wn rfl) rfl rfl hr rfl (by kernel_rfl) (by kernel_rfl) encZ_i64_ok (E := 2) (by kernel_rfl) (by kernel_rfl) c7 h ?_; clear h hr a; intro w a h hr
  refine wpList_nil ?_
  replace h : Fit z (sepL (rowOf 2 1 encZ_i64 (.slice ca6 ((List.replicate p0.cell.length (0 : Int)).length) p0.cell.length) p0.cell :: ro2 ca1 cc2 p0.cell :: ob103 B0 p0 ca1 cc2 ca3 cc4 :: ro96 ca3 cc4 p0.log :: L)) _ := h
  refine then_normal ?_
  refine wp_seq ?_
  refine wp_region_lit ?_
  refine ovs [18, 2] [.slice ca6 ((List.replicate p0.cell.length (0 : Int)).length) p0.cell.length, .slice ca6 ((List.replicate p0.cell.length (0 : Int)).length) p0.cell.length] hr ⟨rfl, rfl⟩ (by kernel_rfl) ?_; clear hr a; intro a hr
  refine wpList_nil ?_
  refine then_normal ?_
  refine wp_ret ?_
  refine end_ret1 (v := .slice ca6 ((List.replicate p0.cell.length (0 : Int)).length) p0.cell.length) rfl hr (by kernel_rfl) ?_
  have hn7 := h.row_n
  replace h : Fit z (sepL (ro2 ca6 p0.cell.length p0.cell :: ro2 ca1 cc2 p0.cell :: ob103 B0 p0 ca1 cc2 ca3 cc4 :: ro96 ca3 cc4 p0.log :: L)) w := (congrArg (fun q_ : Nat => Fit z (sepL (rowOf 2 1 encZ_i64 (.slice ca6 q_ p0.cell.length) p0.cell :: ro2 ca1 cc2 p0.cell :: ob103 B0 p0 ca1 cc2 ca3 cc4 :: ro96 ca3 cc4 p0.log :: L)) w) h.row_n).mp h
  replace h : Fit z (sepL (ob103 B0 p0 ca1 cc2 ca3 cc4 :: ro2 ca1 cc2 p0.cell :: ro96 ca3 cc4 p0.log :: ro2 ca6 p0.cell.length p0.cell :: L)) _ := h.sel 4 [2, 1, 3, 0] (by kernel_rfl) (by kernel_rfl)
  replace H := ej1 H; subst H
  exact ⟨ca6, (by simp only [hn7]), h⟩

def plunderref2_Arena_Cells_l1 (K : Nat) (p0 : T_plunderref2_Arena) : Nat → (List Int) → Int → Option ((List Int))
  | 0, _, _ => none
  | k1 + 1, l7, g8 => (if g8 < ((p0.Held.length : Nat) : Int) then if inr_ g8 p0.Held.length then if (l7.length + 1) * 8 ≤ 140737488355328 then (plunderref2_Arena_Cells_l1 K p0 k1 (l7 ++ [(at_ p0.Held g8.toNat)]) (wi (g8 + (1 : Int)))) else none else none else some l7)
/-- (*plunder/plunderref2.Arena).Cells -/
def plunderref2_Arena_Cells (K : Nat) (p0 : T_plunderref2_Arena) : Option ((List Int)) :=
  (plunderref2_Arena_Cells_l1 K p0 K ([] : List Int) 0)
set_option maxRecDepth 100000 in
set_option maxHeartbeats 4000000 in
theorem plunderref2_Arena_Cells_ok {z w : World} {L : List HProp} {K : Nat} {p0 : T_plunderref2_Arena} {B0 : Nat} {ca1 : Option Addr} {cc2 : Nat} {ca3 : Option Addr} {cc4 : Nat} {r0 : List Int} (H : plunderref2_Arena_Cells K p0 = some r0) (h : Fit z (sepL (ob34 B0 p0 ca1 cc2 ca3 cc4 :: ro2 ca1 cc2 p0.Held :: ro96 ca3 cc4 p0.Book :: L)) w)  :
    Calls Try.prog 22 #[.pointer (some ⟨B0, 0, none⟩)] w fun e w => ∃ car0_1 : Option Addr, ∃ ccr0_2 : Nat, e = .returned (.slice car0_1 r0.length ccr0_2) ∧ Fit z (sepL (ob34 B0 p0 ca1 cc2 ca3 cc4 :: ro2 ca1 cc2 p0.Held :: ro96 ca3 cc4 p0.Book :: ro2 car0_1 ccr0_2 r0 :: L)) w := by
  unfold plunderref2_Arena_Cells at H
  refine enter Try.func22 rfl 25 rfl rfl [(0, .pointer (some ⟨B0, 0, none⟩))] ⟨rfl, trivial⟩ ?_
  intro j a hr
  refine wp_seq ?_
  refine wp_region_lit ?_
  refine ov hr (.slice none 0 0) (by kernel_rfl) ?_; clear hr a; intro a hr
  refine wpList_nil ?_
  refine then_normal ?_
  refine wp_seq ?_
  refine wp_region_lit ?_
  refine ov hr (.slice none 0 0) (by kernel_rfl) ?_; clear hr a; intro a hr
  refine wpList_nil ?_
  refine then_normal ?_
  refine wp_seq ?_
  refine wp_seq ?_
  refine wp_region_lit ?_
  refine ov hr (.int .i64 0) (by kernel_rfl) ?_; clear hr a; intro a hr
  refine wpList_nil ?_
  refine then_normal ?_
  refine wp_block ?_
  replace hr := hr.fold2 [(0, .pointer (some ⟨B0, 0, none⟩)), (3, .slice none (([] : List Int).length) 0), (4, .int .i64 0)] (by kernel_rfl); obtain ⟨j, hr⟩ := hr
  replace h : Fit z (sepL (rowOf 2 1 encZ_i64 (.slice none 0 0) ([] : List Int) :: ob34 B0 p0 ca1 cc2 ca3 cc4 :: ro2 ca1 cc2 p0.Held :: ro96 ca3 cc4 p0.Book :: L)) _ := h.row_nil
  replace h : Fit z (sepL (ob34 B0 p0 ca1 cc2 ca3 cc4 :: ro2 ca1 cc2 p0.Held :: ro96 ca3 cc4 p0.Book :: rowOf 2 1 encZ_i64 (.slice none (([] : List Int).length) 0) ([] : List Int) :: L)) _ := h.sel 4 [1, 2, 3, 0] (by kernel_rfl) (by kernel_rfl)
  refine loop_rule (β := Nat) id (fun m a w => ∃ ca5 : Option Addr, ∃ cc6 : Nat, ∃ l7 : List Int, ∃ g8 : Int, (plunderref2_Arena_Cells_l1 K p0 m l7 g8) = some r0 ∧ ∃ j, Rep 25 (lk [(0, .pointer (some ⟨B0, 0, none⟩)), (3, .slice ca5 l7.length cc6), (4, .int .i64 g8)] j) a ∧ Fit z (sepL (ob34 B0 p0 ca1 cc2 ca3 cc4 :: ro2 ca1 cc2 p0.Held :: ro96 ca3 cc4 p0.Book :: ro2 ca5 cc6 l7 :: L)) w) K ⟨none, 0, ([] : List Int), 0, H, j, hr, h⟩ ?_
  clear h hr a H; rintro k1 a w ⟨ca5, cc6, l7, g8, H, j, hr, h⟩
  cases k1 with
  | zero => exact absurd H (by simp [plunderref2_Arena_Cells_l1])
  | succ k1 =>
    rw [plunderref2_Arena_Cells_l1] at H
    refine wp_seq ?_
    refine wp_seq ?_
    refine wp_region_lit ?_
    refine ovs [5, 6, 7, 8] [.int .i64 g8, .pointer (some ⟨B0, 0, none⟩), .pointer (some ⟨B0, 0, none⟩), .pointer (some ⟨B0, 1, none⟩)] hr ⟨rfl, rfl⟩ (by kernel_rfl) ?_; clear hr a; intro a hr
    refine op_val (wn rfl) rfl rfl hr (v := .slice ca1 p0.Held.length cc2) (rl rfl (by kernel_rfl) (by kernel_rfl) (h.cell 1 rfl)) ?_; clear hr a; intro a hr
    refine ovs [10, 11] [.int .i64 ((p0.Held.length : Nat) : Int), .bool (decide (g8 < ((p0.Held.length : Nat) : Int)))] hr ⟨rfl, rfl⟩ (by kernel_rfl) ?_; clear hr a; intro a hr
    refine wpList_nil ?_
    refine then_normal ?_
    by_cases c9 : g8 < ((p0.Held.length : Nat) : Int)
    ·
      replace H := ifT c9 H
      refine cond_tt hr (b := (decide (g8 < ((p0.Held.length : Nat) : Int)))) (decide_eq_true c9) ?_
      refine wp_skip ?_
      refine then_normal ?_
      refine wp_seq ?_
      refine wp_block ?_
      refine wp_region_lit ?_
      refine ovs [14, 15, 16, 17] [.slice ca5 l7.length cc6, .pointer (some ⟨B0, 0, none⟩), .pointer (some ⟨B0, 0, none⟩), .pointer (some ⟨B0, 1, none⟩)] hr ⟨rfl, rfl⟩ (by kernel_rfl) ?_; clear hr a; intro a hr
      refine op_val (wn rfl) rfl rfl hr (v := .slice ca1 p0.Held.length cc2) (rl rfl (by kernel_rfl) (by kernel_rfl) (h.cell 1 rfl)) ?_; clear hr a; intro a hr
      replace H := gd H; obtain ⟨c10, H⟩ := H
      refine ov hr (.int .i64 g8) (by kernel_rfl) ?_; clear hr a; intro a hr
      refine op_val (wn rfl) rfl rfl hr (v := .pointer (some ⟨blk ca1, g8.toNat * 1, none⟩)) (ri_row (k := .i64) (E := 2) rfl (by kernel_rfl) (by kernel_rfl) (by kernel_rfl) (by kernel_rfl) (h.pick 1) c10) ?_; clear hr a; intro a hr
      refine op_val (wn rfl) rfl rfl hr (v := .int .i64 (at_ p0.Held g8.toNat)) (rl rfl (by kernel_rfl) (by kernel_rfl) ((h.pick 1).row_cell encZ_i64_ok (f := 0) (at_ok c10) rfl)) ?_; clear hr a; intro a hr
      refine op_new (wn rfl) rfl rfl hr h (vf := fun b => .slice (some ⟨b, 0, none⟩) 1 1) (cs := #[.int .i64 (at_ p0.Held g8.toNat)]) (T := 2) (by kernel_rfl) ?_; clear h hr a; intro b11 w a h hr
      replace h : Fit z (sepL (ro2 ca5 cc6 l7 :: pts b11 (.cells #[.int .i64 (at_ p0.Held g8.toNat)] 2) :: ob34 B0 p0 ca1 cc2 ca3 cc4 :: ro2 ca1 cc2 p0.Held :: ro96 ca3 cc4 p0.Book :: L)) _ := h.sel 5 [4, 0, 1, 2, 3] (by kernel_rfl) (by kernel_rfl)
      replace H := gd H; obtain ⟨c14, H⟩ := H
      refine op_append (n0 := l7.length) (c := 1) (bytes := 8) (wn rfl) rfl rfl hr rfl (by kernel_rfl) (by kernel_rfl) encZ_i64_ok (E := 2) (xs := l7) (by kernel_rfl) (by kernel_rfl) h (news := [(at_ p0.Held g8.toNat)]) (m := 1) rfl ((h.pick 1).news rfl) c14 rfl ?_; clear h hr a; intro ca12 cc13 w a h hr
      refine ov hr (.slice ca12 ((l7 ++ [(at_ p0.Held g8.toNat)]).length) cc13) (by kernel_rfl) ?_; clear hr a; intro a hr
      refine wpList_nil ?_
      replace h : Fit z (sepL (ro2 ca12 cc13 (l7 ++ [(at_ p0.Held g8.toNat)]) :: pts b11 (.cells #[.int .i64 (at_ p0.Held g8.toNat)] 2) :: ob34 B0 p0 ca1 cc2 ca3 cc4 :: ro2 ca1 cc2 p0.Held :: ro96 ca3 cc4 p0.Book :: L)) _ := h
      refine blk_normal ?_
      refine then_normal ?_
      refine wp_region_lit ?_
      refine ovs [12, 13, 4] [.int .i64 g8, .int .i64 (wi (g8 + (1 : Int))), .int .i64 (wi (g8 + (1 : Int)))] hr ⟨rfl, rfl⟩ (by kernel_rfl) ?_; clear hr a; intro a hr
      refine wpList_nil ?_
      refine then_normal ?_
      replace hr := hr.fold2 [(0, .pointer (some ⟨B0, 0, none⟩)), (3, .slice ca12 ((l7 ++ [(at_ p0.Held g8.toNat)]).length) cc13), (4, .int .i64 (wi (g8 + (1 : Int))))] (by kernel_rfl); obtain ⟨j, hr⟩ := hr
      replace h : Fit z (sepL (ob34 B0 p0 ca1 cc2 ca3 cc4 :: ro2 ca1 cc2 p0.Held :: ro96 ca3 cc4 p0.Book :: ro2 ca12 cc13 (l7 ++ [(at_ p0.Held g8.toNat)]) :: L)) _ := h.sel 5 [2, 3, 4, 0] (by kernel_rfl) (by kernel_rfl)
      exact ⟨_, ⟨ca12, cc13, (l7 ++ [(at_ p0.Held g8.toNat)]), (wi (g8 + (1 : Int))), H, j, hr, h⟩, Nat.lt_succ_self _⟩
    ·
      replace H := ifF c9 H
      refine cond_ff hr (b := (decide (g8 < ((p0.Held.length : Nat) : Int)))) (decide_eq_false c9) ?_
      refine wp_exit ?_
      refine then_exit ?_
      refine then_exit ?_
      refine blk_here ?_
      refine then_normal ?_
      refine wp_seq ?_
      refine wp_region_lit ?_
      refine ovs [24, 2] [.slice ca5 l7.length cc6, .slice ca5 l7.length cc6] hr ⟨rfl, rfl⟩ (by kernel_rfl) ?_; clear hr a; intro a hr
      refine wpList_nil ?_
      refine then_normal ?_
      refine wp_ret ?_
      refine end_ret1 (v := .slice ca5 l7.length cc6) rfl hr (by kernel_rfl) ?_
      replace H := ej1 H; subst H
      exact ⟨ca5, cc6, rfl, h⟩

def plunderlaw8_sameNumbers_l1 (K : Nat) (p0 : List Int) (p1 : List Int) : Nat → Int → Option (Bool)
  | 0, _ => none
  | k1 + 1, g2 => (if g2 < ((p0.length : Nat) : Int) then if inr_ g2 p0.length then if inr_ g2 p1.length then (if (at_ p0 g2.toNat) = (at_ p1 g2.toNat) then (plunderlaw8_sameNumbers_l1 K p0 p1 k1 (wi (g2 + (1 : Int)))) else some false) else none else none else some true)
/-- plunder/plunderlaw8.sameNumbers -/
def plunderlaw8_sameNumbers (K : Nat) (p0 : List Int) (p1 : List Int) : Option (Bool) :=
  (if ((p0.length : Nat) : Int) = ((p1.length : Nat) : Int) then (plunderlaw8_sameNumbers_l1 K p0 p1 K 0) else some false)
set_option maxRecDepth 100000 in
set_option maxHeartbeats 4000000 in
theorem plunderlaw8_sameNumbers_ok {z w : World} {L : List HProp} {K : Nat} {p0 : List Int} {p1 : List Int} {va0 : Option Addr} {vc0 : Nat} {va1 : Option Addr} {vc1 : Nat} {r0 : Bool} (H : plunderlaw8_sameNumbers K p0 p1 = some r0) (h : Fit z (sepL (L)) w) (hv0 : RdRow L 1 encZ_i64 va0 p0) (hv1 : RdRow L 1 encZ_i64 va1 p1) :
    Calls Try.prog 20 #[.slice va0 p0.length vc0, .slice va1 p1.length vc1] w fun e w => e = .returned (.bool r0) ∧ Fit z (sepL (L)) w := by
  unfold plunderlaw8_sameNumbers at H
  refine enter Try.func20 rfl 26 rfl rfl [(0, .slice va0 p0.length vc0), (1, .slice va1 p1.length vc1)] ⟨rfl, rfl, trivial⟩ ?_
  intro j a hr
  refine wp_seq ?_
  refine wp_region_lit ?_
  refine ov hr (.bool false) (by kernel_rfl) ?_; clear hr a; intro a hr
  refine wpList_nil ?_
  refine then_normal ?_
  refine wp_seq ?_
  refine wp_seq ?_
  refine wp_region_lit ?_
  refine ovs [6, 7, 8, 9, 10] [.slice va0 p0.length vc0, .int .i64 ((p0.length : Nat) : Int), .slice va1 p1.length vc1, .int .i64 ((p1.length : Nat) : Int), .bool (((p0.length : Nat) : Int) != ((p1.length : Nat) : Int))] hr ⟨rfl, rfl⟩ (by kernel_rfl) ?_; clear hr a; intro a hr
  refine wpList_nil ?_
  refine then_normal ?_
  by_cases c1 : ((p0.length : Nat) : Int) = ((p1.length : Nat) : Int)
  ·
    replace H := ifT c1 H
    refine cond_ff hr (b := (((p0.length : Nat) : Int) != ((p1.length : Nat) : Int))) (bne_eq_false_iff_eq.mpr c1) ?_
    refine wp_skip ?_
    refine then_normal ?_
    refine wp_seq ?_
    refine wp_seq ?_
    refine wp_region_lit ?_
    refine ov hr (.int .i64 0) (by kernel_rfl) ?_; clear hr a; intro a hr
    refine wpList_nil ?_
    refine then_normal ?_
    refine wp_block ?_
    replace hr := hr.fold2 [(0, .slice va0 p0.length vc0), (1, .slice va1 p1.length vc1), (5, .int .i64 0)] (by kernel_rfl); obtain ⟨j, hr⟩ := hr
    refine loop_rule (β := Nat) id (fun m a w => ∃ g2 : Int, (plunderlaw8_sameNumbers_l1 K p0 p1 m g2) = some r0 ∧ ∃ j, Rep 26 (lk [(0, .slice va0 p0.length vc0), (1, .slice va1 p1.length vc1), (5, .int .i64 g2)] j) a ∧ Fit z (sepL (L)) w) K ⟨0, H, j, hr, h⟩ ?_
    clear h hr a H; rintro k1 a w ⟨g2, H, j, hr, h⟩
    cases k1 with
    | zero => exact absurd H (by simp [plunderlaw8_sameNumbers_l1])
    | succ k1 =>
      rw [plunderlaw8_sameNumbers_l1] at H
      refine wp_seq ?_
      refine wp_seq ?_
      refine wp_region_lit ?_
      refine ovs [11, 12, 13, 14] [.int .i64 g2, .slice va0 p0.length vc0, .int .i64 ((p0.length : Nat) : Int), .bool (decide (g2 < ((p0.length : Nat) : Int)))] hr ⟨rfl, rfl⟩ (by kernel_rfl) ?_; clear hr a; intro a hr
      refine wpList_nil ?_
      refine then_normal ?_
      by_cases c3 : g2 < ((p0.length : Nat) : Int)
      ·
        replace H := ifT c3 H
        refine cond_tt hr (b := (decide (g2 < ((p0.length : Nat) : Int)))) (decide_eq_true c3) ?_
        refine wp_skip ?_
        refine then_normal ?_
        refine wp_seq ?_
        refine wp_block ?_
        refine wp_seq ?_
        replace H := gd H; obtain ⟨c4, H⟩ := H
        replace H := gd H; obtain ⟨c5, H⟩ := H
        refine reg_E (fun w => heldC w (blk va0) (offs va0 + g2.toNat * 1) [.int .i64 (at_ p0 g2.toNat)] ∧ heldC w (blk va1) (offs va1 + g2.toNat * 1) [.int .i64 (at_ p1 g2.toNat)] ∧ True) [2, 6] h (by kernel_rfl) ?_; intro w h
        change wpAnyE _ _ _ _ _ _ 9 (Array.replicate 9 false) a w
        have hgo : ∀ w w', CellsGo w w' → (heldC w (blk va0) (offs va0 + g2.toNat * 1) [.int .i64 (at_ p0 g2.toNat)] ∧ heldC w (blk va1) (offs va1 + g2.toNat * 1) [.int .i64 (at_ p1 g2.toNat)] ∧ True) → heldC w' (blk va0) (offs va0 + g2.toNat * 1) [.int .i64 (at_ p0 g2.toNat)] ∧ heldC w' (blk va1) (offs va1 + g2.toNat * 1) [.int .i64 (at_ p1 g2.toNat)] ∧ True := fun w w' g hD => ⟨heldC_go _ _ _ _ _ g hD.1, heldC_go _ _ _ _ _ g hD.2.1, trivial⟩
        refine ev 8 0 rfl (by kernel_rfl) (wn rfl) hr (.slice va0 p0.length vc0) (fun w => by kernel_rfl) ?_; clear hr a; intro a hr
        refine ev 7 1 rfl (by kernel_rfl) (wn rfl) hr (.int .i64 g2) (fun w => by kernel_rfl) ?_; clear hr a; intro a hr
        refine evD hgo ⟨⟨hv0.cell c4 (h.dn 0) 0 rfl, trivial⟩, ⟨hv1.cell c5 (h.dn 0) 0 rfl, trivial⟩, trivial⟩ 6 2 rfl (by kernel_rfl) (wn rfl) hr (.pointer (some ⟨blk va0, offs va0 + g2.toNat * 1, none⟩)) (fun w => ri_rd (k := .i64) (E := 2) (cc := vc0) rfl (by kernel_rfl) (by kernel_rfl) rfl (by kernel_rfl) (by kernel_rfl) hv0 c4) ?_; clear hr a; intro a hr
        refine ev 5 4 rfl (by kernel_rfl) (wn rfl) hr (.slice va1 p1.length vc1) (fun w => by kernel_rfl) ?_; clear hr a; intro a hr
        refine ev 4 5 rfl (by kernel_rfl) (wn rfl) hr (.int .i64 g2) (fun w => by kernel_rfl) ?_; clear hr a; intro a hr
        refine evD hgo ⟨⟨hv0.cell c4 (h.dn 0) 0 rfl, trivial⟩, ⟨hv1.cell c5 (h.dn 0) 0 rfl, trivial⟩, trivial⟩ 3 6 rfl (by kernel_rfl) (wn rfl) hr (.pointer (some ⟨blk va1, offs va1 + g2.toNat * 1, none⟩)) (fun w => ri_rd (k := .i64) (E := 2) (cc := vc1) rfl (by kernel_rfl) (by kernel_rfl) rfl (by kernel_rfl) (by kernel_rfl) hv1 c5) ?_; clear hr a; intro a hr
        refine el [2, 6] (b := blk va0) (off := offs va0 + g2.toNat * 1) (cs := [.int .i64 (at_ p0 g2.toNat)]) (fun _ hk => ⟨hk, fun w hD => hD.1⟩) 2 3 rfl (by kernel_rfl) (wn rfl) hr (.int .i64 (at_ p0 g2.toNat)) ⟨hv0.cell c4 (h.dn 0) 0 rfl, trivial⟩ (fun w hc => rl rfl (by kernel_rfl) (by kernel_rfl) hc.1) ?_; clear hr a; intro a hr
        refine el [2, 6] (b := blk va1) (off := offs va1 + g2.toNat * 1) (cs := [.int .i64 (at_ p1 g2.toNat)]) (fun _ hk => ⟨hk, fun w hD => hD.2.1⟩) 1 7 rfl (by kernel_rfl) (wn rfl) hr (.int .i64 (at_ p1 g2.toNat)) ⟨hv1.cell c5 (h.dn 0) 0 rfl, trivial⟩ (fun w hc => rl rfl (by kernel_rfl) (by kernel_rfl) hc.1) ?_; clear hr a; intro a hr
        refine ev 0 8 rfl (by kernel_rfl) (wn rfl) hr (.bool ((at_ p0 g2.toNat) != (at_ p1 g2.toNat))) (fun w => by kernel_rfl) ?_; clear hr a; intro a hr
        refine e_end (by kernel_rfl) ?_
        refine then_normal ?_
        by_cases c6 : (at_ p0 g2.toNat) = (at_ p1 g2.toNat)
        ·
          replace H := ifT c6 H
          refine cond_ff hr (b := ((at_ p0 g2.toNat) != (at_ p1 g2.toNat))) (bne_eq_false_iff_eq.mpr c6) ?_
          refine wp_skip ?_
          refine blk_normal ?_
          refine then_normal ?_
          refine wp_region_lit ?_
          refine ovs [15, 16, 5] [.int .i64 g2, .int .i64 (wi (g2 + (1 : Int))), .int .i64 (wi (g2 + (1 : Int)))] hr ⟨rfl, rfl⟩ (by kernel_rfl) ?_; clear hr a; intro a hr
          refine wpList_nil ?_
          refine then_normal ?_
          replace hr := hr.fold2 [(0, .slice va0 p0.length vc0), (1, .slice va1 p1.length vc1), (5, .int .i64 (wi (g2 + (1 : Int))))] (by kernel_rfl); obtain ⟨j, hr⟩ := hr
          exact ⟨_, ⟨(wi (g2 + (1 : Int))), H, j, hr, h⟩, Nat.lt_succ_self _⟩
        ·
          replace H := ifF c6 H
          refine cond_tt hr (b := ((at_ p0 g2.toNat) != (at_ p1 g2.toNat))) (bne_iff_ne.mpr c6) ?_
          refine wp_seq ?_
          refine wp_region_lit ?_
          refine ov hr (.bool false) (by kernel_rfl) ?_; clear hr a; intro a hr
          refine wpList_nil ?_
          refine then_normal ?_
          refine wp_ret ?_
          refine blk_ret ?_
          refine then_ret ?_
          refine then_ret ?_
          refine blk_ret ?_
          refine then_ret ?_
          refine end_ret1 (v := .bool false) rfl hr (by kernel_rfl) ?_
          replace H := ej1 H; subst H
          exact ⟨rfl, h⟩
      ·
        replace H := ifF c3 H
        refine cond_ff hr (b := (decide (g2 < ((p0.length : Nat) : Int)))) (decide_eq_false c3) ?_
        refine wp_exit ?_
        refine then_exit ?_
        refine then_exit ?_
        refine blk_here ?_
        refine then_normal ?_
        refine wp_seq ?_
        refine wp_region_lit ?_
        refine ov hr (.bool true) (by kernel_rfl) ?_; clear hr a; intro a hr
        refine wpList_nil ?_
        refine then_normal ?_
        refine wp_ret ?_
        refine end_ret1 (v := .bool true) rfl hr (by kernel_rfl) ?_
        replace H := ej1 H; subst H
        exact ⟨rfl, h⟩
  ·
    replace H := ifF c1 H
    refine cond_tt hr (b := (((p0.length : Nat) : Int) != ((p1.length : Nat) : Int))) (bne_iff_ne.mpr c1) ?_
    refine wp_seq ?_
    refine wp_region_lit ?_
    refine ov hr (.bool false) (by kernel_rfl) ?_; clear hr a; intro a hr
    refine wpList_nil ?_
    refine then_normal ?_
    refine wp_ret ?_
    refine then_ret ?_
    refine end_ret1 (v := .bool false) rfl hr (by kernel_rfl) ?_
    replace H := ej1 H; subst H
    exact ⟨rfl, h⟩

/-- (*plunder/cells.Arena).Log -/
def cells_Arena_Log (p0 : T_cells_Arena) : Option ((List T_api_Access)) :=
  if 0 ≤ ((p0.log.length : Nat) : Int) ∧ ((p0.log.length : Nat) : Int) * 48 ≤ 140737488355328 then if p0.log.length = (List.replicate p0.log.length (⟨0, 0, 0, 0, 0, false⟩ : T_api_Access)).length then some p0.log else none else none
set_option maxRecDepth 100000 in
set_option maxHeartbeats 4000000 in
theorem cells_Arena_Log_ok {z w : World} {L : List HProp} {p0 : T_cells_Arena} {B0 : Nat} {ca1 : Option Addr} {cc2 : Nat} {ca3 : Option Addr} {cc4 : Nat} {r0 : List T_api_Access} (H : cells_Arena_Log p0 = some r0) (h : Fit z (sepL (ob103 B0 p0 ca1 cc2 ca3 cc4 :: ro2 ca1 cc2 p0.cell :: ro96 ca3 cc4 p0.log :: L)) w)  :
    Calls Try.prog 24 #[.pointer (some ⟨B0, 0, none⟩)] w fun e w => ∃ car0_1 : Option Addr, e = .returned (.slice car0_1 r0.length r0.length) ∧ Fit z (sepL (ob103 B0 p0 ca1 cc2 ca3 cc4 :: ro2 ca1 cc2 p0.cell :: ro96 ca3 cc4 p0.log :: ro96 car0_1 r0.length r0 :: L)) w := by
  unfold cells_Arena_Log at H
  refine enter Try.func24 rfl 19 rfl rfl [(0, .pointer (some ⟨B0, 0, none⟩))] ⟨rfl, trivial⟩ ?_
  intro j a hr
  refine wp_seq ?_
  refine wp_region_lit ?_
  refine ov hr (.slice none 0 0) (by kernel_rfl) ?_; clear hr a; intro a hr
  refine wpList_nil ?_
  refine then_normal ?_
  refine wp_seq ?_
  refine wp_seq ?_
  refine wp_region_lit ?_
  refine ovs [4, 5] [.pointer (some ⟨B0, 0, none⟩), .bool false] hr ⟨rfl, rfl⟩ (by kernel_rfl) ?_; clear hr a; intro a hr
  refine wpList_nil ?_
  refine then_normal ?_
  refine cond_ff hr (b := false) rfl ?_
  refine wp_skip ?_
  refine then_normal ?_
  refine wp_seq ?_
  refine wp_region_lit ?_
  refine ovs [6, 7, 8] [.pointer (some ⟨B0, 0, none⟩), .pointer (some ⟨B0, 0, none⟩), .pointer (some ⟨B0, 3, none⟩)] hr ⟨rfl, rfl⟩ (by kernel_rfl) ?_; clear hr a; intro a hr
  refine op_val (wn rfl) rfl rfl hr (v := .slice ca3 p0.log.length cc4) (rl rfl (by kernel_rfl) (by kernel_rfl) (h.cell 3 rfl)) ?_; clear hr a; intro a hr
  replace H := gd H; obtain ⟨c5, H⟩ := H
  refine ov hr (.int .i64 ((p0.log.length : Nat) : Int)) (by kernel_rfl) ?_; clear hr a; intro a hr
  refine op_make_row (i := ((p0.log.length : Nat) : Int)) (bytes := 48) (zc := #[.int .i64 0, .int .i64 0, .int .i64 0, .int .i64 0, .int .i64 0, .bool false]) (⟨0, 0, 0, 0, 0, false⟩ : T_api_Access) (wn rfl) rfl rfl hr rfl (by kernel_rfl) (by kernel_rfl) c5 enc_T_api_Access_ok (E := 96) (by kernel_rfl) (by kernel_rfl) rfl rfl h ?_; clear h hr a; intro ca6 w a h hr
  refine ov hr (.slice ca6 ((List.replicate p0.log.length (⟨0, 0, 0, 0, 0, false⟩ : T_api_Access)).length) p0.log.length) (by kernel_rfl) ?_; clear hr a; intro a hr
  refine wpList_nil ?_
  replace h : Fit z (sepL (ro96 ca6 p0.log.length (List.replicate p0.log.length (⟨0, 0, 0, 0, 0, false⟩ : T_api_Access)) :: ob103 B0 p0 ca1 cc2 ca3 cc4 :: ro2 ca1 cc2 p0.cell :: ro96 ca3 cc4 p0.log :: L)) _ := h
  refine then_normal ?_
  refine wp_seq ?_
  refine wp_region_lit ?_
  refine ovs [12, 13, 14, 15] [.slice ca6 ((List.replicate p0.log.length (⟨0, 0, 0, 0, 0, false⟩ : T_api_Access)).length) p0.log.length, .pointer (some ⟨B0, 0, none⟩), .pointer (some ⟨B0, 0, none⟩), .pointer (some ⟨B0, 3, none⟩)] hr ⟨rfl, rfl⟩ (by kernel_rfl) ?_; clear hr a; intro a hr
  refine op_val (wn rfl) rfl rfl hr (v := .slice ca3 p0.log.length cc4) (rl rfl (by kernel_rfl) (by kernel_rfl) ((h.pick 1).cell 3 rfl)) ?_; clear hr a; intro a hr
  replace H := gd H; obtain ⟨c7, H⟩ := H
  replace h : Fit z (sepL (ro96 ca6 p0.log.length (List.replicate p0.log.length (⟨0, 0, 0, 0, 0, false⟩ : T_api_Access)) :: ro96 ca3 cc4 p0.log :: ob103 B0 p0 ca1 cc2 ca3 cc4 :: ro2 ca1 cc2 p0.cell :: L)) _ := h.sel 4 [0, 3, 1, 2] (by kernel_rfl) (by kernel_rfl)
  refine op_copy_row (wn rfl) rfl rfl hr rfl (by kernel_rfl) (by kernel_rfl) enc_T_api_Access_ok (E := 96) (by kernel_rfl) (by kernel_rfl) c7 h ?_; clear h hr a; intro w a h hr
  refine wpList_nil ?_
  replace h : Fit z (sepL (rowOf 96 6 enc_T_api_Access (.slice ca6 ((List.replicate p0.log.length (⟨0, 0, 0, 0, 0, false⟩ : T_api_Access)).length) p0.log.length) p0.log :: ro96 ca3 cc4 p0.log :: ob103 B0 p0 ca1 cc2 ca3 cc4 :: ro2 ca1 cc2 p0.cell :: L)) _ := h
  refine then_normal ?_
  refine wp_seq ?_
  refine wp_region_lit ?_
  refine ovs [18, 2] [.slice ca6 ((List.replicate p0.log.length (⟨0, 0, 0, 0, 0, false⟩ : T_api_Access)).length) p0.log.length, .slice ca6 ((List.replicate p0.log.length (⟨0, 0, 0, 0, 0, false⟩ : T_api_Access)).length) p0.log.length] hr ⟨rfl, rfl⟩ (by kernel_rfl) ?_; clear hr a; intro a hr
  refine wpList_nil ?_
  refine then_normal ?_
  refine wp_ret ?_
  refine end_ret1 (v := .slice ca6 ((List.replicate p0.log.length (⟨0, 0, 0, 0, 0, false⟩ : T_api_Access)).length) p0.log.length) rfl hr (by kernel_rfl) ?_
  have hn7 := h.row_n
  replace h : Fit z (sepL (ro96 ca6 p0.log.length p0.log :: ro96 ca3 cc4 p0.log :: ob103 B0 p0 ca1 cc2 ca3 cc4 :: ro2 ca1 cc2 p0.cell :: L)) w := (congrArg (fun q_ : Nat => Fit z (sepL (rowOf 96 6 enc_T_api_Access (.slice ca6 q_ p0.log.length) p0.log :: ro96 ca3 cc4 p0.log :: ob103 B0 p0 ca1 cc2 ca3 cc4 :: ro2 ca1 cc2 p0.cell :: L)) w) h.row_n).mp h
  replace h : Fit z (sepL (ob103 B0 p0 ca1 cc2 ca3 cc4 :: ro2 ca1 cc2 p0.cell :: ro96 ca3 cc4 p0.log :: ro96 ca6 p0.log.length p0.log :: L)) _ := h.sel 4 [2, 3, 1, 0] (by kernel_rfl) (by kernel_rfl)
  replace H := ej1 H; subst H
  exact ⟨ca6, (by simp only [hn7]), h⟩

def plunderref2_Arena_Log_l1 (K : Nat) (p0 : T_plunderref2_Arena) : Nat → (List T_api_Access) → Int → Option ((List T_api_Access))
  | 0, _, _ => none
  | k1 + 1, l7, g8 => (if g8 < ((p0.Book.length : Nat) : Int) then if inr_ g8 p0.Book.length then if (l7.length + 1) * 48 ≤ 140737488355328 then (plunderref2_Arena_Log_l1 K p0 k1 (l7 ++ [at_ p0.Book g8.toNat]) (wi (g8 + (1 : Int)))) else none else none else some l7)
/-- (*plunder/plunderref2.Arena).Log -/
def plunderref2_Arena_Log (K : Nat) (p0 : T_plunderref2_Arena) : Option ((List T_api_Access)) :=
  (plunderref2_Arena_Log_l1 K p0 K ([] : List T_api_Access) 0)
set_option maxRecDepth 100000 in
set_option maxHeartbeats 4000000 in
theorem plunderref2_Arena_Log_ok {z w : World} {L : List HProp} {K : Nat} {p0 : T_plunderref2_Arena} {B0 : Nat} {ca1 : Option Addr} {cc2 : Nat} {ca3 : Option Addr} {cc4 : Nat} {r0 : List T_api_Access} (H : plunderref2_Arena_Log K p0 = some r0) (h : Fit z (sepL (ob34 B0 p0 ca1 cc2 ca3 cc4 :: ro2 ca1 cc2 p0.Held :: ro96 ca3 cc4 p0.Book :: L)) w)  :
    Calls Try.prog 25 #[.pointer (some ⟨B0, 0, none⟩)] w fun e w => ∃ car0_1 : Option Addr, ∃ ccr0_2 : Nat, e = .returned (.slice car0_1 r0.length ccr0_2) ∧ Fit z (sepL (ob34 B0 p0 ca1 cc2 ca3 cc4 :: ro2 ca1 cc2 p0.Held :: ro96 ca3 cc4 p0.Book :: ro96 car0_1 ccr0_2 r0 :: L)) w := by
  unfold plunderref2_Arena_Log at H
  refine enter Try.func25 rfl 25 rfl rfl [(0, .pointer (some ⟨B0, 0, none⟩))] ⟨rfl, trivial⟩ ?_
  intro j a hr
  refine wp_seq ?_
  refine wp_region_lit ?_
  refine ov hr (.slice none 0 0) (by kernel_rfl) ?_; clear hr a; intro a hr
  refine wpList_nil ?_
  refine then_normal ?_
  refine wp_seq ?_
  refine wp_region_lit ?_
  refine ov hr (.slice none 0 0) (by kernel_rfl) ?_; clear hr a; intro a hr
  refine wpList_nil ?_
  refine then_normal ?_
  refine wp_seq ?_
  refine wp_seq ?_
  refine wp_region_lit ?_
  refine ov hr (.int .i64 0) (by kernel_rfl) ?_; clear hr a; intro a hr
  refine wpList_nil ?_
  refine then_normal ?_
  refine wp_block ?_
  replace hr := hr.fold2 [(0, .pointer (some ⟨B0, 0, none⟩)), (3, .slice none (([] : List T_api_Access).length) 0), (4, .int .i64 0)] (by kernel_rfl); obtain ⟨j, hr⟩ := hr
  replace h : Fit z (sepL (rowOf 96 6 enc_T_api_Access (.slice none 0 0) ([] : List T_api_Access) :: ob34 B0 p0 ca1 cc2 ca3 cc4 :: ro2 ca1 cc2 p0.Held :: ro96 ca3 cc4 p0.Book :: L)) _ := h.row_nil
  replace h : Fit z (sepL (ob34 B0 p0 ca1 cc2 ca3 cc4 :: ro2 ca1 cc2 p0.Held :: ro96 ca3 cc4 p0.Book :: rowOf 96 6 enc_T_api_Access (.slice none (([] : List T_api_Access).length) 0) ([] : List T_api_Access) :: L)) _ := h.sel 4 [1, 2, 3, 0] (by kernel_rfl) (by kernel_rfl)
  refine loop_rule (β := Nat) id (fun m a w => ∃ ca5 : Option Addr, ∃ cc6 : Nat, ∃ l7 : List T_api_Access, ∃ g8 : Int, (plunderref2_Arena_Log_l1 K p0 m l7 g8) = some r0 ∧ ∃ j, Rep 25 (lk [(0, .pointer (some ⟨B0, 0, none⟩)), (3, .slice ca5 l7.length cc6), (4, .int .i64 g8)] j) a ∧ Fit z (sepL (ob34 B0 p0 ca1 cc2 ca3 cc4 :: ro2 ca1 cc2 p0.Held :: ro96 ca3 cc4 p0.Book :: ro96 ca5 cc6 l7 :: L)) w) K ⟨none, 0, ([] : List T_api_Access), 0, H, j, hr, h⟩ ?_
  clear h hr a H; rintro k1 a w ⟨ca5, cc6, l7, g8, H, j, hr, h⟩
  cases k1 with
  | zero => exact absurd H (by simp [plunderref2_Arena_Log_l1])
  | succ k1 =>
    rw [plunderref2_Arena_Log_l1] at H
    refine wp_seq ?_
    refine wp_seq ?_
    refine wp_region_lit ?_
    refine ovs [5, 6, 7, 8] [.int .i64 g8, .pointer (some ⟨B0, 0, none⟩), .pointer (some ⟨B0, 0, none⟩), .pointer (some ⟨B0, 4, none⟩)] hr ⟨rfl, rfl⟩ (by kernel_rfl) ?_; clear hr a; intro a hr
    refine op_val (wn rfl) rfl rfl hr (v := .slice ca3 p0.Book.length cc4) (rl rfl (by kernel_rfl) (by kernel_rfl) (h.cell 4 rfl)) ?_; clear hr a; intro a hr
    refine ovs [10, 11] [.int .i64 ((p0.Book.length : Nat) : Int), .bool (decide (g8 < ((p0.Book.length : Nat) : Int)))] hr ⟨rfl, rfl⟩ (by kernel_rfl) ?_; clear hr a; intro a hr
    refine wpList_nil ?_
    refine then_normal ?_
    by_cases c9 : g8 < ((p0.Book.length : Nat) : Int)
    ·
      replace H := ifT c9 H
      refine cond_tt hr (b := (decide (g8 < ((p0.Book.length : Nat) : Int)))) (decide_eq_true c9) ?_
      refine wp_skip ?_
      refine then_normal ?_
      refine wp_seq ?_
      refine wp_block ?_
      refine wp_region_lit ?_
      refine ovs [14, 15, 16, 17] [.slice ca5 l7.length cc6, .pointer (some ⟨B0, 0, none⟩), .pointer (some ⟨B0, 0, none⟩), .pointer (some ⟨B0, 4, none⟩)] hr ⟨rfl, rfl⟩ (by kernel_rfl) ?_; clear hr a; intro a hr
      refine op_val (wn rfl) rfl rfl hr (v := .slice ca3 p0.Book.length cc4) (rl rfl (by kernel_rfl) (by kernel_rfl) (h.cell 4 rfl)) ?_; clear hr a; intro a hr
      replace H := gd H; obtain ⟨c10, H⟩ := H
      refine ov hr (.int .i64 g8) (by kernel_rfl) ?_; clear hr a; intro a hr
      refine op_val (wn rfl) rfl rfl hr (v := .pointer (some ⟨blk ca3, g8.toNat * 6, none⟩)) (ri_row (k := .i64) (E := 96) rfl (by kernel_rfl) (by kernel_rfl) (by kernel_rfl) (by kernel_rfl) (h.pick 2) c10) ?_; clear hr a; intro a hr
      refine op_val (wn rfl) rfl rfl hr (v := .agg #[.int .i64 ((at_ p0.Book g8.toNat).Who), .int .i64 ((at_ p0.Book g8.toNat).Kind), .int .i64 ((at_ p0.Book g8.toNat).Addr), .int .i64 ((at_ p0.Book g8.toNat).A), .int .i64 ((at_ p0.Book g8.toNat).B), .bool ((at_ p0.Book g8.toNat).OK)]) (rlm (cs := [.int .i64 ((at_ p0.Book g8.toNat).Who), .int .i64 ((at_ p0.Book g8.toNat).Kind), .int .i64 ((at_ p0.Book g8.toNat).Addr), .int .i64 ((at_ p0.Book g8.toNat).A), .int .i64 ((at_ p0.Book g8.toNat).B), .bool ((at_ p0.Book g8.toNat).OK)]) rfl (by kernel_rfl) (by kernel_rfl) (by kernel_rfl) ⟨(h.pick 2).row_cell enc_T_api_Access_ok (f := 0) (at_ok c10) rfl, (h.pick 2).row_cell enc_T_api_Access_ok (f := 1) (at_ok c10) rfl, (h.pick 2).row_cell enc_T_api_Access_ok (f := 2) (at_ok c10) rfl, (h.pick 2).row_cell enc_T_api_Access_ok (f := 3) (at_ok c10) rfl, (h.pick 2).row_cell enc_T_api_Access_ok (f := 4) (at_ok c10) rfl, (h.pick 2).row_cell enc_T_api_Access_ok (f := 5) (at_ok c10) rfl, trivial⟩) ?_; clear hr a; intro a hr
      refine op_new (wn rfl) rfl rfl hr h (vf := fun b => .slice (some ⟨b, 0, none⟩) 1 1) (cs := #[.int .i64 ((at_ p0.Book g8.toNat).Who), .int .i64 ((at_ p0.Book g8.toNat).Kind), .int .i64 ((at_ p0.Book g8.toNat).Addr), .int .i64 ((at_ p0.Book g8.toNat).A), .int .i64 ((at_ p0.Book g8.toNat).B), .bool ((at_ p0.Book g8.toNat).OK)]) (T := 96) (by kernel_rfl) ?_; clear h hr a; intro b11 w a h hr
      replace h : Fit z (sepL (ro96 ca5 cc6 l7 :: ob96 b11 (at_ p0.Book g8.toNat) :: ob34 B0 p0 ca1 cc2 ca3 cc4 :: ro2 ca1 cc2 p0.Held :: ro96 ca3 cc4 p0.Book :: L)) _ := h.sel 5 [4, 0, 1, 2, 3] (by kernel_rfl) (by kernel_rfl)
      replace H := gd H; obtain ⟨c14, H⟩ := H
      refine op_append (n0 := l7.length) (c := 1) (bytes := 48) (wn rfl) rfl rfl hr rfl (by kernel_rfl) (by kernel_rfl) enc_T_api_Access_ok (E := 96) (xs := l7) (by kernel_rfl) (by kernel_rfl) h (news := [at_ p0.Book g8.toNat]) (m := 1) rfl ((h.pick 1).news rfl) c14 rfl ?_; clear h hr a; intro ca12 cc13 w a h hr
      refine ov hr (.slice ca12 ((l7 ++ [at_ p0.Book g8.toNat]).length) cc13) (by kernel_rfl) ?_; clear hr a; intro a hr
      refine wpList_nil ?_
      replace h : Fit z (sepL (ro96 ca12 cc13 (l7 ++ [at_ p0.Book g8.toNat]) :: ob96 b11 (at_ p0.Book g8.toNat) :: ob34 B0 p0 ca1 cc2 ca3 cc4 :: ro2 ca1 cc2 p0.Held :: ro96 ca3 cc4 p0.Book :: L)) _ := h
      refine blk_normal ?_
      refine then_normal ?_
      refine wp_region_lit ?_
      refine ovs [12, 13, 4] [.int .i64 g8, .int .i64 (wi (g8 + (1 : Int))), .int .i64 (wi (g8 + (1 : Int)))] hr ⟨rfl, rfl⟩ (by kernel_rfl) ?_; clear hr a; intro a hr
      refine wpList_nil ?_
      refine then_normal ?_
      replace hr := hr.fold2 [(0, .pointer (some ⟨B0, 0, none⟩)), (3, .slice ca12 ((l7 ++ [at_ p0.Book g8.toNat]).length) cc13), (4, .int .i64 (wi (g8 + (1 : Int))))] (by kernel_rfl); obtain ⟨j, hr⟩ := hr
      replace h : Fit z (sepL (ob34 B0 p0 ca1 cc2 ca3 cc4 :: ro2 ca1 cc2 p0.Held :: ro96 ca3 cc4 p0.Book :: ro96 ca12 cc13 (l7 ++ [at_ p0.Book g8.toNat]) :: L)) _ := h.sel 5 [2, 3, 4, 0] (by kernel_rfl) (by kernel_rfl)
      exact ⟨_, ⟨ca12, cc13, (l7 ++ [at_ p0.Book g8.toNat]), (wi (g8 + (1 : Int))), H, j, hr, h⟩, Nat.lt_succ_self _⟩
    ·
      replace H := ifF c9 H
      refine cond_ff hr (b := (decide (g8 < ((p0.Book.length : Nat) : Int)))) (decide_eq_false c9) ?_
      refine wp_exit ?_
      refine then_exit ?_
      refine then_exit ?_
      refine blk_here ?_
      refine then_normal ?_
      refine wp_seq ?_
      refine wp_region_lit ?_
      refine ovs [24, 2] [.slice ca5 l7.length cc6, .slice ca5 l7.length cc6] hr ⟨rfl, rfl⟩ (by kernel_rfl) ?_; clear hr a; intro a hr
      refine wpList_nil ?_
      refine then_normal ?_
      refine wp_ret ?_
      refine end_ret1 (v := .slice ca5 l7.length cc6) rfl hr (by kernel_rfl) ?_
      replace H := ej1 H; subst H
      exact ⟨ca5, cc6, rfl, h⟩

def plunderlaw8_sameLog_l1 (K : Nat) (p0 : List T_api_Access) (p1 : List T_api_Access) : Nat → Int → Option (Bool)
  | 0, _ => none
  | k1 + 1, g2 => (if g2 < ((p0.length : Nat) : Int) then if inr_ g2 p0.length then if inr_ g2 p1.length then (if at_ p0 g2.toNat = at_ p1 g2.toNat then (plunderlaw8_sameLog_l1 K p0 p1 k1 (wi (g2 + (1 : Int)))) else some false) else none else none else some true)
/-- plunder/plunderlaw8.sameLog -/
def plunderlaw8_sameLog (K : Nat) (p0 : List T_api_Access) (p1 : List T_api_Access) : Option (Bool) :=
  (if ((p0.length : Nat) : Int) = ((p1.length : Nat) : Int) then (plunderlaw8_sameLog_l1 K p0 p1 K 0) else some false)
set_option maxRecDepth 100000 in
set_option maxHeartbeats 4000000 in
theorem plunderlaw8_sameLog_ok {z w : World} {L : List HProp} {K : Nat} {p0 : List T_api_Access} {p1 : List T_api_Access} {va0 : Option Addr} {vc0 : Nat} {va1 : Option Addr} {vc1 : Nat} {r0 : Bool} (H : plunderlaw8_sameLog K p0 p1 = some r0) (h : Fit z (sepL (L)) w) (hv0 : RdRow L 6 enc_T_api_Access va0 p0) (hv1 : RdRow L 6 enc_T_api_Access va1 p1) :
    Calls Try.prog 23 #[.slice va0 p0.length vc0, .slice va1 p1.length vc1] w fun e w => e = .returned (.bool r0) ∧ Fit z (sepL (L)) w := by
  unfold plunderlaw8_sameLog at H
  refine enter Try.func23 rfl 26 rfl rfl [(0, .slice va0 p0.length vc0), (1, .slice va1 p1.length vc1)] ⟨rfl, rfl, trivial⟩ ?_
  intro j a hr
  refine wp_seq ?_
  refine wp_region_lit ?_
  refine ov hr (.bool false) (by kernel_rfl) ?_; clear hr a; intro a hr
  refine wpList_nil ?_
  refine then_normal ?_
  refine wp_seq ?_
  refine wp_seq ?_
  refine wp_region_lit ?_
  refine ovs [6, 7, 8, 9, 10] [.slice va0 p0.length vc0, .int .i64 ((p0.length : Nat) : Int), .slice va1 p1.length vc1, .int .i64 ((p1.length : Nat) : Int), .bool (((p0.length : Nat) : Int) != ((p1.length : Nat) : Int))] hr ⟨rfl, rfl⟩ (by kernel_rfl) ?_; clear hr a; intro a hr
  refine wpList_nil ?_
  refine then_normal ?_
  by_cases c1 : ((p0.length : Nat) : Int) = ((p1.length : Nat) : Int)
  ·
    replace H := ifT c1 H
    refine cond_ff hr (b := (((p0.length : Nat) : Int) != ((p1.length : Nat) : Int))) (bne_eq_false_iff_eq.mpr c1) ?_
    refine wp_skip ?_
    refine then_normal ?_
    refine wp_seq ?_
    refine wp_seq ?_
    refine wp_region_lit ?_
    refine ov hr (.int .i64 0) (by kernel_rfl) ?_; clear hr a; intro a hr
    refine wpList_nil ?_
    refine then_normal ?_
    refine wp_block ?_
    replace hr := hr.fold2 [(0, .slice va0 p0.length vc0), (1, .slice va1 p1.length vc1), (5, .int .i64 0)] (by kernel_rfl); obtain ⟨j, hr⟩ := hr
    refine loop_rule (β := Nat) id (fun m a w => ∃ g2 : Int, (plunderlaw8_sameLog_l1 K p0 p1 m g2) = some r0 ∧ ∃ j, Rep 26 (lk [(0, .slice va0 p0.length vc0), (1, .slice va1 p1.length vc1), (5, .int .i64 g2)] j) a ∧ Fit z (sepL (L)) w) K ⟨0, H, j, hr, h⟩ ?_
    clear h hr a H; rintro k1 a w ⟨g2, H, j, hr, h⟩
    cases k1 with
    | zero => exact absurd H (by simp [plunderlaw8_sameLog_l1])
    | succ k1 =>
      rw [plunderlaw8_sameLog_l1] at H
      refine wp_seq ?_
      refine wp_seq ?_
      refine wp_region_lit ?_
      refine ovs [11, 12, 13, 14] [.int .i64 g2, .slice va0 p0.length vc0, .int .i64 ((p0.length : Nat) : Int), .bool (decide (g2 < ((p0.length : Nat) : Int)))] hr ⟨rfl, rfl⟩ (by kernel_rfl) ?_; clear hr a; intro a hr
      refine wpList_nil ?_
      refine then_normal ?_
      by_cases c3 : g2 < ((p0.length : Nat) : Int)
      ·
        replace H := ifT c3 H
        refine cond_tt hr (b := (decide (g2 < ((p0.length : Nat) : Int)))) (decide_eq_true c3) ?_
        refine wp_skip ?_
        refine then_normal ?_
        refine wp_seq ?_
        refine wp_block ?_
        refine wp_seq ?_
        replace H := gd H; obtain ⟨c4, H⟩ := H
        replace H := gd H; obtain ⟨c5, H⟩ := H
        refine reg_E (fun w => heldC w (blk va0) (offs va0 + g2.toNat * 6) [.int .i64 ((at_ p0 g2.toNat).Who), .int .i64 ((at_ p0 g2.toNat).Kind), .int .i64 ((at_ p0 g2.toNat).Addr), .int .i64 ((at_ p0 g2.toNat).A), .int .i64 ((at_ p0 g2.toNat).B), .bool ((at_ p0 g2.toNat).OK)] ∧ heldC w (blk va1) (offs va1 + g2.toNat * 6) [.int .i64 ((at_ p1 g2.toNat).Who), .int .i64 ((at_ p1 g2.toNat).Kind), .int .i64 ((at_ p1 g2.toNat).Addr), .int .i64 ((at_ p1 g2.toNat).A), .int .i64 ((at_ p1 g2.toNat).B), .bool ((at_ p1 g2.toNat).OK)] ∧ True) [2, 6] h (by kernel_rfl) ?_; intro w h
        change wpAnyE _ _ _ _ _ _ 9 (Array.replicate 9 false) a w
        have hgo : ∀ w w', CellsGo w w' → (heldC w (blk va0) (offs va0 + g2.toNat * 6) [.int .i64 ((at_ p0 g2.toNat).Who), .int .i64 ((at_ p0 g2.toNat).Kind), .int .i64 ((at_ p0 g2.toNat).Addr), .int .i64 ((at_ p0 g2.toNat).A), .int .i64 ((at_ p0 g2.toNat).B), .bool ((at_ p0 g2.toNat).OK)] ∧ heldC w (blk va1) (offs va1 + g2.toNat * 6) [.int .i64 ((at_ p1 g2.toNat).Who), .int .i64 ((at_ p1 g2.toNat).Kind), .int .i64 ((at_ p1 g2.toNat).Addr), .int .i64 ((at_ p1 g2.toNat).A), .int .i64 ((at_ p1 g2.toNat).B), .bool ((at_ p1 g2.toNat).OK)] ∧ True) → heldC w' (blk va0) (offs va0 + g2.toNat * 6) [.int .i64 ((at_ p0 g2.toNat).Who), .int .i64 ((at_ p0 g2.toNat).Kind), .int .i64 ((at_ p0 g2.toNat).Addr), .int .i64 ((at_ p0 g2.toNat).A), .int .i64 ((at_ p0 g2.toNat).B), .bool ((at_ p0 g2.toNat).OK)] ∧ heldC w' (blk va1) (offs va1 + g2.toNat * 6) [.int .i64 ((at_ p1 g2.toNat).Who), .int .i64 ((at_ p1 g2.toNat).Kind), .int .i64 ((at_ p1 g2.toNat).Addr), .int .i64 ((at_ p1 g2.toNat).A), .int .i64 ((at_ p1 g2.toNat).B), .bool ((at_ p1 g2.toNat).OK)] ∧ True := fun w w' g hD => ⟨heldC_go _ _ _ _ _ g hD.1, heldC_go _ _ _ _ _ g hD.2.1, trivial⟩
        refine ev 8 0 rfl (by kernel_rfl) (wn rfl) hr (.slice va0 p0.length vc0) (fun w => by kernel_rfl) ?_; clear hr a; intro a hr
        refine ev 7 1 rfl (by kernel_rfl) (wn rfl) hr (.int .i64 g2) (fun w => by kernel_rfl) ?_; clear hr a; intro a hr
        refine evD hgo ⟨⟨hv0.cell c4 (h.dn 0) 0 rfl, hv0.cell c4 (h.dn 0) 1 rfl, hv0.cell c4 (h.dn 0) 2 rfl, hv0.cell c4 (h.dn 0) 3 rfl, hv0.cell c4 (h.dn 0) 4 rfl, hv0.cell c4 (h.dn 0) 5 rfl, trivial⟩, ⟨hv1.cell c5 (h.dn 0) 0 rfl, hv1.cell c5 (h.dn 0) 1 rfl, hv1.cell c5 (h.dn 0) 2 rfl, hv1.cell c5 (h.dn 0) 3 rfl, hv1.cell c5 (h.dn 0) 4 rfl, hv1.cell c5 (h.dn 0) 5 rfl, trivial⟩, trivial⟩ 6 2 rfl (by kernel_rfl) (wn rfl) hr (.pointer (some ⟨blk va0, offs va0 + g2.toNat * 6, none⟩)) (fun w => ri_rd (k := .i64) (E := 96) (cc := vc0) rfl (by kernel_rfl) (by kernel_rfl) rfl (by kernel_rfl) (by kernel_rfl) hv0 c4) ?_; clear hr a; intro a hr
        refine ev 5 4 rfl (by kernel_rfl) (wn rfl) hr (.slice va1 p1.length vc1) (fun w => by kernel_rfl) ?_; clear hr a; intro a hr
        refine ev 4 5 rfl (by kernel_rfl) (wn rfl) hr (.int .i64 g2) (fun w => by kernel_rfl) ?_; clear hr a; intro a hr
        refine evD hgo ⟨⟨hv0.cell c4 (h.dn 0) 0 rfl, hv0.cell c4 (h.dn 0) 1 rfl, hv0.cell c4 (h.dn 0) 2 rfl, hv0.cell c4 (h.dn 0) 3 rfl, hv0.cell c4 (h.dn 0) 4 rfl, hv0.cell c4 (h.dn 0) 5 rfl, trivial⟩, ⟨hv1.cell c5 (h.dn 0) 0 rfl, hv1.cell c5 (h.dn 0) 1 rfl, hv1.cell c5 (h.dn 0) 2 rfl, hv1.cell c5 (h.dn 0) 3 rfl, hv1.cell c5 (h.dn 0) 4 rfl, hv1.cell c5 (h.dn 0) 5 rfl, trivial⟩, trivial⟩ 3 6 rfl (by kernel_rfl) (wn rfl) hr (.pointer (some ⟨blk va1, offs va1 + g2.toNat * 6, none⟩)) (fun w => ri_rd (k := .i64) (E := 96) (cc := vc1) rfl (by kernel_rfl) (by kernel_rfl) rfl (by kernel_rfl) (by kernel_rfl) hv1 c5) ?_; clear hr a; intro a hr
        refine el [2, 6] (b := blk va0) (off := offs va0 + g2.toNat * 6) (cs := [.int .i64 ((at_ p0 g2.toNat).Who), .int .i64 ((at_ p0 g2.toNat).Kind), .int .i64 ((at_ p0 g2.toNat).Addr), .int .i64 ((at_ p0 g2.toNat).A), .int .i64 ((at_ p0 g2.toNat).B), .bool ((at_ p0 g2.toNat).OK)]) (fun _ hk => ⟨hk, fun w hD => hD.1⟩) 2 3 rfl (by kernel_rfl) (wn rfl) hr (.agg #[.int .i64 ((at_ p0 g2.toNat).Who), .int .i64 ((at_ p0 g2.toNat).Kind), .int .i64 ((at_ p0 g2.toNat).Addr), .int .i64 ((at_ p0 g2.toNat).A), .int .i64 ((at_ p0 g2.toNat).B), .bool ((at_ p0 g2.toNat).OK)]) ⟨hv0.cell c4 (h.dn 0) 0 rfl, hv0.cell c4 (h.dn 0) 1 rfl, hv0.cell c4 (h.dn 0) 2 rfl, hv0.cell c4 (h.dn 0) 3 rfl, hv0.cell c4 (h.dn 0) 4 rfl, hv0.cell c4 (h.dn 0) 5 rfl, trivial⟩ (fun w hc => rlm (cs := [.int .i64 ((at_ p0 g2.toNat).Who), .int .i64 ((at_ p0 g2.toNat).Kind), .int .i64 ((at_ p0 g2.toNat).Addr), .int .i64 ((at_ p0 g2.toNat).A), .int .i64 ((at_ p0 g2.toNat).B), .bool ((at_ p0 g2.toNat).OK)]) rfl (by kernel_rfl) (by kernel_rfl) (by kernel_rfl) hc) ?_; clear hr a; intro a hr
        refine el [2, 6] (b := blk va1) (off := offs va1 + g2.toNat * 6) (cs := [.int .i64 ((at_ p1 g2.toNat).Who), .int .i64 ((at_ p1 g2.toNat).Kind), .int .i64 ((at_ p1 g2.toNat).Addr), .int .i64 ((at_ p1 g2.toNat).A), .int .i64 ((at_ p1 g2.toNat).B), .bool ((at_ p1 g2.toNat).OK)]) (fun _ hk => ⟨hk, fun w hD => hD.2.1⟩) 1 7 rfl (by kernel_rfl) (wn rfl) hr (.agg #[.int .i64 ((at_ p1 g2.toNat).Who), .int .i64 ((at_ p1 g2.toNat).Kind), .int .i64 ((at_ p1 g2.toNat).Addr), .int .i64 ((at_ p1 g2.toNat).A), .int .i64 ((at_ p1 g2.toNat).B), .bool ((at_ p1 g2.toNat).OK)]) ⟨hv1.cell c5 (h.dn 0) 0 rfl, hv1.cell c5 (h.dn 0) 1 rfl, hv1.cell c5 (h.dn 0) 2 rfl, hv1.cell c5 (h.dn 0) 3 rfl, hv1.cell c5 (h.dn 0) 4 rfl, hv1.cell c5 (h.dn 0) 5 rfl, trivial⟩ (fun w hc => rlm (cs := [.int .i64 ((at_ p1 g2.toNat).Who), .int .i64 ((at_ p1 g2.toNat).Kind), .int .i64 ((at_ p1 g2.toNat).Addr), .int .i64 ((at_ p1 g2.toNat).A), .int .i64 ((at_ p1 g2.toNat).B), .bool ((at_ p1 g2.toNat).OK)]) rfl (by kernel_rfl) (by kernel_rfl) (by kernel_rfl) hc) ?_; clear hr a; intro a hr
        refine ev 0 8 rfl (by kernel_rfl) (wn rfl) hr (.bool (!(decide (at_ p0 g2.toNat = at_ p1 g2.toNat)))) (fun w => rb (rne rfl (by kernel_rfl) (by kernel_rfl) (by kernel_rfl) (by kernel_rfl) (by kernel_rfl) (by kernel_rfl)) (congrArg (!·) (eq_T_api_Access (at_ p0 g2.toNat) (at_ p1 g2.toNat)))) ?_; clear hr a; intro a hr
        refine e_end (by kernel_rfl) ?_
        refine then_normal ?_
        by_cases c6 : at_ p0 g2.toNat = at_ p1 g2.toNat
        ·
          replace H := ifT c6 H
          refine cond_ff hr (b := (!(decide (at_ p0 g2.toNat = at_ p1 g2.toNat)))) (by rw [show (decide (at_ p0 g2.toNat = at_ p1 g2.toNat)) = true from (decide_eq_true c6)]; rfl) ?_
          refine wp_skip ?_
          refine blk_normal ?_
          refine then_normal ?_
          refine wp_region_lit ?_
          refine ovs [15, 16, 5] [.int .i64 g2, .int .i64 (wi (g2 + (1 : Int))), .int .i64 (wi (g2 + (1 : Int)))] hr ⟨rfl, rfl⟩ (by kernel_rfl) ?_; clear hr a; intro a hr
          refine wpList_nil ?_
          refine then_normal ?_
          replace hr := hr.fold2 [(0, .slice va0 p0.length vc0), (1, .slice va1 p1.length vc1), (5, .int .i64 (wi (g2 + (1 : Int))))] (by kernel_rfl); obtain ⟨j, hr⟩ := hr
          exact ⟨_, ⟨(wi (g2 + (1 : Int))), H, j, hr, h⟩, Nat.lt_succ_self _⟩
        ·
          replace H := ifF c6 H
          refine cond_tt hr (b := (!(decide (at_ p0 g2.toNat = at_ p1 g2.toNat)))) (by rw [show (decide (at_ p0 g2.toNat = at_ p1 g2.toNat)) = false from (decide_eq_false c6)]; rfl) ?_
          refine wp_seq ?_
          refine wp_region_lit ?_
          refine ov hr (.bool false) (by kernel_rfl) ?_; clear hr a; intro a hr
          refine wpList_nil ?_
          refine then_normal ?_
          refine wp_ret ?_
          refine blk_ret ?_
          refine then_ret ?_
          refine then_ret ?_
          refine blk_ret ?_
          refine then_ret ?_
          refine end_ret1 (v := .bool false) rfl hr (by kernel_rfl) ?_
          replace H := ej1 H; subst H
          exact ⟨rfl, h⟩
      ·
        replace H := ifF c3 H
        refine cond_ff hr (b := (decide (g2 < ((p0.length : Nat) : Int)))) (decide_eq_false c3) ?_
        refine wp_exit ?_
        refine then_exit ?_
        refine then_exit ?_
        refine blk_here ?_
        refine then_normal ?_
        refine wp_seq ?_
        refine wp_region_lit ?_
        refine ov hr (.bool true) (by kernel_rfl) ?_; clear hr a; intro a hr
        refine wpList_nil ?_
        refine then_normal ?_
        refine wp_ret ?_
        refine end_ret1 (v := .bool true) rfl hr (by kernel_rfl) ?_
        replace H := ej1 H; subst H
        exact ⟨rfl, h⟩
  ·
    replace H := ifF c1 H
    refine cond_tt hr (b := (((p0.length : Nat) : Int) != ((p1.length : Nat) : Int))) (bne_iff_ne.mpr c1) ?_
    refine wp_seq ?_
    refine wp_region_lit ?_
    refine ov hr (.bool false) (by kernel_rfl) ?_; clear hr a; intro a hr
    refine wpList_nil ?_
    refine then_normal ?_
    refine wp_ret ?_
    refine then_ret ?_
    refine end_ret1 (v := .bool false) rfl hr (by kernel_rfl) ?_
    replace H := ej1 H; subst H
    exact ⟨rfl, h⟩

def plunderlaw8_FramesNew_l1 (K : Nat) (p1 : Int) (p2 : Int) : Nat → T_plunderref2_Arena → T_cells_Arena → Int → Option ((T_plunderref2_Arena × T_cells_Arena) ⊕ (Bool))
  | 0, _, _, _ => none
  | k1 + 1, S40, S45, g50 => (if g50 < (2 : Int) then ob1 ((if g50 = (1 : Int) then some p2 else some p1)) (fun g52 => ob3 (plunderref8_New K S40 g52) (fun r56 r57 S58 => ob3 (frames_New_iface K S45 g52) (fun r65 r66 S67 => (if r57 = r66 then (if r65.Base = r56.Base then (if r65.Frames = r56.Frames then ob1 (frames_Cells g52) (fun r77 => ob1 (plunderref8_Cells g52) (fun r79 => (if r77 = r79 then (plunderlaw8_FramesNew_l1 K p1 p2 k1 S58 S67 (wi (g50 + (1 : Int)))) else some (.inr false)))) else some (.inr false)) else some (.inr false)) else some (.inr false))))) else some (.inl (S40, S45)))
/-- plunder/plunderlaw8.FramesNew -/
def plunderlaw8_FramesNew (K : Nat) (p0 : Int) (p1 : Int) (p2 : Int) : Option (Bool) :=
  ob2 (plunderref2_New p0) (fun r1 r2 => ob2 (cells_New p0) (fun r9 r10 => (match r9 with | some S12 => (if r2 = (0 : Int) then jn0 ((if r10 = (0 : Int) then some (.inl ()) else some (.inr false))) (ob1 (cells_Arena_Watch S12 true) (fun S22 => jn2 ((plunderlaw8_FramesNew_l1 K p1 p2 K ({ r1 with On := true }) S22 0)) (fun S28 S33 => ob1 (cells_Arena_Cells S33) (fun r82 => ob1 (plunderref2_Arena_Cells K S28) (fun r85 => ob1 (plunderlaw8_sameNumbers K r82 r85) (fun r89 => (if r89 = true then ob1 (cells_Arena_Log S33) (fun r92 => ob1 (plunderref2_Arena_Log K S28) (fun r95 => ob1 (plunderlaw8_sameLog K r92 r95) (fun r99 => some r99))) else some false))))))) else some false) | none => (if r2 = (0 : Int) then some false else (if r10 = r2 then ob1 (frames_Cells p1) (fun r103 => ob1 (plunderref8_Cells p1) (fun r105 => some (r103 == r105))) else some false)))))
set_option maxRecDepth 100000 in
set_option maxHeartbeats 4000000 in
theorem plunderlaw8_FramesNew_ok {z w : World} {L : List HProp} {K : Nat} {p0 : Int} {p1 : Int} {p2 : Int} {r0 : Bool} (H : plunderlaw8_FramesNew K p0 p1 p2 = some r0) (h : Fit z (sepL (L)) w)  :
    Calls Try.prog 3 #[.int .i64 p0, .int .i64 p1, .int .i64 p2] w fun e w => e = .returned (.bool r0) ∧ Fit z (sepL (L)) w := by
  unfold plunderlaw8_FramesNew at H
  refine enter Try.func3 rfl 111 rfl rfl [(0, .int .i64 p0), (1, .int .i64 p1), (2, .int .i64 p2)] ⟨rfl, rfl, rfl, trivial⟩ ?_
  intro j a hr
  refine wp_seq ?_
  refine wp_region_lit ?_
  refine ov hr (.bool false) (by kernel_rfl) ?_; clear hr a; intro a hr
  refine wpList_nil ?_
  refine then_normal ?_
  refine wp_seq ?_
  refine wp_region_lit ?_
  replace H := bd2 H; obtain ⟨r1, r2, e3, H⟩ := H
  refine ov hr (.int .i64 p0) (by kernel_rfl) ?_; clear hr a; intro a hr
  have hc := plunderref2_New_ok (H := e3) (h := h)
  refine op_call (wn rfl) rfl rfl hr (f := 13) (args := #[.int .i64 p0]) (by kernel_rfl) hc ?_; clear hc h
  rintro _ w ⟨Bn4, car5, ccr6, car7, ccr8, rfl, h⟩; refine ⟨_, rfl, ?_⟩
  clear hr a; intro a hr
  refine ovs [17, 20, 21, 7, 8] [.tuple #[.pointer (some ⟨Bn4, 0, none⟩), .int .i64 r2], .pointer (some ⟨Bn4, 0, none⟩), .int .i64 r2, .pointer (some ⟨Bn4, 0, none⟩), .int .i64 r2] hr ⟨rfl, rfl⟩ (by kernel_rfl) ?_; clear hr a; intro a hr
  refine wpList_nil ?_
  refine then_normal ?_
  refine wp_seq ?_
  refine wp_region_lit ?_
  replace H := bd2 H; obtain ⟨r9, r10, e11, H⟩ := H
  refine ov hr (.int .i64 p0) (by kernel_rfl) ?_; clear hr a; intro a hr
  cases r9 with
  | some S12 =>
    have hc := cells_New_ok0 (H := e11) (h := h)
    refine op_call (wn rfl) rfl rfl hr (f := 14) (args := #[.int .i64 p0]) (by kernel_rfl) hc ?_; clear hc h
    rintro _ w ⟨Bn13, car14, ccr15, car16, ccr17, rfl, h⟩; refine ⟨_, rfl, ?_⟩
    clear hr a; intro a hr
    refine ovs [22, 25, 26, 9, 10] [.tuple #[.pointer (some ⟨Bn13, 0, none⟩), .int .i64 r10], .pointer (some ⟨Bn13, 0, none⟩), .int .i64 r10, .pointer (some ⟨Bn13, 0, none⟩), .int .i64 r10] hr ⟨rfl, rfl⟩ (by kernel_rfl) ?_; clear hr a; intro a hr
    refine wpList_nil ?_
    refine then_normal ?_
    refine wp_seq ?_
    refine wp_seq ?_
    refine wp_region_lit ?_
    refine ovs [27, 28] [.int .i64 r2, .bool (r2 != (0 : Int))] hr ⟨rfl, rfl⟩ (by kernel_rfl) ?_; clear hr a; intro a hr
    refine wpList_nil ?_
    refine then_normal ?_
    by_cases c18 : r2 = (0 : Int)
    ·
      replace H := ifT c18 H
      refine cond_ff hr (b := (r2 != (0 : Int))) (bne_eq_false_iff_eq.mpr c18) ?_
      refine wp_skip ?_
      refine then_normal ?_
      replace H := jd0 H; obtain ⟨o20, H, hK19⟩ := H
      refine cut_rule (β := Unit) (fun _ a w => .inl () = o20 ∧ ∃ j, Rep 111 (lk [(1, .int .i64 p1), (2, .int .i64 p2), (7, .pointer (some ⟨Bn4, 0, none⟩)), (9, .pointer (some ⟨Bn13, 0, none⟩))] j) a ∧ Fit z (sepL (ob34 Bn4 r1 car5 ccr6 car7 ccr8 :: ro2 car5 ccr6 r1.Held :: ro96 car7 ccr8 r1.Book :: ob103 Bn13 S12 car14 ccr15 car16 ccr17 :: ro2 car14 ccr15 S12.cell :: ro96 car16 ccr17 S12.log :: L)) w) ?_ ?_
      ·
        refine wp_seq ?_
        refine wp_region_lit ?_
        refine ovs [43, 44, 45] [.pointer (some ⟨Bn13, 0, none⟩), .bool false, .bool false] hr ⟨rfl, rfl⟩ (by kernel_rfl) ?_; clear hr a; intro a hr
        refine op_val ((wg hr rfl rfl rfl (b' := false) (by kernel_rfl)).trans rfl) rfl rfl hr (v := .int .i64 r10) (by kernel_rfl) ?_; clear hr a; intro a hr
        refine op_val ((wg hr rfl rfl rfl (b' := false) (by kernel_rfl)).trans rfl) rfl rfl hr (v := .bool (r10 != (0 : Int))) (by kernel_rfl) ?_; clear hr a; intro a hr
        refine ov hr (.bool (r10 != (0 : Int))) (by kernel_rfl) ?_; clear hr a; intro a hr
        refine wpList_nil ?_
        refine then_normal ?_
        by_cases c21 : r10 = (0 : Int)
        ·
          replace H := ifT c21 H
          refine cond_ff hr (b := (r10 != (0 : Int))) (bne_eq_false_iff_eq.mpr c21) ?_
          refine wp_skip ?_
          refine then_normal ?_
          replace hr := hr.fold2 [(1, .int .i64 p1), (2, .int .i64 p2), (7, .pointer (some ⟨Bn4, 0, none⟩)), (9, .pointer (some ⟨Bn13, 0, none⟩))] (by kernel_rfl); obtain ⟨j, hr⟩ := hr
          replace h : Fit z (sepL (ob34 Bn4 r1 car5 ccr6 car7 ccr8 :: ro2 car5 ccr6 r1.Held :: ro96 car7 ccr8 r1.Book :: ob103 Bn13 S12 car14 ccr15 car16 ccr17 :: ro2 car14 ccr15 S12.cell :: ro96 car16 ccr17 S12.log :: L)) _ := h.sel 6 [3, 4, 5, 0, 1, 2] (by kernel_rfl) (by kernel_rfl)
          exact ⟨(), sinj H, j, hr, h⟩
        ·
          replace H := ifF c21 H
          refine cond_tt hr (b := (r10 != (0 : Int))) (bne_iff_ne.mpr c21) ?_
          refine wp_seq ?_
          refine wp_region_lit ?_
          refine ov hr (.bool false) (by kernel_rfl) ?_; clear hr a; intro a hr
          refine wpList_nil ?_
          refine then_normal ?_
          refine wp_ret ?_
          refine then_ret ?_
          refine end_ret1 (v := .bool false) rfl hr (by kernel_rfl) ?_
          replace H := jx0 H hK19
          replace h : Fit z (sepL (L)) _ := h.sel 6 [] (by kernel_rfl) (by kernel_rfl)
          replace H := ej1 H; subst H
          exact ⟨rfl, h⟩
      clear h hr a; rintro _ a w ⟨rfl, j, hr, h⟩
      replace H := jk0 hK19
      refine wp_seq ?_
      refine wp_region_lit ?_
      replace H := bd1 H; obtain ⟨S22, e23, H⟩ := H
      refine ov hr (.pointer (some ⟨Bn13, 0, none⟩)) (by kernel_rfl) ?_; clear hr a; intro a hr
      replace h : Fit z (sepL (ob103 Bn13 S12 car14 ccr15 car16 ccr17 :: ro2 car14 ccr15 S12.cell :: ro96 car16 ccr17 S12.log :: ob34 Bn4 r1 car5 ccr6 car7 ccr8 :: ro2 car5 ccr6 r1.Held :: ro96 car7 ccr8 r1.Book :: L)) _ := h.sel 6 [3, 4, 5, 0, 1, 2] (by kernel_rfl) (by kernel_rfl)
      have hc := cells_Arena_Watch_ok (H := e23) (h := h)
      refine op_call (wn rfl) rfl rfl hr (f := 17) (args := #[.pointer (some ⟨Bn13, 0, none⟩), .bool true]) (by kernel_rfl) hc ?_; clear hc h
      rintro _ w ⟨caq24, ccq25, caq26, ccq27, rfl, h⟩; refine ⟨_, rfl, ?_⟩
      clear hr a; intro a hr
      refine wpList_nil ?_
      refine then_normal ?_
      refine wp_seq ?_
      refine wp_region_lit ?_
      refine ovs [51, 52, 53] [.pointer (some ⟨Bn4, 0, none⟩), .pointer (some ⟨Bn4, 0, none⟩), .pointer (some ⟨Bn4, 2, none⟩)] hr ⟨rfl, rfl⟩ (by kernel_rfl) ?_; clear hr a; intro a hr
      replace h : Fit z (sepL (ob34 Bn4 r1 car5 ccr6 car7 ccr8 :: ob103 Bn13 S22 caq24 ccq25 caq26 ccq27 :: ro2 caq24 ccq25 S22.cell :: ro96 caq26 ccq27 S22.log :: ro2 car5 ccr6 r1.Held :: ro96 car7 ccr8 r1.Book :: L)) _ := h.sel 6 [3, 0, 1, 2, 4, 5] (by kernel_rfl) (by kernel_rfl)
      refine op_store (wn rfl) rfl hr rfl (by kernel_rfl) (by kernel_rfl) (v := .bool true) rfl rfl (by kernel_rfl) h (i := 2) rfl ?_; clear h; intro w h
      refine wpList_nil ?_
      replace h : Fit z (sepL (pts Bn4 (.cells #[.int .i64 r1.Most, .slice car5 r1.Held.length ccr6, .bool true, .int .i64 r1.Actor, .slice car7 r1.Book.length ccr8] 34) :: ob103 Bn13 S22 caq24 ccq25 caq26 ccq27 :: ro2 caq24 ccq25 S22.cell :: ro96 caq26 ccq27 S22.log :: ro2 car5 ccr6 r1.Held :: ro96 car7 ccr8 r1.Book :: L)) _ := h
      refine then_normal ?_
      replace H := jd2 H; obtain ⟨o39, H, hK38⟩ := H
      refine cut_rule (β := Unit) (fun _ a w => ∃ ca29 : Option Addr, ∃ cc30 : Nat, ∃ ca31 : Option Addr, ∃ cc32 : Nat, ∃ ca34 : Option Addr, ∃ cc35 : Nat, ∃ ca36 : Option Addr, ∃ cc37 : Nat, ∃ S28 : T_plunderref2_Arena, ∃ S33 : T_cells_Arena, .inl (S28, S33) = o39 ∧ ∃ j, Rep 111 (lk [(7, .pointer (some ⟨Bn4, 0, none⟩)), (9, .pointer (some ⟨Bn13, 0, none⟩))] j) a ∧ Fit z (sepL (ob34 Bn4 S28 ca29 cc30 ca31 cc32 :: ro2 ca29 cc30 S28.Held :: ro96 ca31 cc32 S28.Book :: ob103 Bn13 S33 ca34 cc35 ca36 cc37 :: ro2 ca34 cc35 S33.cell :: ro96 ca36 cc37 S33.log :: L)) w) ?_ ?_
      ·
        refine wp_seq ?_
        refine wp_region_lit ?_
        refine ov hr (.int .i64 0) (by kernel_rfl) ?_; clear hr a; intro a hr
        refine wpList_nil ?_
        refine then_normal ?_
        refine wp_block ?_
        replace hr := hr.fold2 [(1, .int .i64 p1), (2, .int .i64 p2), (7, .pointer (some ⟨Bn4, 0, none⟩)), (9, .pointer (some ⟨Bn13, 0, none⟩)), (11, .int .i64 0)] (by kernel_rfl); obtain ⟨j, hr⟩ := hr
        replace h : Fit z (sepL (ob34 Bn4 ({ r1 with On := true }) car5 ccr6 car7 ccr8 :: rowOf 2 1 encZ_i64 (.slice car5 (({ r1 with On := true }).Held.length) ccr6) (({ r1 with On := true }).Held) :: rowOf 96 6 enc_T_api_Access (.slice car7 (({ r1 with On := true }).Book.length) ccr8) (({ r1 with On := true }).Book) :: ob103 Bn13 S22 caq24 ccq25 caq26 ccq27 :: ro2 caq24 ccq25 S22.cell :: ro96 caq26 ccq27 S22.log :: L)) _ := h.sel 6 [0, 4, 5, 1, 2, 3] (by kernel_rfl) (by kernel_rfl)
        refine loop_rule (β := Nat) id (fun m a w => ∃ ca41 : Option Addr, ∃ cc42 : Nat, ∃ ca43 : Option Addr, ∃ cc44 : Nat, ∃ ca46 : Option Addr, ∃ cc47 : Nat, ∃ ca48 : Option Addr, ∃ cc49 : Nat, ∃ S40 : T_plunderref2_Arena, ∃ S45 : T_cells_Arena, ∃ g50 : Int, (plunderlaw8_FramesNew_l1 K p1 p2 m S40 S45 g50) = some o39 ∧ ∃ j, Rep 111 (lk [(1, .int .i64 p1), (2, .int .i64 p2), (7, .pointer (some ⟨Bn4, 0, none⟩)), (9, .pointer (some ⟨Bn13, 0, none⟩)), (11, .int .i64 g50)] j) a ∧ Fit z (sepL (ob34 Bn4 S40 ca41 cc42 ca43 cc44 :: ro2 ca41 cc42 S40.Held :: ro96 ca43 cc44 S40.Book :: ob103 Bn13 S45 ca46 cc47 ca48 cc49 :: ro2 ca46 cc47 S45.cell :: ro96 ca48 cc49 S45.log :: L)) w) K ⟨car5, ccr6, car7, ccr8, caq24, ccq25, caq26, ccq27, ({ r1 with On := true }), S22, 0, H, j, hr, h⟩ ?_
        clear h hr a H; rintro k1 a w ⟨ca41, cc42, ca43, cc44, ca46, cc47, ca48, cc49, S40, S45, g50, H, j, hr, h⟩
        cases k1 with
        | zero => exact absurd H (by simp [plunderlaw8_FramesNew_l1])
        | succ k1 =>
          rw [plunderlaw8_FramesNew_l1] at H
          refine wp_seq ?_
          refine wp_seq ?_
          refine wp_region_lit ?_
          refine ovs [54, 55] [.int .i64 g50, .bool (decide (g50 < (2 : Int)))] hr ⟨rfl, rfl⟩ (by kernel_rfl) ?_; clear hr a; intro a hr
          refine wpList_nil ?_
          refine then_normal ?_
          by_cases c51 : g50 < (2 : Int)
          ·
            replace H := ifT c51 H
            refine cond_tt hr (b := (decide (g50 < (2 : Int)))) (decide_eq_true c51) ?_
            refine wp_skip ?_
            refine then_normal ?_
            refine wp_seq ?_
            refine wp_block ?_
            refine wp_seq ?_
            refine wp_region_lit ?_
            refine ovs [58, 12] [.int .i64 p1, .int .i64 p1] hr ⟨rfl, rfl⟩ (by kernel_rfl) ?_; clear hr a; intro a hr
            refine wpList_nil ?_
            refine then_normal ?_
            replace H := kd1 H; obtain ⟨o54, H, hK53⟩ := H
            refine cut_rule (β := Unit) (fun _ a w => ∃ g52 : Int, g52 = o54 ∧ ∃ j, Rep 111 (lk [(1, .int .i64 p1), (2, .int .i64 p2), (7, .pointer (some ⟨Bn4, 0, none⟩)), (9, .pointer (some ⟨Bn13, 0, none⟩)), (11, .int .i64 g50), (12, .int .i64 g52)] j) a ∧ Fit z (sepL (ob34 Bn4 S40 ca41 cc42 ca43 cc44 :: ro2 ca41 cc42 S40.Held :: ro96 ca43 cc44 S40.Book :: ob103 Bn13 S45 ca46 cc47 ca48 cc49 :: ro2 ca46 cc47 S45.cell :: ro96 ca48 cc49 S45.log :: L)) w) ?_ ?_
            ·
              refine wp_seq ?_
              refine wp_region_lit ?_
              refine ovs [59, 60] [.int .i64 g50, .bool (g50 == (1 : Int))] hr ⟨rfl, rfl⟩ (by kernel_rfl) ?_; clear hr a; intro a hr
              refine wpList_nil ?_
              refine then_normal ?_
              by_cases c55 : g50 = (1 : Int)
              ·
                replace H := ifT c55 H
                refine cond_tt hr (b := (g50 == (1 : Int))) (beq_iff_eq.mpr c55) ?_
                refine wp_region_lit ?_
                refine ovs [61, 12] [.int .i64 p2, .int .i64 p2] hr ⟨rfl, rfl⟩ (by kernel_rfl) ?_; clear hr a; intro a hr
                refine wpList_nil ?_
                refine then_normal ?_
                replace hr := hr.fold2 [(1, .int .i64 p1), (2, .int .i64 p2), (7, .pointer (some ⟨Bn4, 0, none⟩)), (9, .pointer (some ⟨Bn13, 0, none⟩)), (11, .int .i64 g50), (12, .int .i64 p2)] (by kernel_rfl); obtain ⟨j, hr⟩ := hr
                exact ⟨(), p2, sinj H, j, hr, h⟩
              ·
                replace H := ifF c55 H
                refine cond_ff hr (b := (g50 == (1 : Int))) (beq_eq_false_iff_ne.mpr c55) ?_
                refine wp_skip ?_
                refine then_normal ?_
                replace hr := hr.fold2 [(1, .int .i64 p1), (2, .int .i64 p2), (7, .pointer (some ⟨Bn4, 0, none⟩)), (9, .pointer (some ⟨Bn13, 0, none⟩)), (11, .int .i64 g50), (12, .int .i64 p1)] (by kernel_rfl); obtain ⟨j, hr⟩ := hr
                exact ⟨(), p1, sinj H, j, hr, h⟩
            clear h hr a; rintro _ a w ⟨g52, rfl, j, hr, h⟩
            replace H := kk1 hK53
            refine wp_seq ?_
            refine wp_region_lit ?_
            replace H := bd3 H; obtain ⟨r56, r57, S58, e59, H⟩ := H
            refine ovs [63, 64] [.pointer (some ⟨Bn4, 0, none⟩), .int .i64 g52] hr ⟨rfl, rfl⟩ (by kernel_rfl) ?_; clear hr a; intro a hr
            have hc := plunderref8_New_ok (H := e59) (h := h)
            refine op_call (wn rfl) rfl rfl hr (f := 18) (args := #[.pointer (some ⟨Bn4, 0, none⟩), .int .i64 g52]) (by kernel_rfl) hc ?_; clear hc h
            rintro _ w ⟨caq60, ccq61, caq62, ccq63, rfl, h⟩; refine ⟨_, rfl, ?_⟩
            clear hr a; intro a hr
            refine ovs [62, 66, 67] [.tuple #[.agg #[.int .i64 r56.Base, .int .i64 r56.Frames], .int .i64 r57], .agg #[.int .i64 r56.Base, .int .i64 r56.Frames], .int .i64 r57] hr ⟨rfl, rfl⟩ (by kernel_rfl) ?_; clear hr a; intro a hr
            refine op_new (wn rfl) rfl rfl hr h (vf := fun b => .pointer (some ⟨b, 0, none⟩)) (cs := #[.int .i64 0, .int .i64 0]) (T := 36) (by kernel_rfl) ?_; clear h hr a; intro b64 w a h hr
            refine op_stores (wn rfl) rfl hr rfl (by kernel_rfl) (by kernel_rfl) (vs := [.int .i64 r56.Base, .int .i64 r56.Frames]) rfl rfl (by kernel_rfl) h (i := 0) (cs' := #[.int .i64 r56.Base, .int .i64 r56.Frames]) rfl ?_; clear h; intro w h
            refine ov hr (.int .i64 r57) (by kernel_rfl) ?_; clear hr a; intro a hr
            refine wpList_nil ?_
            replace h : Fit z (sepL (ob36 b64 r56 :: ob34 Bn4 S58 caq60 ccq61 caq62 ccq63 :: ro2 caq60 ccq61 S58.Held :: ro96 caq62 ccq63 S58.Book :: ob103 Bn13 S45 ca46 cc47 ca48 cc49 :: ro2 ca46 cc47 S45.cell :: ro96 ca48 cc49 S45.log :: L)) _ := h
            refine then_normal ?_
            refine wp_seq ?_
            refine wp_region_lit ?_
            replace H := bd3 H; obtain ⟨r65, r66, S67, e68, H⟩ := H
            refine ovs [69, 70, 71] [.pointer (some ⟨Bn13, 0, none⟩), .iface 26 (.pointer (some ⟨Bn13, 0, none⟩)), .int .i64 g52] hr ⟨rfl, rfl⟩ (by kernel_rfl) ?_; clear hr a; intro a hr
            replace h : Fit z (sepL (ob103 Bn13 S45 ca46 cc47 ca48 cc49 :: ro2 ca46 cc47 S45.cell :: ro96 ca48 cc49 S45.log :: ob36 b64 r56 :: ob34 Bn4 S58 caq60 ccq61 caq62 ccq63 :: ro2 caq60 ccq61 S58.Held :: ro96 caq62 ccq63 S58.Book :: L)) _ := h.sel 7 [4, 5, 6, 0, 1, 2, 3] (by kernel_rfl) (by kernel_rfl)
            have hc := frames_New_iface_ok (H := e68) (h := h)
            refine op_call (wn rfl) rfl rfl hr (f := 19) (args := #[.iface 26 (.pointer (some ⟨Bn13, 0, none⟩)), .int .i64 g52]) (by kernel_rfl) hc ?_; clear hc h
            rintro _ w ⟨caq69, ccq70, caq71, ccq72, rfl, h⟩; refine ⟨_, rfl, ?_⟩
            clear hr a; intro a hr
            refine ovs [68, 73, 74] [.tuple #[.agg #[.int .i64 r65.Base, .int .i64 r65.Frames], .int .i64 r66], .agg #[.int .i64 r65.Base, .int .i64 r65.Frames], .int .i64 r66] hr ⟨rfl, rfl⟩ (by kernel_rfl) ?_; clear hr a; intro a hr
            refine op_new (wn rfl) rfl rfl hr h (vf := fun b => .pointer (some ⟨b, 0, none⟩)) (cs := #[.int .i64 0, .int .i64 0]) (T := 39) (by kernel_rfl) ?_; clear h hr a; intro b73 w a h hr
            refine op_stores (wn rfl) rfl hr rfl (by kernel_rfl) (by kernel_rfl) (vs := [.int .i64 r65.Base, .int .i64 r65.Frames]) rfl rfl (by kernel_rfl) h (i := 0) (cs' := #[.int .i64 r65.Base, .int .i64 r65.Frames]) rfl ?_; clear h; intro w h
            refine ov hr (.int .i64 r66) (by kernel_rfl) ?_; clear hr a; intro a hr
            refine wpList_nil ?_
            replace h : Fit z (sepL (ob39 b73 r65 :: ob103 Bn13 S67 caq69 ccq70 caq71 ccq72 :: ro2 caq69 ccq70 S67.cell :: ro96 caq71 ccq72 S67.log :: ob36 b64 r56 :: ob34 Bn4 S58 caq60 ccq61 caq62 ccq63 :: ro2 caq60 ccq61 S58.Held :: ro96 caq62 ccq63 S58.Book :: L)) _ := h
            refine then_normal ?_
            refine wp_seq ?_
            refine wp_region_lit ?_
            refine ovs [75, 76, 77, 78] [.int .i64 r57, .int .i64 r66, .bool (r57 != r66), .bool (r57 != r66)] hr ⟨rfl, rfl⟩ (by kernel_rfl) ?_; clear hr a; intro a hr
            by_cases c74 : r57 = r66
            ·
              replace H := ifT c74 H
              refine op_val ((wg hr rfl rfl rfl (b' := (r57 != r66)) (by kernel_rfl)).trans (by rw [show (r57 != r66) = false from (bne_eq_false_iff_eq.mpr c74)]; rfl)) rfl rfl hr (v := .pointer (some ⟨b73, 0, none⟩)) (by kernel_rfl) ?_; clear hr a; intro a hr
              refine op_val ((wg hr rfl rfl rfl (b' := (r57 != r66)) (by kernel_rfl)).trans (by rw [show (r57 != r66) = false from (bne_eq_false_iff_eq.mpr c74)]; rfl)) rfl rfl hr (v := .int .i64 r65.Base) (rl rfl (by kernel_rfl) (by kernel_rfl) (h.cell 0 rfl)) ?_; clear hr a; intro a hr
              refine op_val ((wg hr rfl rfl rfl (b' := (r57 != r66)) (by kernel_rfl)).trans (by rw [show (r57 != r66) = false from (bne_eq_false_iff_eq.mpr c74)]; rfl)) rfl rfl hr (v := .pointer (some ⟨b64, 0, none⟩)) (by kernel_rfl) ?_; clear hr a; intro a hr
              refine op_val ((wg hr rfl rfl rfl (b' := (r57 != r66)) (by kernel_rfl)).trans (by rw [show (r57 != r66) = false from (bne_eq_false_iff_eq.mpr c74)]; rfl)) rfl rfl hr (v := .int .i64 r56.Base) (rl rfl (by kernel_rfl) (by kernel_rfl) ((h.pick 4).cell 0 rfl)) ?_; clear hr a; intro a hr
              refine op_val ((wg hr rfl rfl rfl (b' := (r57 != r66)) (by kernel_rfl)).trans (by rw [show (r57 != r66) = false from (bne_eq_false_iff_eq.mpr c74)]; rfl)) rfl rfl hr (v := .bool (r65.Base != r56.Base)) (by kernel_rfl) ?_; clear hr a; intro a hr
              refine op_val (wn rfl) rfl rfl hr (v := .bool (r65.Base != r56.Base)) (rp_f (b := (r57 != r66)) rfl (by kernel_rfl) (bne_eq_false_iff_eq.mpr c74) (by kernel_rfl)) ?_; clear hr a; intro a hr
              refine ov hr (.bool (r65.Base != r56.Base)) (by kernel_rfl) ?_; clear hr a; intro a hr
              by_cases c75 : r65.Base = r56.Base
              ·
                replace H := ifT c75 H
                refine op_val ((wg hr rfl rfl rfl (b' := (r65.Base != r56.Base)) (by kernel_rfl)).trans (by rw [show (r65.Base != r56.Base) = false from (bne_eq_false_iff_eq.mpr c75)]; rfl)) rfl rfl hr (v := .pointer (some ⟨b73, 1, none⟩)) (by kernel_rfl) ?_; clear hr a; intro a hr
                refine op_val ((wg hr rfl rfl rfl (b' := (r65.Base != r56.Base)) (by kernel_rfl)).trans (by rw [show (r65.Base != r56.Base) = false from (bne_eq_false_iff_eq.mpr c75)]; rfl)) rfl rfl hr (v := .int .i64 r65.Frames) (rl rfl (by kernel_rfl) (by kernel_rfl) (h.cell 1 rfl)) ?_; clear hr a; intro a hr
                refine op_val ((wg hr rfl rfl rfl (b' := (r65.Base != r56.Base)) (by kernel_rfl)).trans (by rw [show (r65.Base != r56.Base) = false from (bne_eq_false_iff_eq.mpr c75)]; rfl)) rfl rfl hr (v := .pointer (some ⟨b64, 1, none⟩)) (by kernel_rfl) ?_; clear hr a; intro a hr
                refine op_val ((wg hr rfl rfl rfl (b' := (r65.Base != r56.Base)) (by kernel_rfl)).trans (by rw [show (r65.Base != r56.Base) = false from (bne_eq_false_iff_eq.mpr c75)]; rfl)) rfl rfl hr (v := .int .i64 r56.Frames) (rl rfl (by kernel_rfl) (by kernel_rfl) ((h.pick 4).cell 1 rfl)) ?_; clear hr a; intro a hr
                refine op_val ((wg hr rfl rfl rfl (b' := (r65.Base != r56.Base)) (by kernel_rfl)).trans (by rw [show (r65.Base != r56.Base) = false from (bne_eq_false_iff_eq.mpr c75)]; rfl)) rfl rfl hr (v := .bool (r65.Frames != r56.Frames)) (by kernel_rfl) ?_; clear hr a; intro a hr
                refine op_val (wn rfl) rfl rfl hr (v := .bool (r65.Frames != r56.Frames)) (rp_f (b := (r65.Base != r56.Base)) rfl (by kernel_rfl) (bne_eq_false_iff_eq.mpr c75) (by kernel_rfl)) ?_; clear hr a; intro a hr
                refine ov hr (.bool (r65.Frames != r56.Frames)) (by kernel_rfl) ?_; clear hr a; intro a hr
                by_cases c76 : r65.Frames = r56.Frames
                ·
                  replace H := ifT c76 H
                  refine op_val ((wg hr rfl rfl rfl (b' := (r65.Frames != r56.Frames)) (by kernel_rfl)).trans (by rw [show (r65.Frames != r56.Frames) = false from (bne_eq_false_iff_eq.mpr c76)]; rfl)) rfl rfl hr (v := .int .i64 g52) (by kernel_rfl) ?_; clear hr a; intro a hr
                  replace H := bd1 H; obtain ⟨r77, e78, H⟩ := H
                  have hc := frames_Cells_ok (H := e78) (h := h)
                  refine op_call ((wg hr rfl rfl rfl (b' := (r65.Frames != r56.Frames)) (by kernel_rfl)).trans (by rw [show (r65.Frames != r56.Frames) = false from (bne_eq_false_iff_eq.mpr c76)]; rfl)) rfl rfl hr (f := 15) (args := #[.int .i64 g52]) (by kernel_rfl) hc ?_; clear hc h
                  rintro _ w ⟨rfl, h⟩; refine ⟨_, rfl, ?_⟩
                  clear hr a; intro a hr
                  refine op_val ((wg hr rfl rfl rfl (b' := (r65.Frames != r56.Frames)) (by kernel_rfl)).trans (by rw [show (r65.Frames != r56.Frames) = false from (bne_eq_false_iff_eq.mpr c76)]; rfl)) rfl rfl hr (v := .int .i64 g52) (by kernel_rfl) ?_; clear hr a; intro a hr
                  replace H := bd1 H; obtain ⟨r79, e80, H⟩ := H
                  have hc := plunderref8_Cells_ok (H := e80) (h := h)
                  refine op_call ((wg hr rfl rfl rfl (b' := (r65.Frames != r56.Frames)) (by kernel_rfl)).trans (by rw [show (r65.Frames != r56.Frames) = false from (bne_eq_false_iff_eq.mpr c76)]; rfl)) rfl rfl hr (f := 16) (args := #[.int .i64 g52]) (by kernel_rfl) hc ?_; clear hc h
                  rintro _ w ⟨rfl, h⟩; refine ⟨_, rfl, ?_⟩
                  clear hr a; intro a hr
                  refine op_val ((wg hr rfl rfl rfl (b' := (r65.Frames != r56.Frames)) (by kernel_rfl)).trans (by rw [show (r65.Frames != r56.Frames) = false from (bne_eq_false_iff_eq.mpr c76)]; rfl)) rfl rfl hr (v := .bool (r77 != r79)) (by kernel_rfl) ?_; clear hr a; intro a hr
                  refine op_val (wn rfl) rfl rfl hr (v := .bool (r77 != r79)) (rp_f (b := (r65.Frames != r56.Frames)) rfl (by kernel_rfl) (bne_eq_false_iff_eq.mpr c76) (by kernel_rfl)) ?_; clear hr a; intro a hr
                  refine wpList_nil ?_
                  refine then_normal ?_
                  by_cases c81 : r77 = r79
                  ·
                    replace H := ifT c81 H
                    refine cond_ff hr (b := (r77 != r79)) (bne_eq_false_iff_eq.mpr c81) ?_
                    refine wp_skip ?_
                    refine blk_normal ?_
                    refine then_normal ?_
                    refine wp_region_lit ?_
                    refine ovs [56, 57, 11] [.int .i64 g50, .int .i64 (wi (g50 + (1 : Int))), .int .i64 (wi (g50 + (1 : Int)))] hr ⟨rfl, rfl⟩ (by kernel_rfl) ?_; clear hr a; intro a hr
                    refine wpList_nil ?_
                    refine then_normal ?_
                    replace hr := hr.fold2 [(1, .int .i64 p1), (2, .int .i64 p2), (7, .pointer (some ⟨Bn4, 0, none⟩)), (9, .pointer (some ⟨Bn13, 0, none⟩)), (11, .int .i64 (wi (g50 + (1 : Int))))] (by kernel_rfl); obtain ⟨j, hr⟩ := hr
                    replace h : Fit z (sepL (ob34 Bn4 S58 caq60 ccq61 caq62 ccq63 :: ro2 caq60 ccq61 S58.Held :: ro96 caq62 ccq63 S58.Book :: ob103 Bn13 S67 caq69 ccq70 caq71 ccq72 :: ro2 caq69 ccq70 S67.cell :: ro96 caq71 ccq72 S67.log :: L)) _ := h.sel 8 [5, 6, 7, 1, 2, 3] (by kernel_rfl) (by kernel_rfl)
                    exact ⟨_, ⟨caq60, ccq61, caq62, ccq63, caq69, ccq70, caq71, ccq72, S58, S67, (wi (g50 + (1 : Int))), H, j, hr, h⟩, Nat.lt_succ_self _⟩
                  ·
                    replace H := ifF c81 H
                    refine cond_tt hr (b := (r77 != r79)) (bne_iff_ne.mpr c81) ?_
                    refine wp_seq ?_
                    refine wp_region_lit ?_
                    refine ov hr (.bool false) (by kernel_rfl) ?_; clear hr a; intro a hr
                    refine wpList_nil ?_
                    refine then_normal ?_
                    refine wp_ret ?_
                    refine blk_ret ?_
                    refine then_ret ?_
                    refine then_ret ?_
                    refine blk_ret ?_
                    refine then_ret ?_
                    refine end_ret1 (v := .bool false) rfl hr (by kernel_rfl) ?_
                    replace H := jx2 H hK38
                    replace h : Fit z (sepL (L)) _ := h.sel 8 [] (by kernel_rfl) (by kernel_rfl)
                    replace H := ej1 H; subst H
                    exact ⟨rfl, h⟩
                ·
                  replace H := ifF c76 H
                  refine op_off ((wg hr rfl rfl rfl (b' := (r65.Frames != r56.Frames)) (by kernel_rfl)).trans (by rw [show (r65.Frames != r56.Frames) = true from (bne_iff_ne.mpr c76)]; rfl)) rfl rfl hr ?_; clear hr a; intro a hr
                  refine op_off ((wg hr rfl rfl rfl (b' := (r65.Frames != r56.Frames)) (by kernel_rfl)).trans (by rw [show (r65.Frames != r56.Frames) = true from (bne_iff_ne.mpr c76)]; rfl)) rfl rfl hr ?_; clear hr a; intro a hr
                  refine op_off ((wg hr rfl rfl rfl (b' := (r65.Frames != r56.Frames)) (by kernel_rfl)).trans (by rw [show (r65.Frames != r56.Frames) = true from (bne_iff_ne.mpr c76)]; rfl)) rfl rfl hr ?_; clear hr a; intro a hr
                  refine op_off ((wg hr rfl rfl rfl (b' := (r65.Frames != r56.Frames)) (by kernel_rfl)).trans (by rw [show (r65.Frames != r56.Frames) = true from (bne_iff_ne.mpr c76)]; rfl)) rfl rfl hr ?_; clear hr a; intro a hr
                  refine op_off ((wg hr rfl rfl rfl (b' := (r65.Frames != r56.Frames)) (by kernel_rfl)).trans (by rw [show (r65.Frames != r56.Frames) = true from (bne_iff_ne.mpr c76)]; rfl)) rfl rfl hr ?_; clear hr a; intro a hr
                  refine op_val (wn rfl) rfl rfl hr (v := .bool true) (rp_t (b := (r65.Frames != r56.Frames)) rfl (by kernel_rfl) (bne_iff_ne.mpr c76) (by kernel_rfl)) ?_; clear hr a; intro a hr
                  refine wpList_nil ?_
                  refine then_normal ?_
                  refine cond_tt hr (b := true) rfl ?_
                  refine wp_seq ?_
                  refine wp_region_lit ?_
                  refine ov hr (.bool false) (by kernel_rfl) ?_; clear hr a; intro a hr
                  refine wpList_nil ?_
                  refine then_normal ?_
                  refine wp_ret ?_
                  refine blk_ret ?_
                  refine then_ret ?_
                  refine then_ret ?_
                  refine blk_ret ?_
                  refine then_ret ?_
                  refine end_ret1 (v := .bool false) rfl hr (by kernel_rfl) ?_
                  replace H := jx2 H hK38
                  replace h : Fit z (sepL (L)) _ := h.sel 8 [] (by kernel_rfl) (by kernel_rfl)
                  replace H := ej1 H; subst H
                  exact ⟨rfl, h⟩
              ·
                replace H := ifF c75 H
                refine op_off ((wg hr rfl rfl rfl (b' := (r65.Base != r56.Base)) (by kernel_rfl)).trans (by rw [show (r65.Base != r56.Base) = true from (bne_iff_ne.mpr c75)]; rfl)) rfl rfl hr ?_; clear hr a; intro a hr
                refine op_off ((wg hr rfl rfl rfl (b' := (r65.Base != r56.Base)) (by kernel_rfl)).trans (by rw [show (r65.Base != r56.Base) = true from (bne_iff_ne.mpr c75)]; rfl)) rfl rfl hr ?_; clear hr a; intro a hr
                refine op_off ((wg hr rfl rfl rfl (b' := (r65.Base != r56.Base)) (by kernel_rfl)).trans (by rw [show (r65.Base != r56.Base) = true from (bne_iff_ne.mpr c75)]; rfl)) rfl rfl hr ?_; clear hr a; intro a hr
                refine op_off ((wg hr rfl rfl rfl (b' := (r65.Base != r56.Base)) (by kernel_rfl)).trans (by rw [show (r65.Base != r56.Base) = true from (bne_iff_ne.mpr c75)]; rfl)) rfl rfl hr ?_; clear hr a; intro a hr
                refine op_off ((wg hr rfl rfl rfl (b' := (r65.Base != r56.Base)) (by kernel_rfl)).trans (by rw [show (r65.Base != r56.Base) = true from (bne_iff_ne.mpr c75)]; rfl)) rfl rfl hr ?_; clear hr a; intro a hr
                refine op_val (wn rfl) rfl rfl hr (v := .bool true) (rp_t (b := (r65.Base != r56.Base)) rfl (by kernel_rfl) (bne_iff_ne.mpr c75) (by kernel_rfl)) ?_; clear hr a; intro a hr
                refine ov hr (.bool true) (by kernel_rfl) ?_; clear hr a; intro a hr
                refine op_off ((wg hr rfl rfl rfl (b' := true) (by kernel_rfl)).trans rfl) rfl rfl hr ?_; clear hr a; intro a hr
                refine op_off ((wg hr rfl rfl rfl (b' := true) (by kernel_rfl)).trans rfl) rfl rfl hr ?_; clear hr a; intro a hr
                refine op_off ((wg hr rfl rfl rfl (b' := true) (by kernel_rfl)).trans rfl) rfl rfl hr ?_; clear hr a; intro a hr
                refine op_off ((wg hr rfl rfl rfl (b' := true) (by kernel_rfl)).trans rfl) rfl rfl hr ?_; clear hr a; intro a hr
                refine op_off ((wg hr rfl rfl rfl (b' := true) (by kernel_rfl)).trans rfl) rfl rfl hr ?_; clear hr a; intro a hr
                refine ov hr (.bool true) (by kernel_rfl) ?_; clear hr a; intro a hr
                refine wpList_nil ?_
                refine then_normal ?_
                refine cond_tt hr (b := true) rfl ?_
                refine wp_seq ?_
                refine wp_region_lit ?_
                refine ov hr (.bool false) (by kernel_rfl) ?_; clear hr a; intro a hr
                refine wpList_nil ?_
                refine then_normal ?_
                refine wp_ret ?_
                refine blk_ret ?_
                refine then_ret ?_
                refine then_ret ?_
                refine blk_ret ?_
                refine then_ret ?_
                refine end_ret1 (v := .bool false) rfl hr (by kernel_rfl) ?_
                replace H := jx2 H hK38
                replace h : Fit z (sepL (L)) _ := h.sel 8 [] (by kernel_rfl) (by kernel_rfl)
                replace H := ej1 H; subst H
                exact ⟨rfl, h⟩
            ·
              replace H := ifF c74 H
              refine op_off ((wg hr rfl rfl rfl (b' := (r57 != r66)) (by kernel_rfl)).trans (by rw [show (r57 != r66) = true from (bne_iff_ne.mpr c74)]; rfl)) rfl rfl hr ?_; clear hr a; intro a hr
              refine op_off ((wg hr rfl rfl rfl (b' := (r57 != r66)) (by kernel_rfl)).trans (by rw [show (r57 != r66) = true from (bne_iff_ne.mpr c74)]; rfl)) rfl rfl hr ?_; clear hr a; intro a hr
              refine op_off ((wg hr rfl rfl rfl (b' := (r57 != r66)) (by kernel_rfl)).trans (by rw [show (r57 != r66) = true from (bne_iff_ne.mpr c74)]; rfl)) rfl rfl hr ?_; clear hr a; intro a hr
              refine op_off ((wg hr rfl rfl rfl (b' := (r57 != r66)) (by kernel_rfl)).trans (by rw [show (r57 != r66) = true from (bne_iff_ne.mpr c74)]; rfl)) rfl rfl hr ?_; clear hr a; intro a hr
              refine op_off ((wg hr rfl rfl rfl (b' := (r57 != r66)) (by kernel_rfl)).trans (by rw [show (r57 != r66) = true from (bne_iff_ne.mpr c74)]; rfl)) rfl rfl hr ?_; clear hr a; intro a hr
              refine op_val (wn rfl) rfl rfl hr (v := .bool true) (rp_t (b := (r57 != r66)) rfl (by kernel_rfl) (bne_iff_ne.mpr c74) (by kernel_rfl)) ?_; clear hr a; intro a hr
              refine ov hr (.bool true) (by kernel_rfl) ?_; clear hr a; intro a hr
              refine op_off ((wg hr rfl rfl rfl (b' := true) (by kernel_rfl)).trans rfl) rfl rfl hr ?_; clear hr a; intro a hr
              refine op_off ((wg hr rfl rfl rfl (b' := true) (by kernel_rfl)).trans rfl) rfl rfl hr ?_; clear hr a; intro a hr
              refine op_off ((wg hr rfl rfl rfl (b' := true) (by kernel_rfl)).trans rfl) rfl rfl hr ?_; clear hr a; intro a hr
              refine op_off ((wg hr rfl rfl rfl (b' := true) (by kernel_rfl)).trans rfl) rfl rfl hr ?_; clear hr a; intro a hr
              refine op_off ((wg hr rfl rfl rfl (b' := true) (by kernel_rfl)).trans rfl) rfl rfl hr ?_; clear hr a; intro a hr
              refine ovs [91, 92] [.bool true, .bool true] hr ⟨rfl, rfl⟩ (by kernel_rfl) ?_; clear hr a; intro a hr
              refine op_off ((wg hr rfl rfl rfl (b' := true) (by kernel_rfl)).trans rfl) rfl rfl hr ?_; clear hr a; intro a hr
              refine op_off ((wg hr rfl rfl rfl (b' := true) (by kernel_rfl)).trans rfl) rfl rfl hr ?_; clear hr a; intro a hr
              refine op_off ((wg hr rfl rfl rfl (b' := true) (by kernel_rfl)).trans rfl) rfl rfl hr ?_; clear hr a; intro a hr
              refine op_off ((wg hr rfl rfl rfl (b' := true) (by kernel_rfl)).trans rfl) rfl rfl hr ?_; clear hr a; intro a hr
              refine op_off ((wg hr rfl rfl rfl (b' := true) (by kernel_rfl)).trans rfl) rfl rfl hr ?_; clear hr a; intro a hr
              refine ov hr (.bool true) (by kernel_rfl) ?_; clear hr a; intro a hr
              refine wpList_nil ?_
              refine then_normal ?_
              refine cond_tt hr (b := true) rfl ?_
              refine wp_seq ?_
              refine wp_region_lit ?_
              refine ov hr (.bool false) (by kernel_rfl) ?_; clear hr a; intro a hr
              refine wpList_nil ?_
              refine then_normal ?_
              refine wp_ret ?_
              refine blk_ret ?_
              refine then_ret ?_
              refine then_ret ?_
              refine blk_ret ?_
              refine then_ret ?_
              refine end_ret1 (v := .bool false) rfl hr (by kernel_rfl) ?_
              replace H := jx2 H hK38
              replace h : Fit z (sepL (L)) _ := h.sel 8 [] (by kernel_rfl) (by kernel_rfl)
              replace H := ej1 H; subst H
              exact ⟨rfl, h⟩
          ·
            replace H := ifF c51 H
            refine cond_ff hr (b := (decide (g50 < (2 : Int)))) (decide_eq_false c51) ?_
            refine wp_exit ?_
            refine then_exit ?_
            refine then_exit ?_
            refine blk_here ?_
            refine then_normal ?_
            replace hr := hr.fold2 [(7, .pointer (some ⟨Bn4, 0, none⟩)), (9, .pointer (some ⟨Bn13, 0, none⟩))] (by kernel_rfl); obtain ⟨j, hr⟩ := hr
            exact ⟨(), ca41, cc42, ca43, cc44, ca46, cc47, ca48, cc49, S40, S45, sinj H, j, hr, h⟩
      clear h hr a; rintro _ a w ⟨ca29, cc30, ca31, cc32, ca34, cc35, ca36, cc37, S28, S33, rfl, j, hr, h⟩
      replace H := jk2 hK38
      refine wp_seq ?_
      refine wp_region_lit ?_
      replace H := bd1 H; obtain ⟨r82, e83, H⟩ := H
      refine ov hr (.pointer (some ⟨Bn13, 0, none⟩)) (by kernel_rfl) ?_; clear hr a; intro a hr
      replace h : Fit z (sepL (ob103 Bn13 S33 ca34 cc35 ca36 cc37 :: ro2 ca34 cc35 S33.cell :: ro96 ca36 cc37 S33.log :: ob34 Bn4 S28 ca29 cc30 ca31 cc32 :: ro2 ca29 cc30 S28.Held :: ro96 ca31 cc32 S28.Book :: L)) _ := h.sel 6 [3, 4, 5, 0, 1, 2] (by kernel_rfl) (by kernel_rfl)
      have hc := cells_Arena_Cells_ok (H := e83) (h := h)
      refine op_call (wn rfl) rfl rfl hr (f := 21) (args := #[.pointer (some ⟨Bn13, 0, none⟩)]) (by kernel_rfl) hc ?_; clear hc h
      rintro _ w ⟨car84, rfl, h⟩; refine ⟨_, rfl, ?_⟩
      clear hr a; intro a hr
      replace H := bd1 H; obtain ⟨r85, e86, H⟩ := H
      refine ov hr (.pointer (some ⟨Bn4, 0, none⟩)) (by kernel_rfl) ?_; clear hr a; intro a hr
      replace h : Fit z (sepL (ob34 Bn4 S28 ca29 cc30 ca31 cc32 :: ro2 ca29 cc30 S28.Held :: ro96 ca31 cc32 S28.Book :: ob103 Bn13 S33 ca34 cc35 ca36 cc37 :: ro2 ca34 cc35 S33.cell :: ro96 ca36 cc37 S33.log :: ro2 car84 r82.length r82 :: L)) _ := h.sel 7 [4, 5, 6, 0, 1, 2, 3] (by kernel_rfl) (by kernel_rfl)
      have hc := plunderref2_Arena_Cells_ok (H := e86) (h := h)
      refine op_call (wn rfl) rfl rfl hr (f := 22) (args := #[.pointer (some ⟨Bn4, 0, none⟩)]) (by kernel_rfl) hc ?_; clear hc h
      rintro _ w ⟨car87, ccr88, rfl, h⟩; refine ⟨_, rfl, ?_⟩
      clear hr a; intro a hr
      replace H := bd1 H; obtain ⟨r89, e90, H⟩ := H
      have hc := plunderlaw8_sameNumbers_ok (va0 := car84) (vc0 := r82.length) (va1 := car87) (vc1 := ccr88) (hv0 := (RdRow.of_row encZ_i64_ok (h.pick 7) (fun h => (h.pick 7)))) (hv1 := (RdRow.of_row encZ_i64_ok (h.pick 3) (fun h => (h.pick 3)))) (H := e90) (h := h)
      refine op_call (wn rfl) rfl rfl hr (f := 20) (args := #[.slice car84 r82.length r82.length, .slice car87 r85.length ccr88]) (by kernel_rfl) hc ?_; clear hc h
      rintro _ w ⟨rfl, h⟩; refine ⟨_, rfl, ?_⟩
      clear hr a; intro a hr
      refine ov hr (.bool r89) (by kernel_rfl) ?_; clear hr a; intro a hr
      by_cases c91 : r89 = true
      ·
        replace H := ifT c91 H
        refine op_val ((wg hr rfl rfl rfl (b' := r89) (by kernel_rfl)).trans (by rw [show r89 = true from (c91)]; rfl)) rfl rfl hr (v := .pointer (some ⟨Bn13, 0, none⟩)) (by kernel_rfl) ?_; clear hr a; intro a hr
        replace H := bd1 H; obtain ⟨r92, e93, H⟩ := H
        replace h : Fit z (sepL (ob103 Bn13 S33 ca34 cc35 ca36 cc37 :: ro2 ca34 cc35 S33.cell :: ro96 ca36 cc37 S33.log :: ob34 Bn4 S28 ca29 cc30 ca31 cc32 :: ro2 ca29 cc30 S28.Held :: ro96 ca31 cc32 S28.Book :: ro2 car87 ccr88 r85 :: ro2 car84 r82.length r82 :: L)) _ := h.sel 8 [4, 5, 6, 0, 1, 2, 3, 7] (by kernel_rfl) (by kernel_rfl)
        have hc := cells_Arena_Log_ok (H := e93) (h := h)
        refine op_call ((wg hr rfl rfl rfl (b' := r89) (by kernel_rfl)).trans (by rw [show r89 = true from (c91)]; rfl)) rfl rfl hr (f := 24) (args := #[.pointer (some ⟨Bn13, 0, none⟩)]) (by kernel_rfl) hc ?_; clear hc h
        rintro _ w ⟨car94, rfl, h⟩; refine ⟨_, rfl, ?_⟩
        clear hr a; intro a hr
        refine op_val ((wg hr rfl rfl rfl (b' := r89) (by kernel_rfl)).trans (by rw [show r89 = true from (c91)]; rfl)) rfl rfl hr (v := .pointer (some ⟨Bn4, 0, none⟩)) (by kernel_rfl) ?_; clear hr a; intro a hr
        replace H := bd1 H; obtain ⟨r95, e96, H⟩ := H
        replace h : Fit z (sepL (ob34 Bn4 S28 ca29 cc30 ca31 cc32 :: ro2 ca29 cc30 S28.Held :: ro96 ca31 cc32 S28.Book :: ob103 Bn13 S33 ca34 cc35 ca36 cc37 :: ro2 ca34 cc35 S33.cell :: ro96 ca36 cc37 S33.log :: ro96 car94 r92.length r92 :: ro2 car87 ccr88 r85 :: ro2 car84 r82.length r82 :: L)) _ := h.sel 9 [4, 5, 6, 0, 1, 2, 3, 7, 8] (by kernel_rfl) (by kernel_rfl)
        have hc := plunderref2_Arena_Log_ok (H := e96) (h := h)
        refine op_call ((wg hr rfl rfl rfl (b' := r89) (by kernel_rfl)).trans (by rw [show r89 = true from (c91)]; rfl)) rfl rfl hr (f := 25) (args := #[.pointer (some ⟨Bn4, 0, none⟩)]) (by kernel_rfl) hc ?_; clear hc h
        rintro _ w ⟨car97, ccr98, rfl, h⟩; refine ⟨_, rfl, ?_⟩
        clear hr a; intro a hr
        replace H := bd1 H; obtain ⟨r99, e100, H⟩ := H
        have hc := plunderlaw8_sameLog_ok (va0 := car94) (vc0 := r92.length) (va1 := car97) (vc1 := ccr98) (hv0 := (RdRow.of_row enc_T_api_Access_ok (h.pick 7) (fun h => (h.pick 7)))) (hv1 := (RdRow.of_row enc_T_api_Access_ok (h.pick 3) (fun h => (h.pick 3)))) (H := e100) (h := h)
        refine op_call ((wg hr rfl rfl rfl (b' := r89) (by kernel_rfl)).trans (by rw [show r89 = true from (c91)]; rfl)) rfl rfl hr (f := 23) (args := #[.slice car94 r92.length r92.length, .slice car97 r95.length ccr98]) (by kernel_rfl) hc ?_; clear hc h
        rintro _ w ⟨rfl, h⟩; refine ⟨_, rfl, ?_⟩
        clear hr a; intro a hr
        refine op_val (wn rfl) rfl rfl hr (v := .bool r99) (rp_t (b := r89) rfl (by kernel_rfl) (c91) (by kernel_rfl)) ?_; clear hr a; intro a hr
        refine ov hr (.bool r99) (by kernel_rfl) ?_; clear hr a; intro a hr
        refine wpList_nil ?_
        refine then_normal ?_
        refine wp_ret ?_
        refine end_ret1 (v := .bool r99) rfl hr (by kernel_rfl) ?_
        replace h : Fit z (sepL (L)) _ := h.sel 10 [] (by kernel_rfl) (by kernel_rfl)
        replace H := ej1 H; subst H
        exact ⟨rfl, h⟩
      ·
        replace H := ifF c91 H
        refine op_off ((wg hr rfl rfl rfl (b' := r89) (by kernel_rfl)).trans (by rw [show r89 = false from (bF c91)]; rfl)) rfl rfl hr ?_; clear hr a; intro a hr
        refine op_off ((wg hr rfl rfl rfl (b' := r89) (by kernel_rfl)).trans (by rw [show r89 = false from (bF c91)]; rfl)) rfl rfl hr ?_; clear hr a; intro a hr
        refine op_off ((wg hr rfl rfl rfl (b' := r89) (by kernel_rfl)).trans (by rw [show r89 = false from (bF c91)]; rfl)) rfl rfl hr ?_; clear hr a; intro a hr
        refine op_off ((wg hr rfl rfl rfl (b' := r89) (by kernel_rfl)).trans (by rw [show r89 = false from (bF c91)]; rfl)) rfl rfl hr ?_; clear hr a; intro a hr
        refine op_off ((wg hr rfl rfl rfl (b' := r89) (by kernel_rfl)).trans (by rw [show r89 = false from (bF c91)]; rfl)) rfl rfl hr ?_; clear hr a; intro a hr
        refine op_val (wn rfl) rfl rfl hr (v := .bool false) (rp_f (b := r89) rfl (by kernel_rfl) (bF c91) (by kernel_rfl)) ?_; clear hr a; intro a hr
        refine ov hr (.bool false) (by kernel_rfl) ?_; clear hr a; intro a hr
        refine wpList_nil ?_
        refine then_normal ?_
        refine wp_ret ?_
        refine end_ret1 (v := .bool false) rfl hr (by kernel_rfl) ?_
        replace h : Fit z (sepL (L)) _ := h.sel 8 [] (by kernel_rfl) (by kernel_rfl)
        replace H := ej1 H; subst H
        exact ⟨rfl, h⟩
    ·
      replace H := ifF c18 H
      refine cond_tt hr (b := (r2 != (0 : Int))) (bne_iff_ne.mpr c18) ?_
      refine wp_seq ?_
      refine wp_region_lit ?_
      refine ovs [29, 30, 31] [.pointer (some ⟨Bn13, 0, none⟩), .bool false, .bool false] hr ⟨rfl, rfl⟩ (by kernel_rfl) ?_; clear hr a; intro a hr
      refine op_off ((wg hr rfl rfl rfl (b' := false) (by kernel_rfl)).trans rfl) rfl rfl hr ?_; clear hr a; intro a hr
      refine op_off ((wg hr rfl rfl rfl (b' := false) (by kernel_rfl)).trans rfl) rfl rfl hr ?_; clear hr a; intro a hr
      refine op_off ((wg hr rfl rfl rfl (b' := false) (by kernel_rfl)).trans rfl) rfl rfl hr ?_; clear hr a; intro a hr
      refine ovs [35, 36] [.bool false, .bool false] hr ⟨rfl, rfl⟩ (by kernel_rfl) ?_; clear hr a; intro a hr
      refine op_off ((wg hr rfl rfl rfl (b' := false) (by kernel_rfl)).trans rfl) rfl rfl hr ?_; clear hr a; intro a hr
      refine op_off ((wg hr rfl rfl rfl (b' := false) (by kernel_rfl)).trans rfl) rfl rfl hr ?_; clear hr a; intro a hr
      refine op_off ((wg hr rfl rfl rfl (b' := false) (by kernel_rfl)).trans rfl) rfl rfl hr ?_; clear hr a; intro a hr
      refine op_off ((wg hr rfl rfl rfl (b' := false) (by kernel_rfl)).trans rfl) rfl rfl hr ?_; clear hr a; intro a hr
      refine op_off ((wg hr rfl rfl rfl (b' := false) (by kernel_rfl)).trans rfl) rfl rfl hr ?_; clear hr a; intro a hr
      refine ovs [42, 6] [.bool false, .bool false] hr ⟨rfl, rfl⟩ (by kernel_rfl) ?_; clear hr a; intro a hr
      refine wpList_nil ?_
      refine then_normal ?_
      refine wp_ret ?_
      refine then_ret ?_
      refine end_ret1 (v := .bool false) rfl hr (by kernel_rfl) ?_
      replace h : Fit z (sepL (L)) _ := h.sel 6 [] (by kernel_rfl) (by kernel_rfl)
      replace H := ej1 H; subst H
      exact ⟨rfl, h⟩
  | none =>
    have hc := cells_New_ok1 (H := e11) (h := h)
    refine op_call (wn rfl) rfl rfl hr (f := 14) (args := #[.int .i64 p0]) (by kernel_rfl) hc ?_; clear hc h
    rintro _ w ⟨rfl, h⟩; refine ⟨_, rfl, ?_⟩
    clear hr a; intro a hr
    refine ovs [22, 25, 26, 9, 10] [.tuple #[.pointer none, .int .i64 r10], .pointer none, .int .i64 r10, .pointer none, .int .i64 r10] hr ⟨rfl, rfl⟩ (by kernel_rfl) ?_; clear hr a; intro a hr
    refine wpList_nil ?_
    refine then_normal ?_
    refine wp_seq ?_
    refine wp_seq ?_
    refine wp_region_lit ?_
    refine ovs [27, 28] [.int .i64 r2, .bool (r2 != (0 : Int))] hr ⟨rfl, rfl⟩ (by kernel_rfl) ?_; clear hr a; intro a hr
    refine wpList_nil ?_
    refine then_normal ?_
    by_cases c101 : r2 = (0 : Int)
    ·
      replace H := ifT c101 H
      refine cond_ff hr (b := (r2 != (0 : Int))) (bne_eq_false_iff_eq.mpr c101) ?_
      refine wp_skip ?_
      refine then_normal ?_
      refine wp_seq ?_
      refine wp_seq ?_
      refine wp_region_lit ?_
      refine ovs [43, 44, 45] [.pointer none, .bool true, .bool true] hr ⟨rfl, rfl⟩ (by kernel_rfl) ?_; clear hr a; intro a hr
      refine op_off ((wg hr rfl rfl rfl (b' := true) (by kernel_rfl)).trans rfl) rfl rfl hr ?_; clear hr a; intro a hr
      refine op_off ((wg hr rfl rfl rfl (b' := true) (by kernel_rfl)).trans rfl) rfl rfl hr ?_; clear hr a; intro a hr
      refine ov hr (.bool true) (by kernel_rfl) ?_; clear hr a; intro a hr
      refine wpList_nil ?_
      refine then_normal ?_
      refine cond_tt hr (b := true) rfl ?_
      refine wp_seq ?_
      refine wp_region_lit ?_
      refine ov hr (.bool false) (by kernel_rfl) ?_; clear hr a; intro a hr
      refine wpList_nil ?_
      refine then_normal ?_
      refine wp_ret ?_
      refine then_ret ?_
      refine end_ret1 (v := .bool false) rfl hr (by kernel_rfl) ?_
      replace h : Fit z (sepL (L)) _ := h.sel 3 [] (by kernel_rfl) (by kernel_rfl)
      replace H := ej1 H; subst H
      exact ⟨rfl, h⟩
    ·
      replace H := ifF c101 H
      refine cond_tt hr (b := (r2 != (0 : Int))) (bne_iff_ne.mpr c101) ?_
      refine wp_seq ?_
      refine wp_region_lit ?_
      refine ovs [29, 30, 31] [.pointer none, .bool true, .bool true] hr ⟨rfl, rfl⟩ (by kernel_rfl) ?_; clear hr a; intro a hr
      refine op_val ((wg hr rfl rfl rfl (b' := true) (by kernel_rfl)).trans rfl) rfl rfl hr (v := .int .i64 r10) (by kernel_rfl) ?_; clear hr a; intro a hr
      refine op_val ((wg hr rfl rfl rfl (b' := true) (by kernel_rfl)).trans rfl) rfl rfl hr (v := .int .i64 r2) (by kernel_rfl) ?_; clear hr a; intro a hr
      refine op_val ((wg hr rfl rfl rfl (b' := true) (by kernel_rfl)).trans rfl) rfl rfl hr (v := .bool (r10 == r2)) (by kernel_rfl) ?_; clear hr a; intro a hr
      refine ovs [35, 36] [.bool (r10 == r2), .bool (r10 == r2)] hr ⟨rfl, rfl⟩ (by kernel_rfl) ?_; clear hr a; intro a hr
      by_cases c102 : r10 = r2
      ·
        replace H := ifT c102 H
        refine op_val ((wg hr rfl rfl rfl (b' := (r10 == r2)) (by kernel_rfl)).trans (by rw [show (r10 == r2) = true from (beq_iff_eq.mpr c102)]; rfl)) rfl rfl hr (v := .int .i64 p1) (by kernel_rfl) ?_; clear hr a; intro a hr
        replace H := bd1 H; obtain ⟨r103, e104, H⟩ := H
        have hc := frames_Cells_ok (H := e104) (h := h)
        refine op_call ((wg hr rfl rfl rfl (b' := (r10 == r2)) (by kernel_rfl)).trans (by rw [show (r10 == r2) = true from (beq_iff_eq.mpr c102)]; rfl)) rfl rfl hr (f := 15) (args := #[.int .i64 p1]) (by kernel_rfl) hc ?_; clear hc h
        rintro _ w ⟨rfl, h⟩; refine ⟨_, rfl, ?_⟩
        clear hr a; intro a hr
        refine op_val ((wg hr rfl rfl rfl (b' := (r10 == r2)) (by kernel_rfl)).trans (by rw [show (r10 == r2) = true from (beq_iff_eq.mpr c102)]; rfl)) rfl rfl hr (v := .int .i64 p1) (by kernel_rfl) ?_; clear hr a; intro a hr
        replace H := bd1 H; obtain ⟨r105, e106, H⟩ := H
        have hc := plunderref8_Cells_ok (H := e106) (h := h)
        refine op_call ((wg hr rfl rfl rfl (b' := (r10 == r2)) (by kernel_rfl)).trans (by rw [show (r10 == r2) = true from (beq_iff_eq.mpr c102)]; rfl)) rfl rfl hr (f := 16) (args := #[.int .i64 p1]) (by kernel_rfl) hc ?_; clear hc h
        rintro _ w ⟨rfl, h⟩; refine ⟨_, rfl, ?_⟩
        clear hr a; intro a hr
        refine op_val ((wg hr rfl rfl rfl (b' := (r10 == r2)) (by kernel_rfl)).trans (by rw [show (r10 == r2) = true from (beq_iff_eq.mpr c102)]; rfl)) rfl rfl hr (v := .bool (r103 == r105)) (by kernel_rfl) ?_; clear hr a; intro a hr
        refine op_val (wn rfl) rfl rfl hr (v := .bool (r103 == r105)) (rp_t (b := (r10 == r2)) rfl (by kernel_rfl) (beq_iff_eq.mpr c102) (by kernel_rfl)) ?_; clear hr a; intro a hr
        refine ov hr (.bool (r103 == r105)) (by kernel_rfl) ?_; clear hr a; intro a hr
        refine wpList_nil ?_
        refine then_normal ?_
        refine wp_ret ?_
        refine then_ret ?_
        refine end_ret1 (v := .bool (r103 == r105)) rfl hr (by kernel_rfl) ?_
        replace h : Fit z (sepL (L)) _ := h.sel 3 [] (by kernel_rfl) (by kernel_rfl)
        replace H := ej1 H; subst H
        exact ⟨rfl, h⟩
      ·
        replace H := ifF c102 H
        refine op_off ((wg hr rfl rfl rfl (b' := (r10 == r2)) (by kernel_rfl)).trans (by rw [show (r10 == r2) = false from (beq_eq_false_iff_ne.mpr c102)]; rfl)) rfl rfl hr ?_; clear hr a; intro a hr
        refine op_off ((wg hr rfl rfl rfl (b' := (r10 == r2)) (by kernel_rfl)).trans (by rw [show (r10 == r2) = false from (beq_eq_false_iff_ne.mpr c102)]; rfl)) rfl rfl hr ?_; clear hr a; intro a hr
        refine op_off ((wg hr rfl rfl rfl (b' := (r10 == r2)) (by kernel_rfl)).trans (by rw [show (r10 == r2) = false from (beq_eq_false_iff_ne.mpr c102)]; rfl)) rfl rfl hr ?_; clear hr a; intro a hr
        refine op_off ((wg hr rfl rfl rfl (b' := (r10 == r2)) (by kernel_rfl)).trans (by rw [show (r10 == r2) = false from (beq_eq_false_iff_ne.mpr c102)]; rfl)) rfl rfl hr ?_; clear hr a; intro a hr
        refine op_off ((wg hr rfl rfl rfl (b' := (r10 == r2)) (by kernel_rfl)).trans (by rw [show (r10 == r2) = false from (beq_eq_false_iff_ne.mpr c102)]; rfl)) rfl rfl hr ?_; clear hr a; intro a hr
        refine op_val (wn rfl) rfl rfl hr (v := .bool false) (rp_f (b := (r10 == r2)) rfl (by kernel_rfl) (beq_eq_false_iff_ne.mpr c102) (by kernel_rfl)) ?_; clear hr a; intro a hr
        refine ov hr (.bool false) (by kernel_rfl) ?_; clear hr a; intro a hr
        refine wpList_nil ?_
        refine then_normal ?_
        refine wp_ret ?_
        refine then_ret ?_
        refine end_ret1 (v := .bool false) rfl hr (by kernel_rfl) ?_
        replace h : Fit z (sepL (L)) _ := h.sel 3 [] (by kernel_rfl) (by kernel_rfl)
        replace H := ej1 H; subst H
        exact ⟨rfl, h⟩


end Go.Proofs.Ytnghahgfcaolbaa.Mo
