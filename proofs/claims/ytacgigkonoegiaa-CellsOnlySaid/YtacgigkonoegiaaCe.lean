/- The arena: what each call of it comes to. -/
import Derived.Test.YtacgigkonoegiaaAr
import Derived.Test.YtacgigkonoegiaaWin
namespace Go.Proofs.Ytacgigkonoegiaa.Wk
open Go Go.RowKit Go.Proofs.Ytacgigkonoegiaa.SL Go.Proofs.Ytacgigkonoegiaa.GX Go.Proofs.Ytacgigkonoegiaa.Ar
set_option linter.unusedVariables false
set_option linter.unusedSimpArgs false

set_option maxRecDepth 100000 in
set_option maxHeartbeats 4000000 in
/-- (*plunder/cells.ledger).has -/
theorem has_spec {z w : World} {L : List HProp} {B : Nat} {T : TypeId} {sz mk : Int} {c2 c3 c4 c5 : Value} {ad : Int}  (h : Fit z (sepL (pts B (.cells #[.int .i64 sz, .int .i64 mk, c2, c3, c4, c5] T) :: L)) w) :
    Calls Try.prog 100 #[.pointer (some ⟨B, 0, none⟩), .int .i64 ad] w fun e w => e = .returned (.bool (inbB mk ad)) ∧ Fit z (sepL (pts B (.cells #[.int .i64 sz, .int .i64 mk, c2, c3, c4, c5] T) :: L)) w := by
  refine enter Try.func100 rfl 15 rfl rfl [(0, .pointer (some ⟨B, 0, none⟩)), (1, .int .i64 ad)] ⟨by kernel_rfl, by kernel_rfl, trivial⟩ ?_
  intro j a hr
  refine wp_seq ?_
  refine wp_region_lit ?_
  refine op_val (wn rfl) rfl rfl hr (v := .bool false) (by kernel_rfl) ?_; clear hr a; intro a hr
  refine wpList_nil ?_
  refine then_normal ?_
  refine wp_seq ?_
  refine wp_region_lit ?_
  refine op_val (wn rfl) rfl rfl hr (v := .int .i64 ad) (by kernel_rfl) ?_; clear hr a; intro a hr
  refine op_val (wn rfl) rfl rfl hr (v := .bool (decide (ad ≥ 0))) (by kernel_rfl) ?_; clear hr a; intro a hr
  refine op_val (wn rfl) rfl rfl hr (v := .bool (decide (ad ≥ 0))) (by kernel_rfl) ?_; clear hr a; intro a hr
  by_cases c1 : ad ≥ 0
  ·
    refine op_val ((wg hr rfl rfl rfl (b' := (decide (ad ≥ 0))) (by kernel_rfl)).trans (by rw [(decide_eq_true c1)]; rfl)) rfl rfl hr (v := .int .i64 ad) (by kernel_rfl) ?_; clear hr a; intro a hr
    refine op_val ((wg hr rfl rfl rfl (b' := (decide (ad ≥ 0))) (by kernel_rfl)).trans (by rw [(decide_eq_true c1)]; rfl)) rfl rfl hr (v := .pointer (some ⟨B, 0, none⟩)) (by kernel_rfl) ?_; clear hr a; intro a hr
    refine op_val ((wg hr rfl rfl rfl (b' := (decide (ad ≥ 0))) (by kernel_rfl)).trans (by rw [(decide_eq_true c1)]; rfl)) rfl rfl hr (v := .pointer (some ⟨B, 0, none⟩)) (by kernel_rfl) ?_; clear hr a; intro a hr
    refine op_val ((wg hr rfl rfl rfl (b' := (decide (ad ≥ 0))) (by kernel_rfl)).trans (by rw [(decide_eq_true c1)]; rfl)) rfl rfl hr (v := .pointer (some ⟨B, 1, none⟩)) (by kernel_rfl) ?_; clear hr a; intro a hr
    refine op_val ((wg hr rfl rfl rfl (b' := (decide (ad ≥ 0))) (by kernel_rfl)).trans (by rw [(decide_eq_true c1)]; rfl)) rfl rfl hr (v := .int .i64 mk) (rl rfl (by kernel_rfl) (by kernel_rfl) (h.cell 1 rfl)) ?_; clear hr a; intro a hr
    refine op_val ((wg hr rfl rfl rfl (b' := (decide (ad ≥ 0))) (by kernel_rfl)).trans (by rw [(decide_eq_true c1)]; rfl)) rfl rfl hr (v := .bool (decide (ad < mk))) (by kernel_rfl) ?_; clear hr a; intro a hr
    refine op_val (wn rfl) rfl rfl hr (v := .bool (decide (ad < mk))) (rp_t (b := (decide (ad ≥ 0))) rfl (by kernel_rfl) (decide_eq_true c1) (by kernel_rfl)) ?_; clear hr a; intro a hr
    refine op_val (wn rfl) rfl rfl hr (v := .bool (decide (ad < mk))) (by kernel_rfl) ?_; clear hr a; intro a hr
    refine wpList_nil ?_
    refine then_normal ?_
    refine wp_ret ?_
    refine end_ret1 (v := .bool (decide (ad < mk))) rfl hr (by kernel_rfl) ?_
    exact ⟨by unfold inbB; first | rfl | (simp_all; done) | (simp_all; omega), h⟩
  ·
    refine op_off ((wg hr rfl rfl rfl (b' := (decide (ad ≥ 0))) (by kernel_rfl)).trans (by rw [(decide_eq_false c1)]; rfl)) rfl rfl hr ?_
    clear hr a; intro a hr
    refine op_off ((wg hr rfl rfl rfl (b' := (decide (ad ≥ 0))) (by kernel_rfl)).trans (by rw [(decide_eq_false c1)]; rfl)) rfl rfl hr ?_
    clear hr a; intro a hr
    refine op_off ((wg hr rfl rfl rfl (b' := (decide (ad ≥ 0))) (by kernel_rfl)).trans (by rw [(decide_eq_false c1)]; rfl)) rfl rfl hr ?_
    clear hr a; intro a hr
    refine op_off ((wg hr rfl rfl rfl (b' := (decide (ad ≥ 0))) (by kernel_rfl)).trans (by rw [(decide_eq_false c1)]; rfl)) rfl rfl hr ?_
    clear hr a; intro a hr
    refine op_off ((wg hr rfl rfl rfl (b' := (decide (ad ≥ 0))) (by kernel_rfl)).trans (by rw [(decide_eq_false c1)]; rfl)) rfl rfl hr ?_
    clear hr a; intro a hr
    refine op_off ((wg hr rfl rfl rfl (b' := (decide (ad ≥ 0))) (by kernel_rfl)).trans (by rw [(decide_eq_false c1)]; rfl)) rfl rfl hr ?_
    clear hr a; intro a hr
    refine op_val (wn rfl) rfl rfl hr (v := .bool false) (rp_f (b := (decide (ad ≥ 0))) rfl (by kernel_rfl) (decide_eq_false c1) (by kernel_rfl)) ?_; clear hr a; intro a hr
    refine op_val (wn rfl) rfl rfl hr (v := .bool false) (by kernel_rfl) ?_; clear hr a; intro a hr
    refine wpList_nil ?_
    refine then_normal ?_
    refine wp_ret ?_
    refine end_ret1 (v := .bool false) rfl hr (by kernel_rfl) ?_
    exact ⟨by unfold inbB; first | rfl | (simp_all; done) | (simp_all; omega), h⟩

set_option maxRecDepth 100000 in
set_option maxHeartbeats 4000000 in
/-- (*plunder/cells.ledger).refuse -/
theorem refuse_count {z w : World} {L : List HProp} {p : Option Addr} {n : Int} (hn : n < 1) (h : Fit z (sepL (L)) w) :
    Calls Try.prog 62 #[.pointer p, .int .i64 n] w fun e w => e = .returned (.int .i64 21) ∧ Fit z (sepL (L)) w := by
  refine enter Try.func62 rfl 22 rfl rfl [(0, .pointer p), (1, .int .i64 n)] ⟨by kernel_rfl, by kernel_rfl, trivial⟩ ?_
  intro j a hr
  refine wp_seq ?_
  refine wp_region_lit ?_
  refine op_val (wn rfl) rfl rfl hr (v := .int .i64 0) (by kernel_rfl) ?_; clear hr a; intro a hr
  refine wpList_nil ?_
  refine then_normal ?_
  refine wp_seq ?_
  refine wp_seq ?_
  refine wp_region_lit ?_
  refine op_val (wn rfl) rfl rfl hr (v := .int .i64 n) (by kernel_rfl) ?_; clear hr a; intro a hr
  refine op_val (wn rfl) rfl rfl hr (v := .bool (decide (n < 1))) (by kernel_rfl) ?_; clear hr a; intro a hr
  refine wpList_nil ?_
  refine then_normal ?_
  refine cond_t hr (b := (decide (n < 1))) (by kernel_rfl) (decide_eq_true hn) ?_
  refine wp_seq ?_
  refine wp_region_lit ?_
  refine op_val (wn rfl) rfl rfl hr (v := .int .i64 21) (by kernel_rfl) ?_; clear hr a; intro a hr
  refine wpList_nil ?_
  refine then_normal ?_
  refine wp_ret ?_
  refine then_ret ?_
  refine end_ret1 (v := .int .i64 21) rfl hr (by kernel_rfl) ?_
  exact ⟨rfl, h⟩

set_option maxRecDepth 100000 in
set_option maxHeartbeats 4000000 in
/-- (*plunder/cells.ledger).refuse -/
theorem refuse_nil {z w : World} {L : List HProp} {n : Int} (hn : ¬ n < 1) (h : Fit z (sepL (L)) w) :
    Calls Try.prog 62 #[.pointer none, .int .i64 n] w fun e w => e = .returned (.int .i64 22) ∧ Fit z (sepL (L)) w := by
  refine enter Try.func62 rfl 22 rfl rfl [(0, .pointer none), (1, .int .i64 n)] ⟨by kernel_rfl, by kernel_rfl, trivial⟩ ?_
  intro j a hr
  refine wp_seq ?_
  refine wp_region_lit ?_
  refine op_val (wn rfl) rfl rfl hr (v := .int .i64 0) (by kernel_rfl) ?_; clear hr a; intro a hr
  refine wpList_nil ?_
  refine then_normal ?_
  refine wp_seq ?_
  refine wp_seq ?_
  refine wp_region_lit ?_
  refine op_val (wn rfl) rfl rfl hr (v := .int .i64 n) (by kernel_rfl) ?_; clear hr a; intro a hr
  refine op_val (wn rfl) rfl rfl hr (v := .bool (decide (n < 1))) (by kernel_rfl) ?_; clear hr a; intro a hr
  refine wpList_nil ?_
  refine then_normal ?_
  refine cond_f hr (b := (decide (n < 1))) (by kernel_rfl) (decide_eq_false hn) ?_
  refine wp_skip ?_
  refine then_normal ?_
  refine wp_seq ?_
  refine wp_seq ?_
  refine reg_quiet h (by kernel_rfl) (by kernel_rfl) ?_
  refine qt_val (wn rfl) rfl rfl hr (v := .pointer none) (fun w h => by kernel_rfl) ?_; clear hr a; intro a hr
  refine qt_val (wn rfl) rfl rfl hr (v := .bool true) (fun w h => by kernel_rfl) ?_; clear hr a; intro a hr
  refine qt_val (wn rfl) rfl rfl hr (v := .bool true) (fun w h => by kernel_rfl) ?_; clear hr a; intro a hr
  refine qt_off ((wg hr rfl rfl rfl (b' := true) (by kernel_rfl)).trans rfl) rfl rfl hr ?_
  clear hr a; intro a hr
  refine qt_off ((wg hr rfl rfl rfl (b' := true) (by kernel_rfl)).trans rfl) rfl rfl hr ?_
  clear hr a; intro a hr
  refine qt_off ((wg hr rfl rfl rfl (b' := true) (by kernel_rfl)).trans rfl) rfl rfl hr ?_
  clear hr a; intro a hr
  refine qt_off ((wg hr rfl rfl rfl (b' := true) (by kernel_rfl)).trans rfl) rfl rfl hr ?_
  clear hr a; intro a hr
  refine qt_off ((wg hr rfl rfl rfl (b' := true) (by kernel_rfl)).trans rfl) rfl rfl hr ?_
  clear hr a; intro a hr
  refine qt_off ((wg hr rfl rfl rfl (b' := true) (by kernel_rfl)).trans rfl) rfl rfl hr ?_
  clear hr a; intro a hr
  refine qt_off ((wg hr rfl rfl rfl (b' := true) (by kernel_rfl)).trans rfl) rfl rfl hr ?_
  clear hr a; intro a hr
  refine qt_off ((wg hr rfl rfl rfl (b' := true) (by kernel_rfl)).trans rfl) rfl rfl hr ?_
  clear hr a; intro a hr
  refine qt_off ((wg hr rfl rfl rfl (b' := true) (by kernel_rfl)).trans rfl) rfl rfl hr ?_
  clear hr a; intro a hr
  refine qt_off ((wg hr rfl rfl rfl (b' := true) (by kernel_rfl)).trans rfl) rfl rfl hr ?_
  clear hr a; intro a hr
  refine qt_off ((wg hr rfl rfl rfl (b' := true) (by kernel_rfl)).trans rfl) rfl rfl hr ?_
  clear hr a; intro a hr
  refine qt_val (wn rfl) rfl rfl hr (v := .bool true) (fun w h => by kernel_rfl) ?_; clear hr a; intro a hr
  refine wpQuiet_nil ?_
  intro w h
  refine then_normal ?_
  refine cond_t hr (b := true) (by kernel_rfl) rfl ?_
  refine wp_seq ?_
  refine wp_region_lit ?_
  refine op_val (wn rfl) rfl rfl hr (v := .int .i64 22) (by kernel_rfl) ?_; clear hr a; intro a hr
  refine wpList_nil ?_
  refine then_normal ?_
  refine wp_ret ?_
  refine then_ret ?_
  refine end_ret1 (v := .int .i64 22) rfl hr (by kernel_rfl) ?_
  exact ⟨rfl, h⟩

set_option maxRecDepth 100000 in
set_option maxHeartbeats 4000000 in
/-- (*plunder/cells.ledger).refuse -/
theorem refuse_room {z w : World} {L : List HProp} {B : Nat} {T : TypeId} {sz mk : Int} {c2 c3 c4 c5 : Value} {n : Int} (h0 : 0 ≤ mk) (h1 : mk ≤ sz) (h2 : sz ≤ 1048576) (hn : ¬ n < 1) (hr0 : n > sz - mk) (h : Fit z (sepL (pts B (.cells #[.int .i64 sz, .int .i64 mk, c2, c3, c4, c5] T) :: L)) w) :
    Calls Try.prog 62 #[.pointer (some ⟨B, 0, none⟩), .int .i64 n] w fun e w => e = .returned (.int .i64 22) ∧ Fit z (sepL (pts B (.cells #[.int .i64 sz, .int .i64 mk, c2, c3, c4, c5] T) :: L)) w := by
  refine enter Try.func62 rfl 22 rfl rfl [(0, .pointer (some ⟨B, 0, none⟩)), (1, .int .i64 n)] ⟨by kernel_rfl, by kernel_rfl, trivial⟩ ?_
  intro j a hr
  refine wp_seq ?_
  refine wp_region_lit ?_
  refine op_val (wn rfl) rfl rfl hr (v := .int .i64 0) (by kernel_rfl) ?_; clear hr a; intro a hr
  refine wpList_nil ?_
  refine then_normal ?_
  refine wp_seq ?_
  refine wp_seq ?_
  refine wp_region_lit ?_
  refine op_val (wn rfl) rfl rfl hr (v := .int .i64 n) (by kernel_rfl) ?_; clear hr a; intro a hr
  refine op_val (wn rfl) rfl rfl hr (v := .bool (decide (n < 1))) (by kernel_rfl) ?_; clear hr a; intro a hr
  refine wpList_nil ?_
  refine then_normal ?_
  refine cond_f hr (b := (decide (n < 1))) (by kernel_rfl) (decide_eq_false hn) ?_
  refine wp_skip ?_
  refine then_normal ?_
  refine wp_seq ?_
  refine wp_seq ?_
  refine reg_quiet h (by kernel_rfl) (by kernel_rfl) ?_
  refine qt_val (wn rfl) rfl rfl hr (v := .pointer (some ⟨B, 0, none⟩)) (fun w h => by kernel_rfl) ?_; clear hr a; intro a hr
  refine qt_val (wn rfl) rfl rfl hr (v := .bool false) (fun w h => by kernel_rfl) ?_; clear hr a; intro a hr
  refine qt_val (wn rfl) rfl rfl hr (v := .bool false) (fun w h => by kernel_rfl) ?_; clear hr a; intro a hr
  refine qt_val ((wg hr rfl rfl rfl (b' := false) (by kernel_rfl)).trans rfl) rfl rfl hr (v := .int .i64 n) (fun w h => by kernel_rfl) ?_; clear hr a; intro a hr
  refine qt_val ((wg hr rfl rfl rfl (b' := false) (by kernel_rfl)).trans rfl) rfl rfl hr (v := .pointer (some ⟨B, 0, none⟩)) (fun w h => by kernel_rfl) ?_; clear hr a; intro a hr
  refine qt_val ((wg hr rfl rfl rfl (b' := false) (by kernel_rfl)).trans rfl) rfl rfl hr (v := .pointer (some ⟨B, 0, none⟩)) (fun w h => by kernel_rfl) ?_; clear hr a; intro a hr
  refine qt_val ((wg hr rfl rfl rfl (b' := false) (by kernel_rfl)).trans rfl) rfl rfl hr (v := .pointer (some ⟨B, 0, none⟩)) (fun w h => by kernel_rfl) ?_; clear hr a; intro a hr
  refine qt_val ((wg hr rfl rfl rfl (b' := false) (by kernel_rfl)).trans rfl) rfl rfl hr (v := .int .i64 sz) (fun w h => rl rfl (by kernel_rfl) (by kernel_rfl) (h.cell 0 rfl)) ?_; clear hr a; intro a hr
  refine qt_val ((wg hr rfl rfl rfl (b' := false) (by kernel_rfl)).trans rfl) rfl rfl hr (v := .pointer (some ⟨B, 0, none⟩)) (fun w h => by kernel_rfl) ?_; clear hr a; intro a hr
  refine qt_val ((wg hr rfl rfl rfl (b' := false) (by kernel_rfl)).trans rfl) rfl rfl hr (v := .pointer (some ⟨B, 0, none⟩)) (fun w h => by kernel_rfl) ?_; clear hr a; intro a hr
  refine qt_val ((wg hr rfl rfl rfl (b' := false) (by kernel_rfl)).trans rfl) rfl rfl hr (v := .pointer (some ⟨B, 1, none⟩)) (fun w h => by kernel_rfl) ?_; clear hr a; intro a hr
  refine qt_val ((wg hr rfl rfl rfl (b' := false) (by kernel_rfl)).trans rfl) rfl rfl hr (v := .int .i64 mk) (fun w h => rl rfl (by kernel_rfl) (by kernel_rfl) (h.cell 1 rfl)) ?_; clear hr a; intro a hr
  refine qt_val ((wg hr rfl rfl rfl (b' := false) (by kernel_rfl)).trans rfl) rfl rfl hr (v := .int .i64 (sz - mk)) (fun w h => ra (m := IntKind.i64.wrap (sz - mk)) (by kernel_rfl) ((i64_in _ (by omega)).trans (by omega))) ?_; clear hr a; intro a hr
  refine qt_val ((wg hr rfl rfl rfl (b' := false) (by kernel_rfl)).trans rfl) rfl rfl hr (v := .bool (decide (n > (sz - mk)))) (fun w h => by kernel_rfl) ?_; clear hr a; intro a hr
  refine qt_val (wn rfl) rfl rfl hr (v := .bool (decide (n > (sz - mk)))) (fun w h => by kernel_rfl) ?_; clear hr a; intro a hr
  refine wpQuiet_nil ?_
  intro w h
  refine then_normal ?_
  refine cond_t hr (b := (decide (n > (sz - mk)))) (by kernel_rfl) (decide_eq_true hr0) ?_
  refine wp_seq ?_
  refine wp_region_lit ?_
  refine op_val (wn rfl) rfl rfl hr (v := .int .i64 22) (by kernel_rfl) ?_; clear hr a; intro a hr
  refine wpList_nil ?_
  refine then_normal ?_
  refine wp_ret ?_
  refine then_ret ?_
  refine end_ret1 (v := .int .i64 22) rfl hr (by kernel_rfl) ?_
  exact ⟨rfl, h⟩

set_option maxRecDepth 100000 in
set_option maxHeartbeats 4000000 in
/-- (*plunder/cells.ledger).refuse -/
theorem refuse_ok {z w : World} {L : List HProp} {B : Nat} {T : TypeId} {sz mk : Int} {c2 c3 c4 c5 : Value} {n : Int} (h0 : 0 ≤ mk) (h1 : mk ≤ sz) (h2 : sz ≤ 1048576) (hn : ¬ n < 1) (hr0 : ¬ n > sz - mk) (h : Fit z (sepL (pts B (.cells #[.int .i64 sz, .int .i64 mk, c2, c3, c4, c5] T) :: L)) w) :
    Calls Try.prog 62 #[.pointer (some ⟨B, 0, none⟩), .int .i64 n] w fun e w => e = .returned (.int .i64 0) ∧ Fit z (sepL (pts B (.cells #[.int .i64 sz, .int .i64 mk, c2, c3, c4, c5] T) :: L)) w := by
  refine enter Try.func62 rfl 22 rfl rfl [(0, .pointer (some ⟨B, 0, none⟩)), (1, .int .i64 n)] ⟨by kernel_rfl, by kernel_rfl, trivial⟩ ?_
  intro j a hr
  refine wp_seq ?_
  refine wp_region_lit ?_
  refine op_val (wn rfl) rfl rfl hr (v := .int .i64 0) (by kernel_rfl) ?_; clear hr a; intro a hr
  refine wpList_nil ?_
  refine then_normal ?_
  refine wp_seq ?_
  refine wp_seq ?_
  refine wp_region_lit ?_
  refine op_val (wn rfl) rfl rfl hr (v := .int .i64 n) (by kernel_rfl) ?_; clear hr a; intro a hr
  refine op_val (wn rfl) rfl rfl hr (v := .bool (decide (n < 1))) (by kernel_rfl) ?_; clear hr a; intro a hr
  refine wpList_nil ?_
  refine then_normal ?_
  refine cond_f hr (b := (decide (n < 1))) (by kernel_rfl) (decide_eq_false hn) ?_
  refine wp_skip ?_
  refine then_normal ?_
  refine wp_seq ?_
  refine wp_seq ?_
  refine reg_quiet h (by kernel_rfl) (by kernel_rfl) ?_
  refine qt_val (wn rfl) rfl rfl hr (v := .pointer (some ⟨B, 0, none⟩)) (fun w h => by kernel_rfl) ?_; clear hr a; intro a hr
  refine qt_val (wn rfl) rfl rfl hr (v := .bool false) (fun w h => by kernel_rfl) ?_; clear hr a; intro a hr
  refine qt_val (wn rfl) rfl rfl hr (v := .bool false) (fun w h => by kernel_rfl) ?_; clear hr a; intro a hr
  refine qt_val ((wg hr rfl rfl rfl (b' := false) (by kernel_rfl)).trans rfl) rfl rfl hr (v := .int .i64 n) (fun w h => by kernel_rfl) ?_; clear hr a; intro a hr
  refine qt_val ((wg hr rfl rfl rfl (b' := false) (by kernel_rfl)).trans rfl) rfl rfl hr (v := .pointer (some ⟨B, 0, none⟩)) (fun w h => by kernel_rfl) ?_; clear hr a; intro a hr
  refine qt_val ((wg hr rfl rfl rfl (b' := false) (by kernel_rfl)).trans rfl) rfl rfl hr (v := .pointer (some ⟨B, 0, none⟩)) (fun w h => by kernel_rfl) ?_; clear hr a; intro a hr
  refine qt_val ((wg hr rfl rfl rfl (b' := false) (by kernel_rfl)).trans rfl) rfl rfl hr (v := .pointer (some ⟨B, 0, none⟩)) (fun w h => by kernel_rfl) ?_; clear hr a; intro a hr
  refine qt_val ((wg hr rfl rfl rfl (b' := false) (by kernel_rfl)).trans rfl) rfl rfl hr (v := .int .i64 sz) (fun w h => rl rfl (by kernel_rfl) (by kernel_rfl) (h.cell 0 rfl)) ?_; clear hr a; intro a hr
  refine qt_val ((wg hr rfl rfl rfl (b' := false) (by kernel_rfl)).trans rfl) rfl rfl hr (v := .pointer (some ⟨B, 0, none⟩)) (fun w h => by kernel_rfl) ?_; clear hr a; intro a hr
  refine qt_val ((wg hr rfl rfl rfl (b' := false) (by kernel_rfl)).trans rfl) rfl rfl hr (v := .pointer (some ⟨B, 0, none⟩)) (fun w h => by kernel_rfl) ?_; clear hr a; intro a hr
  refine qt_val ((wg hr rfl rfl rfl (b' := false) (by kernel_rfl)).trans rfl) rfl rfl hr (v := .pointer (some ⟨B, 1, none⟩)) (fun w h => by kernel_rfl) ?_; clear hr a; intro a hr
  refine qt_val ((wg hr rfl rfl rfl (b' := false) (by kernel_rfl)).trans rfl) rfl rfl hr (v := .int .i64 mk) (fun w h => rl rfl (by kernel_rfl) (by kernel_rfl) (h.cell 1 rfl)) ?_; clear hr a; intro a hr
  refine qt_val ((wg hr rfl rfl rfl (b' := false) (by kernel_rfl)).trans rfl) rfl rfl hr (v := .int .i64 (sz - mk)) (fun w h => ra (m := IntKind.i64.wrap (sz - mk)) (by kernel_rfl) ((i64_in _ (by omega)).trans (by omega))) ?_; clear hr a; intro a hr
  refine qt_val ((wg hr rfl rfl rfl (b' := false) (by kernel_rfl)).trans rfl) rfl rfl hr (v := .bool (decide (n > (sz - mk)))) (fun w h => by kernel_rfl) ?_; clear hr a; intro a hr
  refine qt_val (wn rfl) rfl rfl hr (v := .bool (decide (n > (sz - mk)))) (fun w h => by kernel_rfl) ?_; clear hr a; intro a hr
  refine wpQuiet_nil ?_
  intro w h
  refine then_normal ?_
  refine cond_f hr (b := (decide (n > (sz - mk)))) (by kernel_rfl) (decide_eq_false hr0) ?_
  refine wp_skip ?_
  refine then_normal ?_
  refine wp_seq ?_
  refine wp_region_lit ?_
  refine op_val (wn rfl) rfl rfl hr (v := .int .i64 0) (by kernel_rfl) ?_; clear hr a; intro a hr
  refine wpList_nil ?_
  refine then_normal ?_
  refine wp_ret ?_
  refine end_ret1 (v := .int .i64 0) rfl hr (by kernel_rfl) ?_
  exact ⟨rfl, h⟩

set_option maxRecDepth 100000 in
set_option maxHeartbeats 4000000 in
/-- (*plunder/cells.ledger).take -/
theorem take_spec {z w : World} {L : List HProp} {B : Nat} {T : TypeId} {sz mk : Int} {c2 c3 c4 c5 : Value} {n : Int} (h0 : 0 ≤ mk) (h1 : mk ≤ 1048576) (h2 : 0 ≤ n) (h3 : n ≤ 1048576) (h : Fit z (sepL (pts B (.cells #[.int .i64 sz, .int .i64 mk, c2, c3, c4, c5] T) :: L)) w) :
    Calls Try.prog 63 #[.pointer (some ⟨B, 0, none⟩), .int .i64 n] w fun e w => e = .returned (.int .i64 mk) ∧ Fit z (sepL (pts B (.cells #[.int .i64 sz, .int .i64 (mk + n), c2, c3, c4, c5] T) :: L)) w := by
  refine enter Try.func63 rfl 19 rfl rfl [(0, .pointer (some ⟨B, 0, none⟩)), (1, .int .i64 n)] ⟨by kernel_rfl, by kernel_rfl, trivial⟩ ?_
  intro j a hr
  refine wp_seq ?_
  refine wp_region_lit ?_
  refine op_val (wn rfl) rfl rfl hr (v := .int .i64 0) (by kernel_rfl) ?_; clear hr a; intro a hr
  refine wpList_nil ?_
  refine then_normal ?_
  refine wp_seq ?_
  refine wp_region_lit ?_
  refine op_val (wn rfl) rfl rfl hr (v := .pointer (some ⟨B, 0, none⟩)) (by kernel_rfl) ?_; clear hr a; intro a hr
  refine op_val (wn rfl) rfl rfl hr (v := .pointer (some ⟨B, 0, none⟩)) (by kernel_rfl) ?_; clear hr a; intro a hr
  refine op_val (wn rfl) rfl rfl hr (v := .pointer (some ⟨B, 1, none⟩)) (by kernel_rfl) ?_; clear hr a; intro a hr
  refine op_val (wn rfl) rfl rfl hr (v := .int .i64 mk) (rl rfl (by kernel_rfl) (by kernel_rfl) (h.cell 1 rfl)) ?_; clear hr a; intro a hr
  refine op_val (wn rfl) rfl rfl hr (v := .int .i64 mk) (by kernel_rfl) ?_; clear hr a; intro a hr
  refine wpList_nil ?_
  refine then_normal ?_
  refine wp_seq ?_
  refine wp_region_lit ?_
  refine op_val (wn rfl) rfl rfl hr (v := .pointer (some ⟨B, 0, none⟩)) (by kernel_rfl) ?_; clear hr a; intro a hr
  refine op_val (wn rfl) rfl rfl hr (v := .pointer (some ⟨B, 0, none⟩)) (by kernel_rfl) ?_; clear hr a; intro a hr
  refine op_val (wn rfl) rfl rfl hr (v := .pointer (some ⟨B, 1, none⟩)) (by kernel_rfl) ?_; clear hr a; intro a hr
  refine op_val (wn rfl) rfl rfl hr (v := .int .i64 mk) (rl rfl (by kernel_rfl) (by kernel_rfl) (h.cell 1 rfl)) ?_; clear hr a; intro a hr
  refine op_val (wn rfl) rfl rfl hr (v := .int .i64 n) (by kernel_rfl) ?_; clear hr a; intro a hr
  refine op_val (wn rfl) rfl rfl hr (v := .int .i64 (mk + n)) (ra (m := IntKind.i64.wrap (mk + n)) (by kernel_rfl) ((i64_in _ (by omega)).trans (by omega))) ?_; clear hr a; intro a hr
  refine op_val (wn rfl) rfl rfl hr (v := .pointer (some ⟨B, 0, none⟩)) (by kernel_rfl) ?_; clear hr a; intro a hr
  refine op_val (wn rfl) rfl rfl hr (v := .pointer (some ⟨B, 1, none⟩)) (by kernel_rfl) ?_; clear hr a; intro a hr
  refine op_store (wn rfl) rfl hr rfl (by kernel_rfl) (by kernel_rfl) (v := .int .i64 (mk + n)) rfl rfl (by kernel_rfl) h (i := 1) rfl ?_; clear h; intro w h
  have h : Fit z (sepL (pts B (.cells #[.int .i64 sz, .int .i64 (mk + n), c2, c3, c4, c5] T) :: L)) _ := h
  refine wpList_nil ?_
  refine then_normal ?_
  refine wp_seq ?_
  refine wp_region_lit ?_
  refine op_val (wn rfl) rfl rfl hr (v := .int .i64 mk) (by kernel_rfl) ?_; clear hr a; intro a hr
  refine op_val (wn rfl) rfl rfl hr (v := .int .i64 mk) (by kernel_rfl) ?_; clear hr a; intro a hr
  refine wpList_nil ?_
  refine then_normal ?_
  refine wp_ret ?_
  refine end_ret1 (v := .int .i64 mk) rfl hr (by kernel_rfl) ?_
  exact ⟨rfl, h⟩

set_option maxRecDepth 100000 in
set_option maxHeartbeats 4000000 in
/-- (*plunder/cells.ledger).Size -/
theorem lsize_spec {z w : World} {L : List HProp} {B : Nat} {T : TypeId} {sz mk : Int} {c2 c3 c4 c5 : Value}   (h : Fit z (sepL (pts B (.cells #[.int .i64 sz, .int .i64 mk, c2, c3, c4, c5] T) :: L)) w) :
    Calls Try.prog 81 #[.pointer (some ⟨B, 0, none⟩)] w fun e w => e = .returned (.int .i64 sz) ∧ Fit z (sepL (pts B (.cells #[.int .i64 sz, .int .i64 mk, c2, c3, c4, c5] T) :: L)) w := by
  refine enter Try.func81 rfl 9 rfl rfl [(0, .pointer (some ⟨B, 0, none⟩))] ⟨by kernel_rfl, trivial⟩ ?_
  intro j a hr
  refine wp_seq ?_
  refine wp_region_lit ?_
  refine op_val (wn rfl) rfl rfl hr (v := .int .i64 0) (by kernel_rfl) ?_; clear hr a; intro a hr
  refine wpList_nil ?_
  refine then_normal ?_
  refine wp_seq ?_
  refine wp_seq ?_
  refine wp_region_lit ?_
  refine op_val (wn rfl) rfl rfl hr (v := .pointer (some ⟨B, 0, none⟩)) (by kernel_rfl) ?_; clear hr a; intro a hr
  refine op_val (wn rfl) rfl rfl hr (v := .bool false) (by kernel_rfl) ?_; clear hr a; intro a hr
  refine wpList_nil ?_
  refine then_normal ?_
  refine cond_f hr (b := false) (by kernel_rfl) rfl ?_
  refine wp_skip ?_
  refine then_normal ?_
  refine wp_seq ?_
  refine wp_region_lit ?_
  refine op_val (wn rfl) rfl rfl hr (v := .pointer (some ⟨B, 0, none⟩)) (by kernel_rfl) ?_; clear hr a; intro a hr
  refine op_val (wn rfl) rfl rfl hr (v := .pointer (some ⟨B, 0, none⟩)) (by kernel_rfl) ?_; clear hr a; intro a hr
  refine op_val (wn rfl) rfl rfl hr (v := .pointer (some ⟨B, 0, none⟩)) (by kernel_rfl) ?_; clear hr a; intro a hr
  refine op_val (wn rfl) rfl rfl hr (v := .int .i64 sz) (rl rfl (by kernel_rfl) (by kernel_rfl) (h.cell 0 rfl)) ?_; clear hr a; intro a hr
  refine op_val (wn rfl) rfl rfl hr (v := .int .i64 sz) (by kernel_rfl) ?_; clear hr a; intro a hr
  refine wpList_nil ?_
  refine then_normal ?_
  refine wp_ret ?_
  refine end_ret1 (v := .int .i64 sz) rfl hr (by kernel_rfl) ?_
  exact ⟨rfl, h⟩

set_option maxRecDepth 100000 in
set_option maxHeartbeats 4000000 in
/-- (*plunder/cells.ledger).Mark -/
theorem lmark_spec {z w : World} {L : List HProp} {B : Nat} {T : TypeId} {sz mk : Int} {c2 c3 c4 c5 : Value}   (h : Fit z (sepL (pts B (.cells #[.int .i64 sz, .int .i64 mk, c2, c3, c4, c5] T) :: L)) w) :
    Calls Try.prog 84 #[.pointer (some ⟨B, 0, none⟩)] w fun e w => e = .returned (.int .i64 mk) ∧ Fit z (sepL (pts B (.cells #[.int .i64 sz, .int .i64 mk, c2, c3, c4, c5] T) :: L)) w := by
  refine enter Try.func84 rfl 9 rfl rfl [(0, .pointer (some ⟨B, 0, none⟩))] ⟨by kernel_rfl, trivial⟩ ?_
  intro j a hr
  refine wp_seq ?_
  refine wp_region_lit ?_
  refine op_val (wn rfl) rfl rfl hr (v := .int .i64 0) (by kernel_rfl) ?_; clear hr a; intro a hr
  refine wpList_nil ?_
  refine then_normal ?_
  refine wp_seq ?_
  refine wp_seq ?_
  refine wp_region_lit ?_
  refine op_val (wn rfl) rfl rfl hr (v := .pointer (some ⟨B, 0, none⟩)) (by kernel_rfl) ?_; clear hr a; intro a hr
  refine op_val (wn rfl) rfl rfl hr (v := .bool false) (by kernel_rfl) ?_; clear hr a; intro a hr
  refine wpList_nil ?_
  refine then_normal ?_
  refine cond_f hr (b := false) (by kernel_rfl) rfl ?_
  refine wp_skip ?_
  refine then_normal ?_
  refine wp_seq ?_
  refine wp_region_lit ?_
  refine op_val (wn rfl) rfl rfl hr (v := .pointer (some ⟨B, 0, none⟩)) (by kernel_rfl) ?_; clear hr a; intro a hr
  refine op_val (wn rfl) rfl rfl hr (v := .pointer (some ⟨B, 0, none⟩)) (by kernel_rfl) ?_; clear hr a; intro a hr
  refine op_val (wn rfl) rfl rfl hr (v := .pointer (some ⟨B, 1, none⟩)) (by kernel_rfl) ?_; clear hr a; intro a hr
  refine op_val (wn rfl) rfl rfl hr (v := .int .i64 mk) (rl rfl (by kernel_rfl) (by kernel_rfl) (h.cell 1 rfl)) ?_; clear hr a; intro a hr
  refine op_val (wn rfl) rfl rfl hr (v := .int .i64 mk) (by kernel_rfl) ?_; clear hr a; intro a hr
  refine wpList_nil ?_
  refine then_normal ?_
  refine wp_ret ?_
  refine end_ret1 (v := .int .i64 mk) rfl hr (by kernel_rfl) ?_
  exact ⟨rfl, h⟩

set_option maxRecDepth 100000 in
set_option maxHeartbeats 4000000 in
/-- (*plunder/cells.Arena).note -/
theorem note_spec {z w : World} {L : List HProp} {A : Nat} {sz mk ac k i x y : Int} {c2 : Value} {la : Option Addr} {lc : Nat} {on ok : Bool} {lo : List Acc} (hl : lo.length < 1099511627776) (h : Fit z (sepL (pts A (.cells #[.int .i64 sz, .int .i64 mk, c2, .slice la lo.length lc, .int .i64 ac, .bool on] 96) :: rowOf 90 6 encAcc (.slice la lo.length lc) lo :: L)) w) :
    Calls Try.prog 64 #[.pointer (some ⟨A, 0, none⟩), .int .i64 k, .int .i64 i, .int .i64 x, .int .i64 y, .bool ok] w fun e w => ∃ la : Option Addr, ∃ lc : Nat, e = .returned (.tuple #[]) ∧ Fit z (sepL (pts A (.cells #[.int .i64 sz, .int .i64 mk, c2, .slice la ((logn on lo ⟨ac, k, i, x, y, ok⟩).length) lc, .int .i64 ac, .bool on] 96) :: rowOf 90 6 encAcc (.slice la ((logn on lo ⟨ac, k, i, x, y, ok⟩).length) lc) (logn on lo ⟨ac, k, i, x, y, ok⟩) :: L)) w := by
  refine enter Try.func64 rfl 35 rfl rfl [(0, .pointer (some ⟨A, 0, none⟩)), (1, .int .i64 k), (2, .int .i64 i), (3, .int .i64 x), (4, .int .i64 y), (5, .bool ok)] ⟨by kernel_rfl, by kernel_rfl, by kernel_rfl, by kernel_rfl, by kernel_rfl, by kernel_rfl, trivial⟩ ?_
  intro j a hr
  refine wp_seq ?_
  refine wp_region_lit ?_
  refine op_val (wn rfl) rfl rfl hr (v := .pointer (some ⟨A, 0, none⟩)) (by kernel_rfl) ?_; clear hr a; intro a hr
  refine op_val (wn rfl) rfl rfl hr (v := .pointer (some ⟨A, 0, none⟩)) (by kernel_rfl) ?_; clear hr a; intro a hr
  refine op_val (wn rfl) rfl rfl hr (v := .pointer (some ⟨A, 5, none⟩)) (by kernel_rfl) ?_; clear hr a; intro a hr
  refine op_val (wn rfl) rfl rfl hr (v := .bool on) (rl rfl (by kernel_rfl) (by kernel_rfl) (h.cell 5 rfl)) ?_; clear hr a; intro a hr
  refine wpList_nil ?_
  refine then_normal ?_
  rcases Bool.eq_false_or_eq_true on with c1 | c1
  ·
    refine cond_t hr (b := on) (by kernel_rfl) c1 ?_
    refine reg_any h (by kernel_rfl) ?_; intro w h
    change wpAny _ _ _ _ 20 (Array.replicate 20 false) a w
    refine any_val (fuel := 19) (i := 0) rfl paninv_body (by kernel_rfl) (by kernel_rfl) (by kernel_rfl) (wn rfl) rfl rfl hr (v := .pointer (some ⟨A, 0, none⟩)) (fun w => by kernel_rfl) ?_; clear hr a; intro a hr
    refine any_val (fuel := 18) (i := 1) rfl paninv_body (by kernel_rfl) (by kernel_rfl) (by kernel_rfl) (wn rfl) rfl rfl hr (v := .pointer (some ⟨A, 0, none⟩)) (fun w => by kernel_rfl) ?_; clear hr a; intro a hr
    refine any_val (fuel := 17) (i := 2) rfl paninv_body (by kernel_rfl) (by kernel_rfl) (by kernel_rfl) (wn rfl) rfl rfl hr (v := .pointer (some ⟨A, 0, none⟩)) (fun w => by kernel_rfl) ?_; clear hr a; intro a hr
    refine any_val (fuel := 16) (i := 3) rfl paninv_body (by kernel_rfl) (by kernel_rfl) (by kernel_rfl) (wn rfl) rfl rfl hr (v := .pointer (some ⟨A, 3, none⟩)) (fun w => by kernel_rfl) ?_; clear hr a; intro a hr
    refine any_val (fuel := 15) (i := 5) rfl paninv_body (by kernel_rfl) (by kernel_rfl) (by kernel_rfl) (wn rfl) rfl rfl hr (v := .pointer (some ⟨A, 0, none⟩)) (fun w => by kernel_rfl) ?_; clear hr a; intro a hr
    refine any_val (fuel := 14) (i := 6) rfl paninv_body (by kernel_rfl) (by kernel_rfl) (by kernel_rfl) (wn rfl) rfl rfl hr (v := .pointer (some ⟨A, 0, none⟩)) (fun w => by kernel_rfl) ?_; clear hr a; intro a hr
    refine any_val (fuel := 13) (i := 7) rfl paninv_body (by kernel_rfl) (by kernel_rfl) (by kernel_rfl) (wn rfl) rfl rfl hr (v := .pointer (some ⟨A, 4, none⟩)) (fun w => by kernel_rfl) ?_; clear hr a; intro a hr
    refine any_val (fuel := 12) (i := 9) rfl paninv_body (by kernel_rfl) (by kernel_rfl) (by kernel_rfl) (wn rfl) rfl rfl hr (v := .int .i64 k) (fun w => by kernel_rfl) ?_; clear hr a; intro a hr
    refine any_val (fuel := 11) (i := 10) rfl paninv_body (by kernel_rfl) (by kernel_rfl) (by kernel_rfl) (wn rfl) rfl rfl hr (v := .int .i64 i) (fun w => by kernel_rfl) ?_; clear hr a; intro a hr
    refine any_val (fuel := 10) (i := 11) rfl paninv_body (by kernel_rfl) (by kernel_rfl) (by kernel_rfl) (wn rfl) rfl rfl hr (v := .int .i64 x) (fun w => by kernel_rfl) ?_; clear hr a; intro a hr
    refine any_val (fuel := 9) (i := 12) rfl paninv_body (by kernel_rfl) (by kernel_rfl) (by kernel_rfl) (wn rfl) rfl rfl hr (v := .int .i64 y) (fun w => by kernel_rfl) ?_; clear hr a; intro a hr
    refine any_val (fuel := 8) (i := 13) rfl paninv_body (by kernel_rfl) (by kernel_rfl) (by kernel_rfl) (wn rfl) rfl rfl hr (v := .bool ok) (fun w => by kernel_rfl) ?_; clear hr a; intro a hr
    refine any_load (b := A) (off := 4) (cs := [.int .i64 ac]) (fuel := 7) (i := 8) rfl paninv_body (by kernel_rfl) (by kernel_rfl) (by kernel_rfl) (by kernel_rfl) (wn rfl) rfl rfl hr ⟨h.cell 4 rfl, trivial⟩ (v := .int .i64 ac) (fun w hc => rl rfl (by kernel_rfl) (by kernel_rfl) hc.1) ?_; clear hr a; intro a hr
    refine any_val (fuel := 6) (i := 14) rfl paninv_body (by kernel_rfl) (by kernel_rfl) (by kernel_rfl) (wn rfl) rfl rfl hr (v := .agg #[.int .i64 ac, .int .i64 k, .int .i64 i, .int .i64 x, .int .i64 y, .bool ok]) (fun w => by kernel_rfl) ?_; clear hr a; intro a hr
    refine any_load (b := A) (off := 3) (cs := [.slice la lo.length lc]) (fuel := 5) (i := 4) rfl paninv_body (by kernel_rfl) (by kernel_rfl) (by kernel_rfl) (by kernel_rfl) (wn rfl) rfl rfl hr ⟨h.cell 3 rfl, trivial⟩ (v := .slice la lo.length lc) (fun w hc => rl rfl (by kernel_rfl) (by kernel_rfl) hc.1) ?_; clear hr a; intro a hr
    refine any_one (fuel := 4) (i := 15) (by kernel_rfl) rfl ?_
    refine op_new (wn rfl) rfl rfl hr h (vf := fun b => .slice (some ⟨b, 0, none⟩) 1 1) (cs := #[.int .i64 ac, .int .i64 k, .int .i64 i, .int .i64 x, .int .i64 y, .bool ok]) (T := 90) (by kernel_rfl) ?_; clear h hr a; intro b2 w a h hr
    refine wpList_nil ?_; refine then_normal ?_
    refine any_one (fuel := 3) (i := 16) (by kernel_rfl) rfl ?_
    refine op_append (n0 := lo.length) (c := 1) (bytes := 48) (wn rfl) rfl rfl hr rfl (by kernel_rfl) (by kernel_rfl) encAcc_ok (E := 90) (xs := lo) (by kernel_rfl) (by kernel_rfl) (h.pick 2) (news := [(⟨ac, k, i, x, y, ok⟩ : Acc)]) (m := 1) rfl (h.news rfl) (by omega) rfl ?_; clear h hr a; intro ca3 cc4 w a h hr
    have h : Fit z (sepL (rowOf 90 6 encAcc (.slice ca3 ((lo ++ [(⟨ac, k, i, x, y, ok⟩ : Acc)]).length) cc4) (lo ++ [(⟨ac, k, i, x, y, ok⟩ : Acc)]) :: pts b2 (.cells #[.int .i64 ac, .int .i64 k, .int .i64 i, .int .i64 x, .int .i64 y, .bool ok] 90) :: pts A (.cells #[.int .i64 sz, .int .i64 mk, c2, .slice la lo.length lc, .int .i64 ac, .bool on] 96) :: L)) _ := h
    refine wpList_nil ?_; refine then_normal ?_
    refine any_val (fuel := 2) (i := 17) rfl paninv_body (by kernel_rfl) (by kernel_rfl) (by kernel_rfl) (wn rfl) rfl rfl hr (v := .pointer (some ⟨A, 0, none⟩)) (fun w => by kernel_rfl) ?_; clear hr a; intro a hr
    refine any_val (fuel := 1) (i := 18) rfl paninv_body (by kernel_rfl) (by kernel_rfl) (by kernel_rfl) (wn rfl) rfl rfl hr (v := .pointer (some ⟨A, 3, none⟩)) (fun w => by kernel_rfl) ?_; clear hr a; intro a hr
    refine any_one (fuel := 0) (i := 19) (by kernel_rfl) rfl ?_
    refine op_store (wn rfl) rfl hr rfl (by kernel_rfl) (by kernel_rfl) (v := .slice ca3 ((lo ++ [(⟨ac, k, i, x, y, ok⟩ : Acc)]).length) cc4) rfl rfl (by kernel_rfl) (h.pick 2) (i := 3) rfl ?_; clear h; intro w h
    have h : Fit z (sepL (pts A (.cells #[.int .i64 sz, .int .i64 mk, c2, .slice ca3 ((lo ++ [(⟨ac, k, i, x, y, ok⟩ : Acc)]).length) cc4, .int .i64 ac, .bool on] 96) :: rowOf 90 6 encAcc (.slice ca3 ((lo ++ [(⟨ac, k, i, x, y, ok⟩ : Acc)]).length) cc4) (lo ++ [(⟨ac, k, i, x, y, ok⟩ : Acc)]) :: pts b2 (.cells #[.int .i64 ac, .int .i64 k, .int .i64 i, .int .i64 x, .int .i64 y, .bool ok] 90) :: L)) _ := h
    refine wpList_nil ?_; refine then_normal ?_
    refine any_end (by kernel_rfl) ?_
    refine end_norm0 rfl hr ?_
    have e : logn on lo ⟨ac, k, i, x, y, ok⟩ = lo ++ [⟨ac, k, i, x, y, ok⟩] := by unfold logn; rw [if_pos c1]
    rw [e]
    exact ⟨ca3, cc4, rfl, ((((h.pick 1).pick 1).pick 2).drop)⟩
  ·
    refine cond_f hr (b := on) (by kernel_rfl) c1 ?_
    refine wp_skip ?_
    refine end_norm0 rfl hr ?_
    have e : logn on lo ⟨ac, k, i, x, y, ok⟩ = lo := by unfold logn; rw [if_neg (by rw [c1]; decide)]
    rw [e]
    exact ⟨la, lc, rfl, ((h.pick 1).pick 1)⟩

set_option maxRecDepth 100000 in
set_option maxHeartbeats 4000000 in
/-- (*plunder/cells.Arena).outside -/
theorem outside_nil {z w : World} {L : List HProp} {i : Int}  (h : Fit z (sepL (L)) w) :
    Calls Try.prog 65 #[.pointer none, .int .i64 i] w fun e w => e = .returned (.bool true) ∧ Fit z (sepL (L)) w := by
  refine enter Try.func65 rfl 15 rfl rfl [(0, .pointer none), (1, .int .i64 i)] ⟨by kernel_rfl, by kernel_rfl, trivial⟩ ?_
  intro j a hr
  refine wp_seq ?_
  refine wp_region_lit ?_
  refine op_val (wn rfl) rfl rfl hr (v := .bool false) (by kernel_rfl) ?_; clear hr a; intro a hr
  refine wpList_nil ?_
  refine then_normal ?_
  refine wp_seq ?_
  refine wp_region_lit ?_
  refine op_val (wn rfl) rfl rfl hr (v := .pointer none) (by kernel_rfl) ?_; clear hr a; intro a hr
  refine op_val (wn rfl) rfl rfl hr (v := .bool true) (by kernel_rfl) ?_; clear hr a; intro a hr
  refine op_val (wn rfl) rfl rfl hr (v := .bool true) (by kernel_rfl) ?_; clear hr a; intro a hr
  refine op_off ((wg hr rfl rfl rfl (b' := true) (by kernel_rfl)).trans rfl) rfl rfl hr ?_
  clear hr a; intro a hr
  refine op_off ((wg hr rfl rfl rfl (b' := true) (by kernel_rfl)).trans rfl) rfl rfl hr ?_
  clear hr a; intro a hr
  refine op_off ((wg hr rfl rfl rfl (b' := true) (by kernel_rfl)).trans rfl) rfl rfl hr ?_
  clear hr a; intro a hr
  refine op_off ((wg hr rfl rfl rfl (b' := true) (by kernel_rfl)).trans rfl) rfl rfl hr ?_
  clear hr a; intro a hr
  refine op_off ((wg hr rfl rfl rfl (b' := true) (by kernel_rfl)).trans rfl) rfl rfl hr ?_
  clear hr a; intro a hr
  refine op_off ((wg hr rfl rfl rfl (b' := true) (by kernel_rfl)).trans rfl) rfl rfl hr ?_
  clear hr a; intro a hr
  refine op_val (wn rfl) rfl rfl hr (v := .bool true) (by kernel_rfl) ?_; clear hr a; intro a hr
  refine op_val (wn rfl) rfl rfl hr (v := .bool true) (by kernel_rfl) ?_; clear hr a; intro a hr
  refine wpList_nil ?_
  refine then_normal ?_
  refine wp_ret ?_
  refine end_ret1 (v := .bool true) rfl hr (by kernel_rfl) ?_
  exact ⟨rfl, h⟩

set_option maxRecDepth 100000 in
set_option maxHeartbeats 4000000 in
/-- (*plunder/cells.Arena).outside -/
theorem outside_spec {z w : World} {L : List HProp} {B : Nat} {T : TypeId} {sz mk : Int} {c2 c3 c4 c5 : Value} {ad : Int}  (h : Fit z (sepL (pts B (.cells #[.int .i64 sz, .int .i64 mk, c2, c3, c4, c5] T) :: L)) w) :
    Calls Try.prog 65 #[.pointer (some ⟨B, 0, none⟩), .int .i64 ad] w fun e w => e = .returned (.bool (!(inbB mk ad))) ∧ Fit z (sepL (pts B (.cells #[.int .i64 sz, .int .i64 mk, c2, c3, c4, c5] T) :: L)) w := by
  refine enter Try.func65 rfl 15 rfl rfl [(0, .pointer (some ⟨B, 0, none⟩)), (1, .int .i64 ad)] ⟨by kernel_rfl, by kernel_rfl, trivial⟩ ?_
  intro j a hr
  refine wp_seq ?_
  refine wp_region_lit ?_
  refine op_val (wn rfl) rfl rfl hr (v := .bool false) (by kernel_rfl) ?_; clear hr a; intro a hr
  refine wpList_nil ?_
  refine then_normal ?_
  refine wp_seq ?_
  refine wp_region_lit ?_
  refine op_val (wn rfl) rfl rfl hr (v := .pointer (some ⟨B, 0, none⟩)) (by kernel_rfl) ?_; clear hr a; intro a hr
  refine op_val (wn rfl) rfl rfl hr (v := .bool false) (by kernel_rfl) ?_; clear hr a; intro a hr
  refine op_val (wn rfl) rfl rfl hr (v := .bool false) (by kernel_rfl) ?_; clear hr a; intro a hr
  refine op_val ((wg hr rfl rfl rfl (b' := false) (by kernel_rfl)).trans rfl) rfl rfl hr (v := .pointer (some ⟨B, 0, none⟩)) (by kernel_rfl) ?_; clear hr a; intro a hr
  refine op_val ((wg hr rfl rfl rfl (b' := false) (by kernel_rfl)).trans rfl) rfl rfl hr (v := .pointer (some ⟨B, 0, none⟩)) (by kernel_rfl) ?_; clear hr a; intro a hr
  refine op_val ((wg hr rfl rfl rfl (b' := false) (by kernel_rfl)).trans rfl) rfl rfl hr (v := .pointer (some ⟨B, 0, none⟩)) (by kernel_rfl) ?_; clear hr a; intro a hr
  refine op_val ((wg hr rfl rfl rfl (b' := false) (by kernel_rfl)).trans rfl) rfl rfl hr (v := .int .i64 ad) (by kernel_rfl) ?_; clear hr a; intro a hr
  refine op_call ((wg hr rfl rfl rfl (b' := false) (by kernel_rfl)).trans rfl) rfl rfl hr (f := 100) (args := #[.pointer (some ⟨B, 0, none⟩), .int .i64 ad]) (by kernel_rfl) (has_spec  (h := h)) ?_; clear h
  rintro _ w ⟨rfl, h⟩; refine ⟨_, rfl, ?_⟩
  clear hr a; intro a hr
  have h : Fit z (sepL (pts B (.cells #[.int .i64 sz, .int .i64 mk, c2, c3, c4, c5] T) :: L)) _ := h
  refine op_val ((wg hr rfl rfl rfl (b' := false) (by kernel_rfl)).trans rfl) rfl rfl hr (v := .bool (!(inbB mk ad))) (by kernel_rfl) ?_; clear hr a; intro a hr
  refine op_val (wn rfl) rfl rfl hr (v := .bool (!(inbB mk ad))) (by kernel_rfl) ?_; clear hr a; intro a hr
  refine op_val (wn rfl) rfl rfl hr (v := .bool (!(inbB mk ad))) (by kernel_rfl) ?_; clear hr a; intro a hr
  refine wpList_nil ?_
  refine then_normal ?_
  refine wp_ret ?_
  refine end_ret1 (v := .bool (!(inbB mk ad))) rfl hr (by kernel_rfl) ?_
  exact ⟨rfl, h⟩

set_option maxRecDepth 100000 in
set_option maxHeartbeats 4000000 in
/-- (*plunder/cells.Arena).Load -/
theorem load_spec {z w : World} {L : List HProp} {A : Nat} {S : ASt} {i : Int} (hl : S.log.length < 1099511627776) (hs : S.cells.length ≤ 1048576) (h : Fit z (sepL (ArenaP A S :: L)) w) :
    Calls Try.prog 66 #[.pointer (some ⟨A, 0, none⟩), .int .i64 i] w fun e w => e = .returned (.tuple #[.int .i64 ((S.load i).1.1), .int .i64 ((S.load i).1.2)]) ∧ Fit z (sepL (ArenaP A ((S.load i).2) :: L)) w := by
  obtain ⟨ca, cc, la, lc, h⟩ := ArenaP.op h
  have h : Fit z (sepL (pts A (.cells #[.int .i64 S.size, .int .i64 ((S.cells.length : Nat) : Int), .slice ca S.cells.length cc, .slice la S.log.length lc, .int .i64 S.actor, .bool S.on] 96) :: rowOf 2 1 encI (.slice ca S.cells.length cc) S.cells :: rowOf 90 6 encAcc (.slice la S.log.length lc) S.log :: L)) _ := h
  refine enter Try.func66 rfl 22 rfl rfl [(0, .pointer (some ⟨A, 0, none⟩)), (1, .int .i64 i)] ⟨by kernel_rfl, by kernel_rfl, trivial⟩ ?_
  intro j a hr
  refine wp_seq ?_
  refine wp_region_lit ?_
  refine op_val (wn rfl) rfl rfl hr (v := .int .i64 0) (by kernel_rfl) ?_; clear hr a; intro a hr
  refine op_val (wn rfl) rfl rfl hr (v := .int .i64 0) (by kernel_rfl) ?_; clear hr a; intro a hr
  refine wpList_nil ?_
  refine then_normal ?_
  refine wp_seq ?_
  refine wp_seq ?_
  refine wp_region_lit ?_
  refine op_val (wn rfl) rfl rfl hr (v := .pointer (some ⟨A, 0, none⟩)) (by kernel_rfl) ?_; clear hr a; intro a hr
  refine op_val (wn rfl) rfl rfl hr (v := .int .i64 i) (by kernel_rfl) ?_; clear hr a; intro a hr
  refine op_call (wn rfl) rfl rfl hr (f := 65) (args := #[.pointer (some ⟨A, 0, none⟩), .int .i64 i]) (by kernel_rfl) (outside_spec  (h := h)) ?_; clear h
  rintro _ w ⟨rfl, h⟩; refine ⟨_, rfl, ?_⟩
  clear hr a; intro a hr
  have h : Fit z (sepL (pts A (.cells #[.int .i64 S.size, .int .i64 ((S.cells.length : Nat) : Int), .slice ca S.cells.length cc, .slice la S.log.length lc, .int .i64 S.actor, .bool S.on] 96) :: rowOf 2 1 encI (.slice ca S.cells.length cc) S.cells :: rowOf 90 6 encAcc (.slice la S.log.length lc) S.log :: L)) _ := h
  refine wpList_nil ?_
  refine then_normal ?_
  rcases Bool.eq_false_or_eq_true (inbB ((S.cells.length : Nat) : Int) i) with c1 | c1
  ·
    have ⟨hb0, hb1⟩ := inbB_true c1
    refine cond_f hr (b := (!(inbB ((S.cells.length : Nat) : Int) i))) (by kernel_rfl) (by rw [c1]; rfl) ?_
    refine wp_skip ?_
    refine then_normal ?_
    refine wp_seq ?_
    refine wp_region_lit ?_
    refine op_val (wn rfl) rfl rfl hr (v := .pointer (some ⟨A, 0, none⟩)) (by kernel_rfl) ?_; clear hr a; intro a hr
    refine op_val (wn rfl) rfl rfl hr (v := .pointer (some ⟨A, 0, none⟩)) (by kernel_rfl) ?_; clear hr a; intro a hr
    refine op_val (wn rfl) rfl rfl hr (v := .pointer (some ⟨A, 2, none⟩)) (by kernel_rfl) ?_; clear hr a; intro a hr
    refine op_val (wn rfl) rfl rfl hr (v := .slice ca S.cells.length cc) (rl rfl (by kernel_rfl) (by kernel_rfl) (h.cell 2 rfl)) ?_; clear hr a; intro a hr
    refine op_val (wn rfl) rfl rfl hr (v := .int .i64 i) (by kernel_rfl) ?_; clear hr a; intro a hr
    obtain ⟨g2, ge3, h⟩ := (h.pick 1).row_blk (by omega)
    have h : Fit z (sepL (slc 2 1 encI g2 cc S.cells :: pts A (.cells #[.int .i64 S.size, .int .i64 ((S.cells.length : Nat) : Int), .slice ca S.cells.length cc, .slice la S.log.length lc, .int .i64 S.actor, .bool S.on] 96) :: rowOf 90 6 encAcc (.slice la S.log.length lc) S.log :: L)) _ := h
    refine op_val (wn rfl) rfl rfl hr (v := .pointer (some ⟨g2, ((i).toNat) * 1, none⟩)) (ri0e (k := .i64) (g := g2) (len := S.cells.length) (cap := cc) ge3 (i := i) (E := 2) (sz := 1) rfl (by kernel_rfl) (by kernel_rfl) (by kernel_rfl) (by kernel_rfl) (by omega) (by omega)) ?_; clear hr a; intro a hr
    refine op_val (wn rfl) rfl rfl hr (v := .int .i64 (at_ S.cells ((i).toNat))) (rl rfl (by kernel_rfl) (by kernel_rfl) (h.slc_get encI_ok ((i).toNat) 0 (at_ S.cells ((i).toNat)) _ (get_at (by (try simp only [List.length_set, List.length_append, List.length_replicate]); omega)) rfl)) ?_; clear hr a; intro a hr
    refine op_val (wn rfl) rfl rfl hr (v := .int .i64 (at_ S.cells ((i).toNat))) (by kernel_rfl) ?_; clear hr a; intro a hr
    refine wpList_nil ?_
    refine then_normal ?_
    refine wp_seq ?_
    refine wp_region_lit ?_
    refine op_val (wn rfl) rfl rfl hr (v := .pointer (some ⟨A, 0, none⟩)) (by kernel_rfl) ?_; clear hr a; intro a hr
    refine op_val (wn rfl) rfl rfl hr (v := .int .i64 i) (by kernel_rfl) ?_; clear hr a; intro a hr
    refine op_val (wn rfl) rfl rfl hr (v := .int .i64 (at_ S.cells ((i).toNat))) (by kernel_rfl) ?_; clear hr a; intro a hr
    refine op_call (wn rfl) rfl rfl hr (f := 64) (args := #[.pointer (some ⟨A, 0, none⟩), .int .i64 0, .int .i64 i, .int .i64 (at_ S.cells ((i).toNat)), .int .i64 0, .bool true]) (by kernel_rfl) (note_spec (hl := (by omega)) (h := ((h.pick 2).pick 2))) ?_; clear h
    rintro _ w ⟨la4, lc5, rfl, h⟩; refine ⟨_, rfl, ?_⟩
    clear hr a; intro a hr
    have h : Fit z (sepL (pts A (.cells #[.int .i64 S.size, .int .i64 ((S.cells.length : Nat) : Int), .slice ca S.cells.length cc, .slice la4 ((logn S.on S.log ⟨S.actor, 0, i, (at_ S.cells ((i).toNat)), 0, true⟩).length) lc5, .int .i64 S.actor, .bool S.on] 96) :: rowOf 90 6 encAcc (.slice la4 ((logn S.on S.log ⟨S.actor, 0, i, (at_ S.cells ((i).toNat)), 0, true⟩).length) lc5) (logn S.on S.log ⟨S.actor, 0, i, (at_ S.cells ((i).toNat)), 0, true⟩) :: slc 2 1 encI g2 cc S.cells :: L)) _ := h
    refine wpList_nil ?_
    refine then_normal ?_
    refine wp_seq ?_
    refine wp_region_lit ?_
    refine op_val (wn rfl) rfl rfl hr (v := .int .i64 (at_ S.cells ((i).toNat))) (by kernel_rfl) ?_; clear hr a; intro a hr
    refine op_val (wn rfl) rfl rfl hr (v := .int .i64 (at_ S.cells ((i).toNat))) (by kernel_rfl) ?_; clear hr a; intro a hr
    refine op_val (wn rfl) rfl rfl hr (v := .int .i64 0) (by kernel_rfl) ?_; clear hr a; intro a hr
    refine wpList_nil ?_
    refine then_normal ?_
    refine wp_ret ?_
    refine end_ret2 (v := .int .i64 (at_ S.cells ((i).toNat))) (v' := .int .i64 0) rfl hr (by kernel_rfl) (by kernel_rfl) ?_
    have h : Fit z (sepL (rowOf 2 1 encI (.slice ca S.cells.length cc) S.cells :: pts A (.cells #[.int .i64 S.size, .int .i64 ((S.cells.length : Nat) : Int), .slice ca S.cells.length cc, .slice la4 ((logn S.on S.log ⟨S.actor, 0, i, (at_ S.cells ((i).toNat)), 0, true⟩).length) lc5, .int .i64 S.actor, .bool S.on] 96) :: rowOf 90 6 encAcc (.slice la4 ((logn S.on S.log ⟨S.actor, 0, i, (at_ S.cells ((i).toNat)), 0, true⟩).length) lc5) (logn S.on S.log ⟨S.actor, 0, i, (at_ S.cells ((i).toNat)), 0, true⟩) :: L)) _ := Fit.unrow_e ge3 (by simp) (h.pick 2)
    rw [ASt.load_in c1]
    exact ⟨rfl, ArenaP.sh (S := S.note 0 i (at_ S.cells i.toNat) 0 true) (((h.pick 2).pick 1).pick 2) (by first | rfl | (simp only [List.length_append, List.length_replicate, List.length_set]; omega)) (by first | rfl | simp [ASt.note]) (by first | rfl | simp [ASt.note])⟩
  ·
    refine cond_t hr (b := (!(inbB ((S.cells.length : Nat) : Int) i))) (by kernel_rfl) (by rw [c1]; rfl) ?_
    refine wp_seq ?_
    refine wp_region_lit ?_
    refine op_val (wn rfl) rfl rfl hr (v := .int .i64 0) (by kernel_rfl) ?_; clear hr a; intro a hr
    refine op_val (wn rfl) rfl rfl hr (v := .int .i64 20) (by kernel_rfl) ?_; clear hr a; intro a hr
    refine wpList_nil ?_
    refine then_normal ?_
    refine wp_ret ?_
    refine then_ret ?_
    refine end_ret2 (v := .int .i64 0) (v' := .int .i64 20) rfl hr (by kernel_rfl) (by kernel_rfl) ?_
    rw [ASt.load_out c1]
    exact ⟨rfl, ArenaP.sh (S := S) (((h.pick 2).pick 2).pick 2) (by first | rfl | (simp only [List.length_append, List.length_replicate, List.length_set]; omega)) (by first | rfl | simp [ASt.note]) (by first | rfl | simp [ASt.note])⟩

set_option maxRecDepth 100000 in
set_option maxHeartbeats 4000000 in
/-- (*plunder/cells.Arena).Store -/
theorem store_spec {z w : World} {L : List HProp} {A : Nat} {S : ASt} {i v : Int} (hl : S.log.length < 1099511627776) (hs : S.cells.length ≤ 1048576) (h : Fit z (sepL (ArenaP A S :: L)) w) :
    Calls Try.prog 21 #[.pointer (some ⟨A, 0, none⟩), .int .i64 i, .int .i64 v] w fun e w => e = .returned (.int .i64 ((S.store i v).1)) ∧ Fit z (sepL (ArenaP A ((S.store i v).2) :: L)) w := by
  obtain ⟨ca, cc, la, lc, h⟩ := ArenaP.op h
  have h : Fit z (sepL (pts A (.cells #[.int .i64 S.size, .int .i64 ((S.cells.length : Nat) : Int), .slice ca S.cells.length cc, .slice la S.log.length lc, .int .i64 S.actor, .bool S.on] 96) :: rowOf 2 1 encI (.slice ca S.cells.length cc) S.cells :: rowOf 90 6 encAcc (.slice la S.log.length lc) S.log :: L)) _ := h
  refine enter Try.func21 rfl 21 rfl rfl [(0, .pointer (some ⟨A, 0, none⟩)), (1, .int .i64 i), (2, .int .i64 v)] ⟨by kernel_rfl, by kernel_rfl, by kernel_rfl, trivial⟩ ?_
  intro j a hr
  refine wp_seq ?_
  refine wp_region_lit ?_
  refine op_val (wn rfl) rfl rfl hr (v := .int .i64 0) (by kernel_rfl) ?_; clear hr a; intro a hr
  refine wpList_nil ?_
  refine then_normal ?_
  refine wp_seq ?_
  refine wp_seq ?_
  refine wp_region_lit ?_
  refine op_val (wn rfl) rfl rfl hr (v := .pointer (some ⟨A, 0, none⟩)) (by kernel_rfl) ?_; clear hr a; intro a hr
  refine op_val (wn rfl) rfl rfl hr (v := .int .i64 i) (by kernel_rfl) ?_; clear hr a; intro a hr
  refine op_call (wn rfl) rfl rfl hr (f := 65) (args := #[.pointer (some ⟨A, 0, none⟩), .int .i64 i]) (by kernel_rfl) (outside_spec  (h := h)) ?_; clear h
  rintro _ w ⟨rfl, h⟩; refine ⟨_, rfl, ?_⟩
  clear hr a; intro a hr
  have h : Fit z (sepL (pts A (.cells #[.int .i64 S.size, .int .i64 ((S.cells.length : Nat) : Int), .slice ca S.cells.length cc, .slice la S.log.length lc, .int .i64 S.actor, .bool S.on] 96) :: rowOf 2 1 encI (.slice ca S.cells.length cc) S.cells :: rowOf 90 6 encAcc (.slice la S.log.length lc) S.log :: L)) _ := h
  refine wpList_nil ?_
  refine then_normal ?_
  rcases Bool.eq_false_or_eq_true (inbB ((S.cells.length : Nat) : Int) i) with c1 | c1
  ·
    have ⟨hb0, hb1⟩ := inbB_true c1
    refine cond_f hr (b := (!(inbB ((S.cells.length : Nat) : Int) i))) (by kernel_rfl) (by rw [c1]; rfl) ?_
    refine wp_skip ?_
    refine then_normal ?_
    refine wp_seq ?_
    refine wp_region_lit ?_
    refine op_val (wn rfl) rfl rfl hr (v := .pointer (some ⟨A, 0, none⟩)) (by kernel_rfl) ?_; clear hr a; intro a hr
    refine op_val (wn rfl) rfl rfl hr (v := .pointer (some ⟨A, 0, none⟩)) (by kernel_rfl) ?_; clear hr a; intro a hr
    refine op_val (wn rfl) rfl rfl hr (v := .pointer (some ⟨A, 2, none⟩)) (by kernel_rfl) ?_; clear hr a; intro a hr
    refine op_val (wn rfl) rfl rfl hr (v := .slice ca S.cells.length cc) (rl rfl (by kernel_rfl) (by kernel_rfl) (h.cell 2 rfl)) ?_; clear hr a; intro a hr
    refine op_val (wn rfl) rfl rfl hr (v := .int .i64 i) (by kernel_rfl) ?_; clear hr a; intro a hr
    refine op_val (wn rfl) rfl rfl hr (v := .int .i64 v) (by kernel_rfl) ?_; clear hr a; intro a hr
    obtain ⟨g2, ge3, h⟩ := (h.pick 1).row_blk (by omega)
    have h : Fit z (sepL (slc 2 1 encI g2 cc S.cells :: pts A (.cells #[.int .i64 S.size, .int .i64 ((S.cells.length : Nat) : Int), .slice ca S.cells.length cc, .slice la S.log.length lc, .int .i64 S.actor, .bool S.on] 96) :: rowOf 90 6 encAcc (.slice la S.log.length lc) S.log :: L)) _ := h
    refine op_val (wn rfl) rfl rfl hr (v := .pointer (some ⟨g2, ((i).toNat) * 1, none⟩)) (ri0e (k := .i64) (g := g2) (len := S.cells.length) (cap := cc) ge3 (i := i) (E := 2) (sz := 1) rfl (by kernel_rfl) (by kernel_rfl) (by kernel_rfl) (by kernel_rfl) (by omega) (by omega)) ?_; clear hr a; intro a hr
    refine op_store_slc (wn rfl) rfl hr rfl (by kernel_rfl) (by kernel_rfl) (v := .int .i64 v) rfl rfl (by kernel_rfl) encI_ok h (i := ((i).toNat)) (f := 0) (p := at_ S.cells ((i).toNat)) (q := v) (get_at (by (try simp only [List.length_set, List.length_append, List.length_replicate]); omega)) (by decide) rfl ?_; clear h; intro w h
    have h : Fit z (sepL (slc 2 1 encI g2 cc (S.cells.set ((i).toNat) v) :: pts A (.cells #[.int .i64 S.size, .int .i64 ((S.cells.length : Nat) : Int), .slice ca S.cells.length cc, .slice la S.log.length lc, .int .i64 S.actor, .bool S.on] 96) :: rowOf 90 6 encAcc (.slice la S.log.length lc) S.log :: L)) _ := h
    refine wpList_nil ?_
    refine then_normal ?_
    refine wp_seq ?_
    refine wp_region_lit ?_
    refine op_val (wn rfl) rfl rfl hr (v := .pointer (some ⟨A, 0, none⟩)) (by kernel_rfl) ?_; clear hr a; intro a hr
    refine op_val (wn rfl) rfl rfl hr (v := .int .i64 i) (by kernel_rfl) ?_; clear hr a; intro a hr
    refine op_val (wn rfl) rfl rfl hr (v := .int .i64 v) (by kernel_rfl) ?_; clear hr a; intro a hr
    refine op_call (wn rfl) rfl rfl hr (f := 64) (args := #[.pointer (some ⟨A, 0, none⟩), .int .i64 1, .int .i64 i, .int .i64 v, .int .i64 0, .bool true]) (by kernel_rfl) (note_spec (hl := (by omega)) (h := ((h.pick 2).pick 2))) ?_; clear h
    rintro _ w ⟨la4, lc5, rfl, h⟩; refine ⟨_, rfl, ?_⟩
    clear hr a; intro a hr
    have h : Fit z (sepL (pts A (.cells #[.int .i64 S.size, .int .i64 ((S.cells.length : Nat) : Int), .slice ca S.cells.length cc, .slice la4 ((logn S.on S.log ⟨S.actor, 1, i, v, 0, true⟩).length) lc5, .int .i64 S.actor, .bool S.on] 96) :: rowOf 90 6 encAcc (.slice la4 ((logn S.on S.log ⟨S.actor, 1, i, v, 0, true⟩).length) lc5) (logn S.on S.log ⟨S.actor, 1, i, v, 0, true⟩) :: slc 2 1 encI g2 cc (S.cells.set ((i).toNat) v) :: L)) _ := h
    refine wpList_nil ?_
    refine then_normal ?_
    refine wp_seq ?_
    refine wp_region_lit ?_
    refine op_val (wn rfl) rfl rfl hr (v := .int .i64 0) (by kernel_rfl) ?_; clear hr a; intro a hr
    refine wpList_nil ?_
    refine then_normal ?_
    refine wp_ret ?_
    refine end_ret1 (v := .int .i64 0) rfl hr (by kernel_rfl) ?_
    have h : Fit z (sepL (rowOf 2 1 encI (.slice ca S.cells.length cc) (S.cells.set ((i).toNat) v) :: pts A (.cells #[.int .i64 S.size, .int .i64 ((S.cells.length : Nat) : Int), .slice ca S.cells.length cc, .slice la4 ((logn S.on S.log ⟨S.actor, 1, i, v, 0, true⟩).length) lc5, .int .i64 S.actor, .bool S.on] 96) :: rowOf 90 6 encAcc (.slice la4 ((logn S.on S.log ⟨S.actor, 1, i, v, 0, true⟩).length) lc5) (logn S.on S.log ⟨S.actor, 1, i, v, 0, true⟩) :: L)) _ := Fit.unrow_e ge3 (by simp) (h.pick 2)
    rw [ASt.store_in c1]
    exact ⟨rfl, ArenaP.sh (S := { S with cells := S.cells.set i.toNat v }.note 1 i v 0 true) (((h.pick 2).pick 1).pick 2) (by first | rfl | (simp only [List.length_append, List.length_replicate, List.length_set]; omega)) (by first | rfl | simp [ASt.note]) (by first | rfl | simp [ASt.note])⟩
  ·
    refine cond_t hr (b := (!(inbB ((S.cells.length : Nat) : Int) i))) (by kernel_rfl) (by rw [c1]; rfl) ?_
    refine wp_seq ?_
    refine wp_region_lit ?_
    refine op_val (wn rfl) rfl rfl hr (v := .int .i64 20) (by kernel_rfl) ?_; clear hr a; intro a hr
    refine wpList_nil ?_
    refine then_normal ?_
    refine wp_ret ?_
    refine then_ret ?_
    refine end_ret1 (v := .int .i64 20) rfl hr (by kernel_rfl) ?_
    rw [ASt.store_out c1]
    exact ⟨rfl, ArenaP.sh (S := S) (((h.pick 2).pick 2).pick 2) (by first | rfl | (simp only [List.length_append, List.length_replicate, List.length_set]; omega)) (by first | rfl | simp [ASt.note]) (by first | rfl | simp [ASt.note])⟩

set_option maxRecDepth 100000 in
set_option maxHeartbeats 4000000 in
/-- (*plunder/cells.Arena).CAS -/
theorem cas_spec {z w : World} {L : List HProp} {A : Nat} {S : ASt} {i x y : Int} (hl : S.log.length < 1099511627776) (hs : S.cells.length ≤ 1048576) (h : Fit z (sepL (ArenaP A S :: L)) w) :
    Calls Try.prog 67 #[.pointer (some ⟨A, 0, none⟩), .int .i64 i, .int .i64 x, .int .i64 y] w fun e w => e = .returned (.tuple #[.bool ((S.cas i x y).1.1), .int .i64 ((S.cas i x y).1.2)]) ∧ Fit z (sepL (ArenaP A ((S.cas i x y).2) :: L)) w := by
  obtain ⟨ca, cc, la, lc, h⟩ := ArenaP.op h
  have h : Fit z (sepL (pts A (.cells #[.int .i64 S.size, .int .i64 ((S.cells.length : Nat) : Int), .slice ca S.cells.length cc, .slice la S.log.length lc, .int .i64 S.actor, .bool S.on] 96) :: rowOf 2 1 encI (.slice ca S.cells.length cc) S.cells :: rowOf 90 6 encAcc (.slice la S.log.length lc) S.log :: L)) _ := h
  refine enter Try.func67 rfl 38 rfl rfl [(0, .pointer (some ⟨A, 0, none⟩)), (1, .int .i64 i), (2, .int .i64 x), (3, .int .i64 y)] ⟨by kernel_rfl, by kernel_rfl, by kernel_rfl, by kernel_rfl, trivial⟩ ?_
  intro j a hr
  refine wp_seq ?_
  refine wp_region_lit ?_
  refine op_val (wn rfl) rfl rfl hr (v := .bool false) (by kernel_rfl) ?_; clear hr a; intro a hr
  refine op_val (wn rfl) rfl rfl hr (v := .int .i64 0) (by kernel_rfl) ?_; clear hr a; intro a hr
  refine wpList_nil ?_
  refine then_normal ?_
  refine wp_seq ?_
  refine wp_seq ?_
  refine wp_region_lit ?_
  refine op_val (wn rfl) rfl rfl hr (v := .pointer (some ⟨A, 0, none⟩)) (by kernel_rfl) ?_; clear hr a; intro a hr
  refine op_val (wn rfl) rfl rfl hr (v := .int .i64 i) (by kernel_rfl) ?_; clear hr a; intro a hr
  refine op_call (wn rfl) rfl rfl hr (f := 65) (args := #[.pointer (some ⟨A, 0, none⟩), .int .i64 i]) (by kernel_rfl) (outside_spec  (h := h)) ?_; clear h
  rintro _ w ⟨rfl, h⟩; refine ⟨_, rfl, ?_⟩
  clear hr a; intro a hr
  have h : Fit z (sepL (pts A (.cells #[.int .i64 S.size, .int .i64 ((S.cells.length : Nat) : Int), .slice ca S.cells.length cc, .slice la S.log.length lc, .int .i64 S.actor, .bool S.on] 96) :: rowOf 2 1 encI (.slice ca S.cells.length cc) S.cells :: rowOf 90 6 encAcc (.slice la S.log.length lc) S.log :: L)) _ := h
  refine wpList_nil ?_
  refine then_normal ?_
  rcases Bool.eq_false_or_eq_true (inbB ((S.cells.length : Nat) : Int) i) with c1 | c1
  ·
    have ⟨hb0, hb1⟩ := inbB_true c1
    refine cond_f hr (b := (!(inbB ((S.cells.length : Nat) : Int) i))) (by kernel_rfl) (by rw [c1]; rfl) ?_
    refine wp_skip ?_
    refine then_normal ?_
    refine wp_seq ?_
    refine wp_region_lit ?_
    refine op_val (wn rfl) rfl rfl hr (v := .pointer (some ⟨A, 0, none⟩)) (by kernel_rfl) ?_; clear hr a; intro a hr
    refine op_val (wn rfl) rfl rfl hr (v := .pointer (some ⟨A, 0, none⟩)) (by kernel_rfl) ?_; clear hr a; intro a hr
    refine op_val (wn rfl) rfl rfl hr (v := .pointer (some ⟨A, 2, none⟩)) (by kernel_rfl) ?_; clear hr a; intro a hr
    refine op_val (wn rfl) rfl rfl hr (v := .slice ca S.cells.length cc) (rl rfl (by kernel_rfl) (by kernel_rfl) (h.cell 2 rfl)) ?_; clear hr a; intro a hr
    refine op_val (wn rfl) rfl rfl hr (v := .int .i64 i) (by kernel_rfl) ?_; clear hr a; intro a hr
    obtain ⟨g2, ge3, h⟩ := (h.pick 1).row_blk (by omega)
    have h : Fit z (sepL (slc 2 1 encI g2 cc S.cells :: pts A (.cells #[.int .i64 S.size, .int .i64 ((S.cells.length : Nat) : Int), .slice ca S.cells.length cc, .slice la S.log.length lc, .int .i64 S.actor, .bool S.on] 96) :: rowOf 90 6 encAcc (.slice la S.log.length lc) S.log :: L)) _ := h
    refine op_val (wn rfl) rfl rfl hr (v := .pointer (some ⟨g2, ((i).toNat) * 1, none⟩)) (ri0e (k := .i64) (g := g2) (len := S.cells.length) (cap := cc) ge3 (i := i) (E := 2) (sz := 1) rfl (by kernel_rfl) (by kernel_rfl) (by kernel_rfl) (by kernel_rfl) (by omega) (by omega)) ?_; clear hr a; intro a hr
    refine op_val (wn rfl) rfl rfl hr (v := .int .i64 (at_ S.cells ((i).toNat))) (rl rfl (by kernel_rfl) (by kernel_rfl) (h.slc_get encI_ok ((i).toNat) 0 (at_ S.cells ((i).toNat)) _ (get_at (by (try simp only [List.length_set, List.length_append, List.length_replicate]); omega)) rfl)) ?_; clear hr a; intro a hr
    refine op_val (wn rfl) rfl rfl hr (v := .int .i64 x) (by kernel_rfl) ?_; clear hr a; intro a hr
    refine op_val (wn rfl) rfl rfl hr (v := .bool ((at_ S.cells ((i).toNat)) == x)) (by kernel_rfl) ?_; clear hr a; intro a hr
    refine op_val (wn rfl) rfl rfl hr (v := .bool ((at_ S.cells ((i).toNat)) == x)) (by kernel_rfl) ?_; clear hr a; intro a hr
    refine wpList_nil ?_
    refine then_normal ?_
    refine wp_seq ?_
    refine wp_seq ?_
    refine wp_region_lit ?_
    refine op_val (wn rfl) rfl rfl hr (v := .bool ((at_ S.cells ((i).toNat)) == x)) (by kernel_rfl) ?_; clear hr a; intro a hr
    refine wpList_nil ?_
    refine then_normal ?_
    by_cases c4 : (at_ S.cells ((i).toNat)) = x
    ·
      refine cond_t hr (b := ((at_ S.cells ((i).toNat)) == x)) (by kernel_rfl) (beq_iff_eq.mpr c4) ?_
      refine wp_region_lit ?_
      refine op_val (wn rfl) rfl rfl hr (v := .pointer (some ⟨A, 0, none⟩)) (by kernel_rfl) ?_; clear hr a; intro a hr
      refine op_val (wn rfl) rfl rfl hr (v := .pointer (some ⟨A, 0, none⟩)) (by kernel_rfl) ?_; clear hr a; intro a hr
      refine op_val (wn rfl) rfl rfl hr (v := .pointer (some ⟨A, 2, none⟩)) (by kernel_rfl) ?_; clear hr a; intro a hr
      refine op_val (wn rfl) rfl rfl hr (v := .slice ca S.cells.length cc) (rl rfl (by kernel_rfl) (by kernel_rfl) ((h.pick 1).cell 2 rfl)) ?_; clear hr a; intro a hr
      refine op_val (wn rfl) rfl rfl hr (v := .int .i64 i) (by kernel_rfl) ?_; clear hr a; intro a hr
      refine op_val (wn rfl) rfl rfl hr (v := .int .i64 y) (by kernel_rfl) ?_; clear hr a; intro a hr
      refine op_val (wn rfl) rfl rfl hr (v := .pointer (some ⟨g2, ((i).toNat) * 1, none⟩)) (ri0e (k := .i64) (g := g2) (len := S.cells.length) (cap := cc) ge3 (i := i) (E := 2) (sz := 1) rfl (by kernel_rfl) (by kernel_rfl) (by kernel_rfl) (by kernel_rfl) (by omega) (by omega)) ?_; clear hr a; intro a hr
      refine op_store_slc (wn rfl) rfl hr rfl (by kernel_rfl) (by kernel_rfl) (v := .int .i64 y) rfl rfl (by kernel_rfl) encI_ok h (i := ((i).toNat)) (f := 0) (p := at_ S.cells ((i).toNat)) (q := y) (get_at (by (try simp only [List.length_set, List.length_append, List.length_replicate]); omega)) (by decide) rfl ?_; clear h; intro w h
      have h : Fit z (sepL (slc 2 1 encI g2 cc (S.cells.set ((i).toNat) y) :: pts A (.cells #[.int .i64 S.size, .int .i64 ((S.cells.length : Nat) : Int), .slice ca S.cells.length cc, .slice la S.log.length lc, .int .i64 S.actor, .bool S.on] 96) :: rowOf 90 6 encAcc (.slice la S.log.length lc) S.log :: L)) _ := h
      refine wpList_nil ?_
      refine then_normal ?_
      refine wp_seq ?_
      refine wp_region_lit ?_
      refine op_val (wn rfl) rfl rfl hr (v := .pointer (some ⟨A, 0, none⟩)) (by kernel_rfl) ?_; clear hr a; intro a hr
      refine op_val (wn rfl) rfl rfl hr (v := .int .i64 i) (by kernel_rfl) ?_; clear hr a; intro a hr
      refine op_val (wn rfl) rfl rfl hr (v := .int .i64 x) (by kernel_rfl) ?_; clear hr a; intro a hr
      refine op_val (wn rfl) rfl rfl hr (v := .int .i64 y) (by kernel_rfl) ?_; clear hr a; intro a hr
      refine op_val (wn rfl) rfl rfl hr (v := .bool ((at_ S.cells ((i).toNat)) == x)) (by kernel_rfl) ?_; clear hr a; intro a hr
      refine op_call (wn rfl) rfl rfl hr (f := 64) (args := #[.pointer (some ⟨A, 0, none⟩), .int .i64 2, .int .i64 i, .int .i64 x, .int .i64 y, .bool ((at_ S.cells ((i).toNat)) == x)]) (by kernel_rfl) (note_spec (hl := (by omega)) (h := ((h.pick 2).pick 2))) ?_; clear h
      rintro _ w ⟨la5, lc6, rfl, h⟩; refine ⟨_, rfl, ?_⟩
      clear hr a; intro a hr
      have h : Fit z (sepL (pts A (.cells #[.int .i64 S.size, .int .i64 ((S.cells.length : Nat) : Int), .slice ca S.cells.length cc, .slice la5 ((logn S.on S.log ⟨S.actor, 2, i, x, y, ((at_ S.cells ((i).toNat)) == x)⟩).length) lc6, .int .i64 S.actor, .bool S.on] 96) :: rowOf 90 6 encAcc (.slice la5 ((logn S.on S.log ⟨S.actor, 2, i, x, y, ((at_ S.cells ((i).toNat)) == x)⟩).length) lc6) (logn S.on S.log ⟨S.actor, 2, i, x, y, ((at_ S.cells ((i).toNat)) == x)⟩) :: slc 2 1 encI g2 cc (S.cells.set ((i).toNat) y) :: L)) _ := h
      refine wpList_nil ?_
      refine then_normal ?_
      refine wp_seq ?_
      refine wp_region_lit ?_
      refine op_val (wn rfl) rfl rfl hr (v := .bool ((at_ S.cells ((i).toNat)) == x)) (by kernel_rfl) ?_; clear hr a; intro a hr
      refine op_val (wn rfl) rfl rfl hr (v := .bool ((at_ S.cells ((i).toNat)) == x)) (by kernel_rfl) ?_; clear hr a; intro a hr
      refine op_val (wn rfl) rfl rfl hr (v := .int .i64 0) (by kernel_rfl) ?_; clear hr a; intro a hr
      refine wpList_nil ?_
      refine then_normal ?_
      refine wp_ret ?_
      refine end_ret2 (v := .bool ((at_ S.cells ((i).toNat)) == x)) (v' := .int .i64 0) rfl hr (by kernel_rfl) (by kernel_rfl) ?_
      have h : Fit z (sepL (rowOf 2 1 encI (.slice ca S.cells.length cc) (S.cells.set ((i).toNat) y) :: pts A (.cells #[.int .i64 S.size, .int .i64 ((S.cells.length : Nat) : Int), .slice ca S.cells.length cc, .slice la5 ((logn S.on S.log ⟨S.actor, 2, i, x, y, ((at_ S.cells ((i).toNat)) == x)⟩).length) lc6, .int .i64 S.actor, .bool S.on] 96) :: rowOf 90 6 encAcc (.slice la5 ((logn S.on S.log ⟨S.actor, 2, i, x, y, ((at_ S.cells ((i).toNat)) == x)⟩).length) lc6) (logn S.on S.log ⟨S.actor, 2, i, x, y, ((at_ S.cells ((i).toNat)) == x)⟩) :: L)) _ := Fit.unrow_e ge3 (by simp) (h.pick 2)
      (try rw [(beq_iff_eq.mpr c4)] at h); (try rw [(beq_iff_eq.mpr c4)])
      rw [ASt.cas_hit c1 (beq_iff_eq.mp (beq_iff_eq.mpr c4))]
      exact ⟨rfl, ArenaP.sh (S := { S with cells := S.cells.set i.toNat y }.note 2 i x y true) (((h.pick 2).pick 1).pick 2) (by first | rfl | (simp only [List.length_append, List.length_replicate, List.length_set]; omega)) (by first | rfl | simp [ASt.note]) (by first | rfl | simp [ASt.note])⟩
    ·
      refine cond_f hr (b := ((at_ S.cells ((i).toNat)) == x)) (by kernel_rfl) (beq_eq_false_iff_ne.mpr c4) ?_
      refine wp_skip ?_
      refine then_normal ?_
      refine wp_seq ?_
      refine wp_region_lit ?_
      refine op_val (wn rfl) rfl rfl hr (v := .pointer (some ⟨A, 0, none⟩)) (by kernel_rfl) ?_; clear hr a; intro a hr
      refine op_val (wn rfl) rfl rfl hr (v := .int .i64 i) (by kernel_rfl) ?_; clear hr a; intro a hr
      refine op_val (wn rfl) rfl rfl hr (v := .int .i64 x) (by kernel_rfl) ?_; clear hr a; intro a hr
      refine op_val (wn rfl) rfl rfl hr (v := .int .i64 y) (by kernel_rfl) ?_; clear hr a; intro a hr
      refine op_val (wn rfl) rfl rfl hr (v := .bool ((at_ S.cells ((i).toNat)) == x)) (by kernel_rfl) ?_; clear hr a; intro a hr
      refine op_call (wn rfl) rfl rfl hr (f := 64) (args := #[.pointer (some ⟨A, 0, none⟩), .int .i64 2, .int .i64 i, .int .i64 x, .int .i64 y, .bool ((at_ S.cells ((i).toNat)) == x)]) (by kernel_rfl) (note_spec (hl := (by omega)) (h := ((h.pick 2).pick 2))) ?_; clear h
      rintro _ w ⟨la7, lc8, rfl, h⟩; refine ⟨_, rfl, ?_⟩
      clear hr a; intro a hr
      have h : Fit z (sepL (pts A (.cells #[.int .i64 S.size, .int .i64 ((S.cells.length : Nat) : Int), .slice ca S.cells.length cc, .slice la7 ((logn S.on S.log ⟨S.actor, 2, i, x, y, ((at_ S.cells ((i).toNat)) == x)⟩).length) lc8, .int .i64 S.actor, .bool S.on] 96) :: rowOf 90 6 encAcc (.slice la7 ((logn S.on S.log ⟨S.actor, 2, i, x, y, ((at_ S.cells ((i).toNat)) == x)⟩).length) lc8) (logn S.on S.log ⟨S.actor, 2, i, x, y, ((at_ S.cells ((i).toNat)) == x)⟩) :: slc 2 1 encI g2 cc S.cells :: L)) _ := h
      refine wpList_nil ?_
      refine then_normal ?_
      refine wp_seq ?_
      refine wp_region_lit ?_
      refine op_val (wn rfl) rfl rfl hr (v := .bool ((at_ S.cells ((i).toNat)) == x)) (by kernel_rfl) ?_; clear hr a; intro a hr
      refine op_val (wn rfl) rfl rfl hr (v := .bool ((at_ S.cells ((i).toNat)) == x)) (by kernel_rfl) ?_; clear hr a; intro a hr
      refine op_val (wn rfl) rfl rfl hr (v := .int .i64 0) (by kernel_rfl) ?_; clear hr a; intro a hr
      refine wpList_nil ?_
      refine then_normal ?_
      refine wp_ret ?_
      refine end_ret2 (v := .bool ((at_ S.cells ((i).toNat)) == x)) (v' := .int .i64 0) rfl hr (by kernel_rfl) (by kernel_rfl) ?_
      have h : Fit z (sepL (rowOf 2 1 encI (.slice ca S.cells.length cc) S.cells :: pts A (.cells #[.int .i64 S.size, .int .i64 ((S.cells.length : Nat) : Int), .slice ca S.cells.length cc, .slice la7 ((logn S.on S.log ⟨S.actor, 2, i, x, y, ((at_ S.cells ((i).toNat)) == x)⟩).length) lc8, .int .i64 S.actor, .bool S.on] 96) :: rowOf 90 6 encAcc (.slice la7 ((logn S.on S.log ⟨S.actor, 2, i, x, y, ((at_ S.cells ((i).toNat)) == x)⟩).length) lc8) (logn S.on S.log ⟨S.actor, 2, i, x, y, ((at_ S.cells ((i).toNat)) == x)⟩) :: L)) _ := Fit.unrow_e ge3 (by simp) (h.pick 2)
      (try rw [(beq_eq_false_iff_ne.mpr c4)] at h); (try rw [(beq_eq_false_iff_ne.mpr c4)])
      rw [ASt.cas_miss c1 (beq_eq_false_iff_ne.mp (beq_eq_false_iff_ne.mpr c4))]
      exact ⟨rfl, ArenaP.sh (S := S.note 2 i x y false) (((h.pick 2).pick 1).pick 2) (by first | rfl | (simp only [List.length_append, List.length_replicate, List.length_set]; omega)) (by first | rfl | simp [ASt.note]) (by first | rfl | simp [ASt.note])⟩
  ·
    refine cond_t hr (b := (!(inbB ((S.cells.length : Nat) : Int) i))) (by kernel_rfl) (by rw [c1]; rfl) ?_
    refine wp_seq ?_
    refine wp_region_lit ?_
    refine op_val (wn rfl) rfl rfl hr (v := .bool false) (by kernel_rfl) ?_; clear hr a; intro a hr
    refine op_val (wn rfl) rfl rfl hr (v := .int .i64 20) (by kernel_rfl) ?_; clear hr a; intro a hr
    refine wpList_nil ?_
    refine then_normal ?_
    refine wp_ret ?_
    refine then_ret ?_
    refine end_ret2 (v := .bool false) (v' := .int .i64 20) rfl hr (by kernel_rfl) (by kernel_rfl) ?_
    rw [ASt.cas_out c1]
    exact ⟨rfl, ArenaP.sh (S := S) (((h.pick 2).pick 2).pick 2) (by first | rfl | (simp only [List.length_append, List.length_replicate, List.length_set]; omega)) (by first | rfl | simp [ASt.note]) (by first | rfl | simp [ASt.note])⟩

set_option maxRecDepth 100000 in
set_option maxHeartbeats 4000000 in
/-- (*plunder/cells.Arena).Add -/
theorem add_spec {z w : World} {L : List HProp} {A : Nat} {S : ASt} {i d : Int} (hl : S.log.length < 1099511627776) (hs : S.cells.length ≤ 1048576) (h : Fit z (sepL (ArenaP A S :: L)) w) :
    Calls Try.prog 68 #[.pointer (some ⟨A, 0, none⟩), .int .i64 i, .int .i64 d] w fun e w => e = .returned (.tuple #[.int .i64 ((S.add i d).1.1), .int .i64 ((S.add i d).1.2)]) ∧ Fit z (sepL (ArenaP A ((S.add i d).2) :: L)) w := by
  obtain ⟨ca, cc, la, lc, h⟩ := ArenaP.op h
  have h : Fit z (sepL (pts A (.cells #[.int .i64 S.size, .int .i64 ((S.cells.length : Nat) : Int), .slice ca S.cells.length cc, .slice la S.log.length lc, .int .i64 S.actor, .bool S.on] 96) :: rowOf 2 1 encI (.slice ca S.cells.length cc) S.cells :: rowOf 90 6 encAcc (.slice la S.log.length lc) S.log :: L)) _ := h
  refine enter Try.func68 rfl 39 rfl rfl [(0, .pointer (some ⟨A, 0, none⟩)), (1, .int .i64 i), (2, .int .i64 d)] ⟨by kernel_rfl, by kernel_rfl, by kernel_rfl, trivial⟩ ?_
  intro j a hr
  refine wp_seq ?_
  refine wp_region_lit ?_
  refine op_val (wn rfl) rfl rfl hr (v := .int .i64 0) (by kernel_rfl) ?_; clear hr a; intro a hr
  refine op_val (wn rfl) rfl rfl hr (v := .int .i64 0) (by kernel_rfl) ?_; clear hr a; intro a hr
  refine wpList_nil ?_
  refine then_normal ?_
  refine wp_seq ?_
  refine wp_seq ?_
  refine wp_region_lit ?_
  refine op_val (wn rfl) rfl rfl hr (v := .pointer (some ⟨A, 0, none⟩)) (by kernel_rfl) ?_; clear hr a; intro a hr
  refine op_val (wn rfl) rfl rfl hr (v := .int .i64 i) (by kernel_rfl) ?_; clear hr a; intro a hr
  refine op_call (wn rfl) rfl rfl hr (f := 65) (args := #[.pointer (some ⟨A, 0, none⟩), .int .i64 i]) (by kernel_rfl) (outside_spec  (h := h)) ?_; clear h
  rintro _ w ⟨rfl, h⟩; refine ⟨_, rfl, ?_⟩
  clear hr a; intro a hr
  have h : Fit z (sepL (pts A (.cells #[.int .i64 S.size, .int .i64 ((S.cells.length : Nat) : Int), .slice ca S.cells.length cc, .slice la S.log.length lc, .int .i64 S.actor, .bool S.on] 96) :: rowOf 2 1 encI (.slice ca S.cells.length cc) S.cells :: rowOf 90 6 encAcc (.slice la S.log.length lc) S.log :: L)) _ := h
  refine wpList_nil ?_
  refine then_normal ?_
  rcases Bool.eq_false_or_eq_true (inbB ((S.cells.length : Nat) : Int) i) with c1 | c1
  ·
    have ⟨hb0, hb1⟩ := inbB_true c1
    refine cond_f hr (b := (!(inbB ((S.cells.length : Nat) : Int) i))) (by kernel_rfl) (by rw [c1]; rfl) ?_
    refine wp_skip ?_
    refine then_normal ?_
    refine wp_seq ?_
    refine wp_region_lit ?_
    refine op_val (wn rfl) rfl rfl hr (v := .pointer (some ⟨A, 0, none⟩)) (by kernel_rfl) ?_; clear hr a; intro a hr
    refine op_val (wn rfl) rfl rfl hr (v := .pointer (some ⟨A, 0, none⟩)) (by kernel_rfl) ?_; clear hr a; intro a hr
    refine op_val (wn rfl) rfl rfl hr (v := .pointer (some ⟨A, 2, none⟩)) (by kernel_rfl) ?_; clear hr a; intro a hr
    refine op_val (wn rfl) rfl rfl hr (v := .slice ca S.cells.length cc) (rl rfl (by kernel_rfl) (by kernel_rfl) (h.cell 2 rfl)) ?_; clear hr a; intro a hr
    refine op_val (wn rfl) rfl rfl hr (v := .int .i64 i) (by kernel_rfl) ?_; clear hr a; intro a hr
    obtain ⟨g2, ge3, h⟩ := (h.pick 1).row_blk (by omega)
    have h : Fit z (sepL (slc 2 1 encI g2 cc S.cells :: pts A (.cells #[.int .i64 S.size, .int .i64 ((S.cells.length : Nat) : Int), .slice ca S.cells.length cc, .slice la S.log.length lc, .int .i64 S.actor, .bool S.on] 96) :: rowOf 90 6 encAcc (.slice la S.log.length lc) S.log :: L)) _ := h
    refine op_val (wn rfl) rfl rfl hr (v := .pointer (some ⟨g2, ((i).toNat) * 1, none⟩)) (ri0e (k := .i64) (g := g2) (len := S.cells.length) (cap := cc) ge3 (i := i) (E := 2) (sz := 1) rfl (by kernel_rfl) (by kernel_rfl) (by kernel_rfl) (by kernel_rfl) (by omega) (by omega)) ?_; clear hr a; intro a hr
    refine op_val (wn rfl) rfl rfl hr (v := .int .i64 (at_ S.cells ((i).toNat))) (rl rfl (by kernel_rfl) (by kernel_rfl) (h.slc_get encI_ok ((i).toNat) 0 (at_ S.cells ((i).toNat)) _ (get_at (by (try simp only [List.length_set, List.length_append, List.length_replicate]); omega)) rfl)) ?_; clear hr a; intro a hr
    refine op_val (wn rfl) rfl rfl hr (v := .int .i64 d) (by kernel_rfl) ?_; clear hr a; intro a hr
    refine op_val (wn rfl) rfl rfl hr (v := .int .i64 (IntKind.i64.wrap ((at_ S.cells ((i).toNat)) + d))) (by kernel_rfl) ?_; clear hr a; intro a hr
    refine op_val (wn rfl) rfl rfl hr (v := .pointer (some ⟨g2, ((i).toNat) * 1, none⟩)) (ri0e (k := .i64) (g := g2) (len := S.cells.length) (cap := cc) ge3 (i := i) (E := 2) (sz := 1) rfl (by kernel_rfl) (by kernel_rfl) (by kernel_rfl) (by kernel_rfl) (by omega) (by omega)) ?_; clear hr a; intro a hr
    refine op_store_slc (wn rfl) rfl hr rfl (by kernel_rfl) (by kernel_rfl) (v := .int .i64 (IntKind.i64.wrap ((at_ S.cells ((i).toNat)) + d))) rfl rfl (by kernel_rfl) encI_ok h (i := ((i).toNat)) (f := 0) (p := at_ S.cells ((i).toNat)) (q := IntKind.i64.wrap ((at_ S.cells ((i).toNat)) + d)) (get_at (by (try simp only [List.length_set, List.length_append, List.length_replicate]); omega)) (by decide) rfl ?_; clear h; intro w h
    have h : Fit z (sepL (slc 2 1 encI g2 cc (S.cells.set ((i).toNat) (IntKind.i64.wrap ((at_ S.cells ((i).toNat)) + d))) :: pts A (.cells #[.int .i64 S.size, .int .i64 ((S.cells.length : Nat) : Int), .slice ca S.cells.length cc, .slice la S.log.length lc, .int .i64 S.actor, .bool S.on] 96) :: rowOf 90 6 encAcc (.slice la S.log.length lc) S.log :: L)) _ := h
    refine wpList_nil ?_
    refine then_normal ?_
    refine wp_seq ?_
    refine wp_region_lit ?_
    refine op_val (wn rfl) rfl rfl hr (v := .pointer (some ⟨A, 0, none⟩)) (by kernel_rfl) ?_; clear hr a; intro a hr
    refine op_val (wn rfl) rfl rfl hr (v := .int .i64 i) (by kernel_rfl) ?_; clear hr a; intro a hr
    refine op_val (wn rfl) rfl rfl hr (v := .int .i64 d) (by kernel_rfl) ?_; clear hr a; intro a hr
    refine op_val (wn rfl) rfl rfl hr (v := .pointer (some ⟨A, 0, none⟩)) (by kernel_rfl) ?_; clear hr a; intro a hr
    refine op_val (wn rfl) rfl rfl hr (v := .pointer (some ⟨A, 0, none⟩)) (by kernel_rfl) ?_; clear hr a; intro a hr
    refine op_val (wn rfl) rfl rfl hr (v := .pointer (some ⟨A, 2, none⟩)) (by kernel_rfl) ?_; clear hr a; intro a hr
    refine op_val (wn rfl) rfl rfl hr (v := .slice ca S.cells.length cc) (rl rfl (by kernel_rfl) (by kernel_rfl) ((h.pick 1).cell 2 rfl)) ?_; clear hr a; intro a hr
    refine op_val (wn rfl) rfl rfl hr (v := .int .i64 i) (by kernel_rfl) ?_; clear hr a; intro a hr
    refine op_val (wn rfl) rfl rfl hr (v := .pointer (some ⟨g2, ((i).toNat) * 1, none⟩)) (ri0e (k := .i64) (g := g2) (len := S.cells.length) (cap := cc) ge3 (i := i) (E := 2) (sz := 1) rfl (by kernel_rfl) (by kernel_rfl) (by kernel_rfl) (by kernel_rfl) (by omega) (by omega)) ?_; clear hr a; intro a hr
    refine op_val (wn rfl) rfl rfl hr (v := .int .i64 (IntKind.i64.wrap ((at_ S.cells ((i).toNat)) + d))) (rl rfl (by kernel_rfl) (by kernel_rfl) (h.slc_get encI_ok ((i).toNat) 0 (IntKind.i64.wrap ((at_ S.cells ((i).toNat)) + d)) _ (get_set (by (try simp only [List.length_set, List.length_append, List.length_replicate]); omega)) rfl)) ?_; clear hr a; intro a hr
    refine op_call (wn rfl) rfl rfl hr (f := 64) (args := #[.pointer (some ⟨A, 0, none⟩), .int .i64 3, .int .i64 i, .int .i64 d, .int .i64 (IntKind.i64.wrap ((at_ S.cells ((i).toNat)) + d)), .bool true]) (by kernel_rfl) (note_spec (hl := (by omega)) (h := ((h.pick 2).pick 2))) ?_; clear h
    rintro _ w ⟨la4, lc5, rfl, h⟩; refine ⟨_, rfl, ?_⟩
    clear hr a; intro a hr
    have h : Fit z (sepL (pts A (.cells #[.int .i64 S.size, .int .i64 ((S.cells.length : Nat) : Int), .slice ca S.cells.length cc, .slice la4 ((logn S.on S.log ⟨S.actor, 3, i, d, (IntKind.i64.wrap ((at_ S.cells ((i).toNat)) + d)), true⟩).length) lc5, .int .i64 S.actor, .bool S.on] 96) :: rowOf 90 6 encAcc (.slice la4 ((logn S.on S.log ⟨S.actor, 3, i, d, (IntKind.i64.wrap ((at_ S.cells ((i).toNat)) + d)), true⟩).length) lc5) (logn S.on S.log ⟨S.actor, 3, i, d, (IntKind.i64.wrap ((at_ S.cells ((i).toNat)) + d)), true⟩) :: slc 2 1 encI g2 cc (S.cells.set ((i).toNat) (IntKind.i64.wrap ((at_ S.cells ((i).toNat)) + d))) :: L)) _ := h
    refine wpList_nil ?_
    refine then_normal ?_
    refine wp_seq ?_
    refine wp_region_lit ?_
    refine op_val (wn rfl) rfl rfl hr (v := .pointer (some ⟨A, 0, none⟩)) (by kernel_rfl) ?_; clear hr a; intro a hr
    refine op_val (wn rfl) rfl rfl hr (v := .pointer (some ⟨A, 0, none⟩)) (by kernel_rfl) ?_; clear hr a; intro a hr
    refine op_val (wn rfl) rfl rfl hr (v := .pointer (some ⟨A, 2, none⟩)) (by kernel_rfl) ?_; clear hr a; intro a hr
    refine op_val (wn rfl) rfl rfl hr (v := .slice ca S.cells.length cc) (rl rfl (by kernel_rfl) (by kernel_rfl) (h.cell 2 rfl)) ?_; clear hr a; intro a hr
    refine op_val (wn rfl) rfl rfl hr (v := .int .i64 i) (by kernel_rfl) ?_; clear hr a; intro a hr
    refine op_val (wn rfl) rfl rfl hr (v := .pointer (some ⟨g2, ((i).toNat) * 1, none⟩)) (ri0e (k := .i64) (g := g2) (len := S.cells.length) (cap := cc) ge3 (i := i) (E := 2) (sz := 1) rfl (by kernel_rfl) (by kernel_rfl) (by kernel_rfl) (by kernel_rfl) (by omega) (by omega)) ?_; clear hr a; intro a hr
    refine op_val (wn rfl) rfl rfl hr (v := .int .i64 (IntKind.i64.wrap ((at_ S.cells ((i).toNat)) + d))) (rl rfl (by kernel_rfl) (by kernel_rfl) ((h.pick 2).slc_get encI_ok ((i).toNat) 0 (IntKind.i64.wrap ((at_ S.cells ((i).toNat)) + d)) _ (get_set (by (try simp only [List.length_set, List.length_append, List.length_replicate]); omega)) rfl)) ?_; clear hr a; intro a hr
    refine op_val (wn rfl) rfl rfl hr (v := .int .i64 (IntKind.i64.wrap ((at_ S.cells ((i).toNat)) + d))) (by kernel_rfl) ?_; clear hr a; intro a hr
    refine op_val (wn rfl) rfl rfl hr (v := .int .i64 0) (by kernel_rfl) ?_; clear hr a; intro a hr
    refine wpList_nil ?_
    refine then_normal ?_
    refine wp_ret ?_
    refine end_ret2 (v := .int .i64 (IntKind.i64.wrap ((at_ S.cells ((i).toNat)) + d))) (v' := .int .i64 0) rfl hr (by kernel_rfl) (by kernel_rfl) ?_
    have h : Fit z (sepL (rowOf 2 1 encI (.slice ca S.cells.length cc) (S.cells.set ((i).toNat) (IntKind.i64.wrap ((at_ S.cells ((i).toNat)) + d))) :: pts A (.cells #[.int .i64 S.size, .int .i64 ((S.cells.length : Nat) : Int), .slice ca S.cells.length cc, .slice la4 ((logn S.on S.log ⟨S.actor, 3, i, d, (IntKind.i64.wrap ((at_ S.cells ((i).toNat)) + d)), true⟩).length) lc5, .int .i64 S.actor, .bool S.on] 96) :: rowOf 90 6 encAcc (.slice la4 ((logn S.on S.log ⟨S.actor, 3, i, d, (IntKind.i64.wrap ((at_ S.cells ((i).toNat)) + d)), true⟩).length) lc5) (logn S.on S.log ⟨S.actor, 3, i, d, (IntKind.i64.wrap ((at_ S.cells ((i).toNat)) + d)), true⟩) :: L)) _ := Fit.unrow_e ge3 (by simp) (h.pick 2)
    rw [ASt.add_in c1]
    exact ⟨rfl, ArenaP.sh (S := { S with cells := S.cells.set i.toNat (IntKind.i64.wrap (at_ S.cells i.toNat + d)) }.note 3 i d (IntKind.i64.wrap (at_ S.cells i.toNat + d)) true) (((h.pick 2).pick 1).pick 2) (by first | rfl | (simp only [List.length_append, List.length_replicate, List.length_set]; omega)) (by first | rfl | simp [ASt.note]) (by first | rfl | simp [ASt.note])⟩
  ·
    refine cond_t hr (b := (!(inbB ((S.cells.length : Nat) : Int) i))) (by kernel_rfl) (by rw [c1]; rfl) ?_
    refine wp_seq ?_
    refine wp_region_lit ?_
    refine op_val (wn rfl) rfl rfl hr (v := .int .i64 0) (by kernel_rfl) ?_; clear hr a; intro a hr
    refine op_val (wn rfl) rfl rfl hr (v := .int .i64 20) (by kernel_rfl) ?_; clear hr a; intro a hr
    refine wpList_nil ?_
    refine then_normal ?_
    refine wp_ret ?_
    refine then_ret ?_
    refine end_ret2 (v := .int .i64 0) (v' := .int .i64 20) rfl hr (by kernel_rfl) (by kernel_rfl) ?_
    rw [ASt.add_out c1]
    exact ⟨rfl, ArenaP.sh (S := S) (((h.pick 2).pick 2).pick 2) (by first | rfl | (simp only [List.length_append, List.length_replicate, List.length_set]; omega)) (by first | rfl | simp [ASt.note]) (by first | rfl | simp [ASt.note])⟩

set_option maxRecDepth 100000 in
set_option maxHeartbeats 4000000 in
/-- (*plunder/cells.Arena).Reserve -/
theorem reserve_count {z w : World} {L : List HProp} {A : Nat} {S : ASt} {n : Int} (hl : S.log.length < 1099511627776) (hs : S.cells.length ≤ 1048576) (hz : S.size ≤ 1048576) (hz0 : ((S.cells.length : Nat) : Int) ≤ S.size) (h1 : n < 1) (h : Fit z (sepL (ArenaP A S :: L)) w) :
    Calls Try.prog 20 #[.pointer (some ⟨A, 0, none⟩), .int .i64 n] w fun e w => e = .returned (.tuple #[.int .i64 0, .int .i64 21]) ∧ Fit z (sepL (ArenaP A S :: L)) w := by
  obtain ⟨ca, cc, la, lc, h⟩ := ArenaP.op h
  have h : Fit z (sepL (pts A (.cells #[.int .i64 S.size, .int .i64 ((S.cells.length : Nat) : Int), .slice ca S.cells.length cc, .slice la S.log.length lc, .int .i64 S.actor, .bool S.on] 96) :: rowOf 2 1 encI (.slice ca S.cells.length cc) S.cells :: rowOf 90 6 encAcc (.slice la S.log.length lc) S.log :: L)) _ := h
  refine enter Try.func20 rfl 37 rfl rfl [(0, .pointer (some ⟨A, 0, none⟩)), (1, .int .i64 n)] ⟨by kernel_rfl, by kernel_rfl, trivial⟩ ?_
  intro j a hr
  refine wp_seq ?_
  refine wp_region_lit ?_
  refine op_val (wn rfl) rfl rfl hr (v := .int .i64 0) (by kernel_rfl) ?_; clear hr a; intro a hr
  refine op_val (wn rfl) rfl rfl hr (v := .int .i64 0) (by kernel_rfl) ?_; clear hr a; intro a hr
  refine wpList_nil ?_
  refine then_normal ?_
  refine wp_seq ?_
  refine wp_region_lit ?_
  refine op_val (wn rfl) rfl rfl hr (v := .pointer none) (by kernel_rfl) ?_; clear hr a; intro a hr
  refine wpList_nil ?_
  refine then_normal ?_
  refine wp_seq ?_
  refine wp_seq ?_
  refine wp_region_lit ?_
  refine op_val (wn rfl) rfl rfl hr (v := .pointer (some ⟨A, 0, none⟩)) (by kernel_rfl) ?_; clear hr a; intro a hr
  refine op_val (wn rfl) rfl rfl hr (v := .bool true) (by kernel_rfl) ?_; clear hr a; intro a hr
  refine wpList_nil ?_
  refine then_normal ?_
  refine cond_t hr (b := true) (by kernel_rfl) rfl ?_
  refine wp_region_lit ?_
  refine op_val (wn rfl) rfl rfl hr (v := .pointer (some ⟨A, 0, none⟩)) (by kernel_rfl) ?_; clear hr a; intro a hr
  refine op_val (wn rfl) rfl rfl hr (v := .pointer (some ⟨A, 0, none⟩)) (by kernel_rfl) ?_; clear hr a; intro a hr
  refine op_val (wn rfl) rfl rfl hr (v := .pointer (some ⟨A, 0, none⟩)) (by kernel_rfl) ?_; clear hr a; intro a hr
  refine op_val (wn rfl) rfl rfl hr (v := .pointer (some ⟨A, 0, none⟩)) (by kernel_rfl) ?_; clear hr a; intro a hr
  refine wpList_nil ?_
  refine then_normal ?_
  refine wp_seq ?_
  refine wp_seq ?_
  refine wp_region_lit ?_
  refine op_val (wn rfl) rfl rfl hr (v := .pointer (some ⟨A, 0, none⟩)) (by kernel_rfl) ?_; clear hr a; intro a hr
  refine op_val (wn rfl) rfl rfl hr (v := .int .i64 n) (by kernel_rfl) ?_; clear hr a; intro a hr
  refine op_call (wn rfl) rfl rfl hr (f := 62) (args := #[.pointer (some ⟨A, 0, none⟩), .int .i64 n]) (by kernel_rfl) (refuse_count (hn := (by omega)) (h := h)) ?_; clear h
  rintro _ w ⟨rfl, h⟩; refine ⟨_, rfl, ?_⟩
  clear hr a; intro a hr
  have h : Fit z (sepL (pts A (.cells #[.int .i64 S.size, .int .i64 ((S.cells.length : Nat) : Int), .slice ca S.cells.length cc, .slice la S.log.length lc, .int .i64 S.actor, .bool S.on] 96) :: rowOf 2 1 encI (.slice ca S.cells.length cc) S.cells :: rowOf 90 6 encAcc (.slice la S.log.length lc) S.log :: L)) _ := h
  refine op_val (wn rfl) rfl rfl hr (v := .int .i64 21) (by kernel_rfl) ?_; clear hr a; intro a hr
  refine wpList_nil ?_
  refine then_normal ?_
  refine wp_seq ?_
  refine wp_region_lit ?_
  refine op_val (wn rfl) rfl rfl hr (v := .int .i64 21) (by kernel_rfl) ?_; clear hr a; intro a hr
  refine op_val (wn rfl) rfl rfl hr (v := .bool true) (by kernel_rfl) ?_; clear hr a; intro a hr
  refine wpList_nil ?_
  refine then_normal ?_
  refine cond_t hr (b := true) (by kernel_rfl) rfl ?_
  refine wp_seq ?_
  refine wp_region_lit ?_
  refine op_val (wn rfl) rfl rfl hr (v := .int .i64 21) (by kernel_rfl) ?_; clear hr a; intro a hr
  refine op_val (wn rfl) rfl rfl hr (v := .int .i64 0) (by kernel_rfl) ?_; clear hr a; intro a hr
  refine op_val (wn rfl) rfl rfl hr (v := .int .i64 21) (by kernel_rfl) ?_; clear hr a; intro a hr
  refine wpList_nil ?_
  refine then_normal ?_
  refine wp_ret ?_
  refine then_ret ?_
  refine end_ret2 (v := .int .i64 0) (v' := .int .i64 21) rfl hr (by kernel_rfl) (by kernel_rfl) ?_
  exact ⟨rfl, ArenaP.sh (S := S) (((h.pick 2).pick 2).pick 2) (by first | rfl | (simp only [List.length_append, List.length_replicate, List.length_set]; omega)) (by first | rfl | simp [ASt.note]) (by first | rfl | simp [ASt.note])⟩

set_option maxRecDepth 100000 in
set_option maxHeartbeats 4000000 in
/-- (*plunder/cells.Arena).Reserve -/
theorem reserve_room {z w : World} {L : List HProp} {A : Nat} {S : ASt} {n : Int} (hl : S.log.length < 1099511627776) (hs : S.cells.length ≤ 1048576) (hz : S.size ≤ 1048576) (hz0 : ((S.cells.length : Nat) : Int) ≤ S.size) (h1 : ¬ n < 1) (h2 : n > S.size - ((S.cells.length : Nat) : Int)) (h : Fit z (sepL (ArenaP A S :: L)) w) :
    Calls Try.prog 20 #[.pointer (some ⟨A, 0, none⟩), .int .i64 n] w fun e w => e = .returned (.tuple #[.int .i64 0, .int .i64 22]) ∧ Fit z (sepL (ArenaP A S :: L)) w := by
  obtain ⟨ca, cc, la, lc, h⟩ := ArenaP.op h
  have h : Fit z (sepL (pts A (.cells #[.int .i64 S.size, .int .i64 ((S.cells.length : Nat) : Int), .slice ca S.cells.length cc, .slice la S.log.length lc, .int .i64 S.actor, .bool S.on] 96) :: rowOf 2 1 encI (.slice ca S.cells.length cc) S.cells :: rowOf 90 6 encAcc (.slice la S.log.length lc) S.log :: L)) _ := h
  refine enter Try.func20 rfl 37 rfl rfl [(0, .pointer (some ⟨A, 0, none⟩)), (1, .int .i64 n)] ⟨by kernel_rfl, by kernel_rfl, trivial⟩ ?_
  intro j a hr
  refine wp_seq ?_
  refine wp_region_lit ?_
  refine op_val (wn rfl) rfl rfl hr (v := .int .i64 0) (by kernel_rfl) ?_; clear hr a; intro a hr
  refine op_val (wn rfl) rfl rfl hr (v := .int .i64 0) (by kernel_rfl) ?_; clear hr a; intro a hr
  refine wpList_nil ?_
  refine then_normal ?_
  refine wp_seq ?_
  refine wp_region_lit ?_
  refine op_val (wn rfl) rfl rfl hr (v := .pointer none) (by kernel_rfl) ?_; clear hr a; intro a hr
  refine wpList_nil ?_
  refine then_normal ?_
  refine wp_seq ?_
  refine wp_seq ?_
  refine wp_region_lit ?_
  refine op_val (wn rfl) rfl rfl hr (v := .pointer (some ⟨A, 0, none⟩)) (by kernel_rfl) ?_; clear hr a; intro a hr
  refine op_val (wn rfl) rfl rfl hr (v := .bool true) (by kernel_rfl) ?_; clear hr a; intro a hr
  refine wpList_nil ?_
  refine then_normal ?_
  refine cond_t hr (b := true) (by kernel_rfl) rfl ?_
  refine wp_region_lit ?_
  refine op_val (wn rfl) rfl rfl hr (v := .pointer (some ⟨A, 0, none⟩)) (by kernel_rfl) ?_; clear hr a; intro a hr
  refine op_val (wn rfl) rfl rfl hr (v := .pointer (some ⟨A, 0, none⟩)) (by kernel_rfl) ?_; clear hr a; intro a hr
  refine op_val (wn rfl) rfl rfl hr (v := .pointer (some ⟨A, 0, none⟩)) (by kernel_rfl) ?_; clear hr a; intro a hr
  refine op_val (wn rfl) rfl rfl hr (v := .pointer (some ⟨A, 0, none⟩)) (by kernel_rfl) ?_; clear hr a; intro a hr
  refine wpList_nil ?_
  refine then_normal ?_
  refine wp_seq ?_
  refine wp_seq ?_
  refine wp_region_lit ?_
  refine op_val (wn rfl) rfl rfl hr (v := .pointer (some ⟨A, 0, none⟩)) (by kernel_rfl) ?_; clear hr a; intro a hr
  refine op_val (wn rfl) rfl rfl hr (v := .int .i64 n) (by kernel_rfl) ?_; clear hr a; intro a hr
  refine op_call (wn rfl) rfl rfl hr (f := 62) (args := #[.pointer (some ⟨A, 0, none⟩), .int .i64 n]) (by kernel_rfl) (refuse_room (h0 := (by omega)) (h1 := (by omega)) (h2 := (by omega)) (hn := (by omega)) (hr0 := (by omega)) (h := h)) ?_; clear h
  rintro _ w ⟨rfl, h⟩; refine ⟨_, rfl, ?_⟩
  clear hr a; intro a hr
  have h : Fit z (sepL (pts A (.cells #[.int .i64 S.size, .int .i64 ((S.cells.length : Nat) : Int), .slice ca S.cells.length cc, .slice la S.log.length lc, .int .i64 S.actor, .bool S.on] 96) :: rowOf 2 1 encI (.slice ca S.cells.length cc) S.cells :: rowOf 90 6 encAcc (.slice la S.log.length lc) S.log :: L)) _ := h
  refine op_val (wn rfl) rfl rfl hr (v := .int .i64 22) (by kernel_rfl) ?_; clear hr a; intro a hr
  refine wpList_nil ?_
  refine then_normal ?_
  refine wp_seq ?_
  refine wp_region_lit ?_
  refine op_val (wn rfl) rfl rfl hr (v := .int .i64 22) (by kernel_rfl) ?_; clear hr a; intro a hr
  refine op_val (wn rfl) rfl rfl hr (v := .bool true) (by kernel_rfl) ?_; clear hr a; intro a hr
  refine wpList_nil ?_
  refine then_normal ?_
  refine cond_t hr (b := true) (by kernel_rfl) rfl ?_
  refine wp_seq ?_
  refine wp_region_lit ?_
  refine op_val (wn rfl) rfl rfl hr (v := .int .i64 22) (by kernel_rfl) ?_; clear hr a; intro a hr
  refine op_val (wn rfl) rfl rfl hr (v := .int .i64 0) (by kernel_rfl) ?_; clear hr a; intro a hr
  refine op_val (wn rfl) rfl rfl hr (v := .int .i64 22) (by kernel_rfl) ?_; clear hr a; intro a hr
  refine wpList_nil ?_
  refine then_normal ?_
  refine wp_ret ?_
  refine then_ret ?_
  refine end_ret2 (v := .int .i64 0) (v' := .int .i64 22) rfl hr (by kernel_rfl) (by kernel_rfl) ?_
  exact ⟨rfl, ArenaP.sh (S := S) (((h.pick 2).pick 2).pick 2) (by first | rfl | (simp only [List.length_append, List.length_replicate, List.length_set]; omega)) (by first | rfl | simp [ASt.note]) (by first | rfl | simp [ASt.note])⟩

set_option maxRecDepth 100000 in
set_option maxHeartbeats 4000000 in
/-- (*plunder/cells.Arena).Reserve -/
theorem reserve_ok {z w : World} {L : List HProp} {A : Nat} {S : ASt} {n : Int} (hl : S.log.length < 1099511627776) (hs : S.cells.length ≤ 1048576) (hz : S.size ≤ 1048576) (hz0 : ((S.cells.length : Nat) : Int) ≤ S.size) (h1 : ¬ n < 1) (h2 : ¬ n > S.size - ((S.cells.length : Nat) : Int)) (h : Fit z (sepL (ArenaP A S :: L)) w) :
    Calls Try.prog 20 #[.pointer (some ⟨A, 0, none⟩), .int .i64 n] w fun e w => e = .returned (.tuple #[.int .i64 ((S.cells.length : Nat) : Int), .int .i64 0]) ∧ Fit z (sepL (ArenaP A ({ S with cells := S.cells ++ List.replicate n.toNat 0 }.note 4 ((S.cells.length : Nat) : Int) n 0 true) :: L)) w := by
  obtain ⟨ca, cc, la, lc, h⟩ := ArenaP.op h
  have h : Fit z (sepL (pts A (.cells #[.int .i64 S.size, .int .i64 ((S.cells.length : Nat) : Int), .slice ca S.cells.length cc, .slice la S.log.length lc, .int .i64 S.actor, .bool S.on] 96) :: rowOf 2 1 encI (.slice ca S.cells.length cc) S.cells :: rowOf 90 6 encAcc (.slice la S.log.length lc) S.log :: L)) _ := h
  refine enter Try.func20 rfl 37 rfl rfl [(0, .pointer (some ⟨A, 0, none⟩)), (1, .int .i64 n)] ⟨by kernel_rfl, by kernel_rfl, trivial⟩ ?_
  intro j a hr
  refine wp_seq ?_
  refine wp_region_lit ?_
  refine op_val (wn rfl) rfl rfl hr (v := .int .i64 0) (by kernel_rfl) ?_; clear hr a; intro a hr
  refine op_val (wn rfl) rfl rfl hr (v := .int .i64 0) (by kernel_rfl) ?_; clear hr a; intro a hr
  refine wpList_nil ?_
  refine then_normal ?_
  refine wp_seq ?_
  refine wp_region_lit ?_
  refine op_val (wn rfl) rfl rfl hr (v := .pointer none) (by kernel_rfl) ?_; clear hr a; intro a hr
  refine wpList_nil ?_
  refine then_normal ?_
  refine wp_seq ?_
  refine wp_seq ?_
  refine wp_region_lit ?_
  refine op_val (wn rfl) rfl rfl hr (v := .pointer (some ⟨A, 0, none⟩)) (by kernel_rfl) ?_; clear hr a; intro a hr
  refine op_val (wn rfl) rfl rfl hr (v := .bool true) (by kernel_rfl) ?_; clear hr a; intro a hr
  refine wpList_nil ?_
  refine then_normal ?_
  refine cond_t hr (b := true) (by kernel_rfl) rfl ?_
  refine wp_region_lit ?_
  refine op_val (wn rfl) rfl rfl hr (v := .pointer (some ⟨A, 0, none⟩)) (by kernel_rfl) ?_; clear hr a; intro a hr
  refine op_val (wn rfl) rfl rfl hr (v := .pointer (some ⟨A, 0, none⟩)) (by kernel_rfl) ?_; clear hr a; intro a hr
  refine op_val (wn rfl) rfl rfl hr (v := .pointer (some ⟨A, 0, none⟩)) (by kernel_rfl) ?_; clear hr a; intro a hr
  refine op_val (wn rfl) rfl rfl hr (v := .pointer (some ⟨A, 0, none⟩)) (by kernel_rfl) ?_; clear hr a; intro a hr
  refine wpList_nil ?_
  refine then_normal ?_
  refine wp_seq ?_
  refine wp_seq ?_
  refine wp_region_lit ?_
  refine op_val (wn rfl) rfl rfl hr (v := .pointer (some ⟨A, 0, none⟩)) (by kernel_rfl) ?_; clear hr a; intro a hr
  refine op_val (wn rfl) rfl rfl hr (v := .int .i64 n) (by kernel_rfl) ?_; clear hr a; intro a hr
  refine op_call (wn rfl) rfl rfl hr (f := 62) (args := #[.pointer (some ⟨A, 0, none⟩), .int .i64 n]) (by kernel_rfl) (refuse_ok (h0 := (by omega)) (h1 := (by omega)) (h2 := (by omega)) (hn := (by omega)) (hr0 := (by omega)) (h := h)) ?_; clear h
  rintro _ w ⟨rfl, h⟩; refine ⟨_, rfl, ?_⟩
  clear hr a; intro a hr
  have h : Fit z (sepL (pts A (.cells #[.int .i64 S.size, .int .i64 ((S.cells.length : Nat) : Int), .slice ca S.cells.length cc, .slice la S.log.length lc, .int .i64 S.actor, .bool S.on] 96) :: rowOf 2 1 encI (.slice ca S.cells.length cc) S.cells :: rowOf 90 6 encAcc (.slice la S.log.length lc) S.log :: L)) _ := h
  refine op_val (wn rfl) rfl rfl hr (v := .int .i64 0) (by kernel_rfl) ?_; clear hr a; intro a hr
  refine wpList_nil ?_
  refine then_normal ?_
  refine wp_seq ?_
  refine wp_region_lit ?_
  refine op_val (wn rfl) rfl rfl hr (v := .int .i64 0) (by kernel_rfl) ?_; clear hr a; intro a hr
  refine op_val (wn rfl) rfl rfl hr (v := .bool false) (by kernel_rfl) ?_; clear hr a; intro a hr
  refine wpList_nil ?_
  refine then_normal ?_
  refine cond_f hr (b := false) (by kernel_rfl) rfl ?_
  refine wp_skip ?_
  refine then_normal ?_
  refine wp_seq ?_
  refine wp_region_lit ?_
  refine op_val (wn rfl) rfl rfl hr (v := .pointer (some ⟨A, 0, none⟩)) (by kernel_rfl) ?_; clear hr a; intro a hr
  refine op_val (wn rfl) rfl rfl hr (v := .int .i64 n) (by kernel_rfl) ?_; clear hr a; intro a hr
  refine op_call (wn rfl) rfl rfl hr (f := 63) (args := #[.pointer (some ⟨A, 0, none⟩), .int .i64 n]) (by kernel_rfl) (take_spec (h0 := (by omega)) (h1 := (by omega)) (h2 := (by omega)) (h3 := (by omega)) (h := h)) ?_; clear h
  rintro _ w ⟨rfl, h⟩; refine ⟨_, rfl, ?_⟩
  clear hr a; intro a hr
  have h : Fit z (sepL (pts A (.cells #[.int .i64 S.size, .int .i64 (((S.cells.length : Nat) : Int) + n), .slice ca S.cells.length cc, .slice la S.log.length lc, .int .i64 S.actor, .bool S.on] 96) :: rowOf 2 1 encI (.slice ca S.cells.length cc) S.cells :: rowOf 90 6 encAcc (.slice la S.log.length lc) S.log :: L)) _ := h
  refine op_val (wn rfl) rfl rfl hr (v := .int .i64 ((S.cells.length : Nat) : Int)) (by kernel_rfl) ?_; clear hr a; intro a hr
  refine wpList_nil ?_
  refine then_normal ?_
  refine wp_seq ?_
  refine wp_region_lit ?_
  refine op_val (wn rfl) rfl rfl hr (v := .pointer (some ⟨A, 0, none⟩)) (by kernel_rfl) ?_; clear hr a; intro a hr
  refine op_val (wn rfl) rfl rfl hr (v := .pointer (some ⟨A, 0, none⟩)) (by kernel_rfl) ?_; clear hr a; intro a hr
  refine op_val (wn rfl) rfl rfl hr (v := .pointer (some ⟨A, 0, none⟩)) (by kernel_rfl) ?_; clear hr a; intro a hr
  refine op_val (wn rfl) rfl rfl hr (v := .pointer (some ⟨A, 2, none⟩)) (by kernel_rfl) ?_; clear hr a; intro a hr
  refine op_val (wn rfl) rfl rfl hr (v := .slice ca S.cells.length cc) (rl rfl (by kernel_rfl) (by kernel_rfl) (h.cell 2 rfl)) ?_; clear hr a; intro a hr
  refine op_val (wn rfl) rfl rfl hr (v := .int .i64 n) (by kernel_rfl) ?_; clear hr a; intro a hr
  refine op_extend (kx := .i64) (n0 := S.cells.length) (i := n) (m := (n).toNat) (bytes := 8) (zc := #[.int .i64 0]) ((0 : Int)) (wn rfl) rfl rfl hr rfl (by kernel_rfl) (by kernel_rfl) (by omega) encI_ok (E := 2) (xs := S.cells) (by kernel_rfl) (by kernel_rfl) (by kernel_rfl) rfl (h.pick 1) (by omega) rfl ?_; clear h hr a; intro ca1 cc2 w a h hr
  have h : Fit z (sepL (rowOf 2 1 encI (.slice ca1 ((S.cells ++ List.replicate ((n).toNat) (0 : Int)).length) cc2) (S.cells ++ List.replicate ((n).toNat) (0 : Int)) :: pts A (.cells #[.int .i64 S.size, .int .i64 (((S.cells.length : Nat) : Int) + n), .slice ca S.cells.length cc, .slice la S.log.length lc, .int .i64 S.actor, .bool S.on] 96) :: rowOf 90 6 encAcc (.slice la S.log.length lc) S.log :: L)) _ := h
  refine op_val (wn rfl) rfl rfl hr (v := .pointer (some ⟨A, 0, none⟩)) (by kernel_rfl) ?_; clear hr a; intro a hr
  refine op_val (wn rfl) rfl rfl hr (v := .pointer (some ⟨A, 2, none⟩)) (by kernel_rfl) ?_; clear hr a; intro a hr
  refine op_store (wn rfl) rfl hr rfl (by kernel_rfl) (by kernel_rfl) (v := .slice ca1 ((S.cells ++ List.replicate ((n).toNat) (0 : Int)).length) cc2) rfl rfl (by kernel_rfl) (h.pick 1) (i := 2) rfl ?_; clear h; intro w h
  have h : Fit z (sepL (pts A (.cells #[.int .i64 S.size, .int .i64 (((S.cells.length : Nat) : Int) + n), .slice ca1 ((S.cells ++ List.replicate ((n).toNat) (0 : Int)).length) cc2, .slice la S.log.length lc, .int .i64 S.actor, .bool S.on] 96) :: rowOf 2 1 encI (.slice ca1 ((S.cells ++ List.replicate ((n).toNat) (0 : Int)).length) cc2) (S.cells ++ List.replicate ((n).toNat) (0 : Int)) :: rowOf 90 6 encAcc (.slice la S.log.length lc) S.log :: L)) _ := h
  refine wpList_nil ?_
  refine then_normal ?_
  refine wp_seq ?_
  refine wp_region_lit ?_
  refine op_val (wn rfl) rfl rfl hr (v := .pointer (some ⟨A, 0, none⟩)) (by kernel_rfl) ?_; clear hr a; intro a hr
  refine op_val (wn rfl) rfl rfl hr (v := .int .i64 ((S.cells.length : Nat) : Int)) (by kernel_rfl) ?_; clear hr a; intro a hr
  refine op_val (wn rfl) rfl rfl hr (v := .int .i64 n) (by kernel_rfl) ?_; clear hr a; intro a hr
  refine op_call (wn rfl) rfl rfl hr (f := 64) (args := #[.pointer (some ⟨A, 0, none⟩), .int .i64 4, .int .i64 ((S.cells.length : Nat) : Int), .int .i64 n, .int .i64 0, .bool true]) (by kernel_rfl) (note_spec (hl := (by omega)) (h := ((h.pick 2).pick 1))) ?_; clear h
  rintro _ w ⟨la3, lc4, rfl, h⟩; refine ⟨_, rfl, ?_⟩
  clear hr a; intro a hr
  have h : Fit z (sepL (pts A (.cells #[.int .i64 S.size, .int .i64 (((S.cells.length : Nat) : Int) + n), .slice ca1 ((S.cells ++ List.replicate ((n).toNat) (0 : Int)).length) cc2, .slice la3 ((logn S.on S.log ⟨S.actor, 4, ((S.cells.length : Nat) : Int), n, 0, true⟩).length) lc4, .int .i64 S.actor, .bool S.on] 96) :: rowOf 90 6 encAcc (.slice la3 ((logn S.on S.log ⟨S.actor, 4, ((S.cells.length : Nat) : Int), n, 0, true⟩).length) lc4) (logn S.on S.log ⟨S.actor, 4, ((S.cells.length : Nat) : Int), n, 0, true⟩) :: rowOf 2 1 encI (.slice ca1 ((S.cells ++ List.replicate ((n).toNat) (0 : Int)).length) cc2) (S.cells ++ List.replicate ((n).toNat) (0 : Int)) :: L)) _ := h
  refine wpList_nil ?_
  refine then_normal ?_
  refine wp_seq ?_
  refine wp_region_lit ?_
  refine op_val (wn rfl) rfl rfl hr (v := .int .i64 ((S.cells.length : Nat) : Int)) (by kernel_rfl) ?_; clear hr a; intro a hr
  refine op_val (wn rfl) rfl rfl hr (v := .int .i64 ((S.cells.length : Nat) : Int)) (by kernel_rfl) ?_; clear hr a; intro a hr
  refine op_val (wn rfl) rfl rfl hr (v := .int .i64 0) (by kernel_rfl) ?_; clear hr a; intro a hr
  refine wpList_nil ?_
  refine then_normal ?_
  refine wp_ret ?_
  refine end_ret2 (v := .int .i64 ((S.cells.length : Nat) : Int)) (v' := .int .i64 0) rfl hr (by kernel_rfl) (by kernel_rfl) ?_
  exact ⟨rfl, ArenaP.sh (S := ({ S with cells := S.cells ++ List.replicate n.toNat 0 }.note 4 ((S.cells.length : Nat) : Int) n 0 true)) (((h.pick 1).pick 2).pick 2) (by first | rfl | (simp only [List.length_append, List.length_replicate, List.length_set]; omega)) (by first | rfl | simp [ASt.note]) (by first | rfl | simp [ASt.note])⟩

set_option maxRecDepth 100000 in
set_option maxHeartbeats 4000000 in
/-- (*plunder/cells.Arena).Watch -/
theorem watch_spec {z w : World} {L : List HProp} {A : Nat} {S : ASt} {on : Bool}  (h : Fit z (sepL (ArenaP A S :: L)) w) :
    Calls Try.prog 88 #[.pointer (some ⟨A, 0, none⟩), .bool on] w fun e w => e = .returned (.tuple #[]) ∧ Fit z (sepL (ArenaP A ({ S with on := on }) :: L)) w := by
  obtain ⟨ca, cc, la, lc, h⟩ := ArenaP.op h
  have h : Fit z (sepL (pts A (.cells #[.int .i64 S.size, .int .i64 ((S.cells.length : Nat) : Int), .slice ca S.cells.length cc, .slice la S.log.length lc, .int .i64 S.actor, .bool S.on] 96) :: rowOf 2 1 encI (.slice ca S.cells.length cc) S.cells :: rowOf 90 6 encAcc (.slice la S.log.length lc) S.log :: L)) _ := h
  refine enter Try.func88 rfl 10 rfl rfl [(0, .pointer (some ⟨A, 0, none⟩)), (1, .bool on)] ⟨by kernel_rfl, by kernel_rfl, trivial⟩ ?_
  intro j a hr
  refine wp_seq ?_
  refine wp_region_lit ?_
  refine op_val (wn rfl) rfl rfl hr (v := .pointer (some ⟨A, 0, none⟩)) (by kernel_rfl) ?_; clear hr a; intro a hr
  refine op_val (wn rfl) rfl rfl hr (v := .bool true) (by kernel_rfl) ?_; clear hr a; intro a hr
  refine wpList_nil ?_
  refine then_normal ?_
  refine cond_t hr (b := true) (by kernel_rfl) rfl ?_
  refine wp_region_lit ?_
  refine op_val (wn rfl) rfl rfl hr (v := .pointer (some ⟨A, 0, none⟩)) (by kernel_rfl) ?_; clear hr a; intro a hr
  refine op_val (wn rfl) rfl rfl hr (v := .bool on) (by kernel_rfl) ?_; clear hr a; intro a hr
  refine op_val (wn rfl) rfl rfl hr (v := .pointer (some ⟨A, 0, none⟩)) (by kernel_rfl) ?_; clear hr a; intro a hr
  refine op_val (wn rfl) rfl rfl hr (v := .pointer (some ⟨A, 5, none⟩)) (by kernel_rfl) ?_; clear hr a; intro a hr
  refine op_store (wn rfl) rfl hr rfl (by kernel_rfl) (by kernel_rfl) (v := .bool on) rfl rfl (by kernel_rfl) h (i := 5) rfl ?_; clear h; intro w h
  have h : Fit z (sepL (pts A (.cells #[.int .i64 S.size, .int .i64 ((S.cells.length : Nat) : Int), .slice ca S.cells.length cc, .slice la S.log.length lc, .int .i64 S.actor, .bool on] 96) :: rowOf 2 1 encI (.slice ca S.cells.length cc) S.cells :: rowOf 90 6 encAcc (.slice la S.log.length lc) S.log :: L)) _ := h
  refine wpList_nil ?_
  refine end_norm0 rfl hr ?_
  exact ⟨rfl, ArenaP.sh (S := { S with on := on }) (((h.pick 2).pick 2).pick 2) (by first | rfl | (simp only [List.length_append, List.length_replicate, List.length_set]; omega)) (by first | rfl | simp [ASt.note]) (by first | rfl | simp [ASt.note])⟩

set_option maxRecDepth 100000 in
set_option maxHeartbeats 4000000 in
/-- (*plunder/cells.Arena).Who -/
theorem who_spec {z w : World} {L : List HProp} {A : Nat} {S : ASt} {k : Int}  (h : Fit z (sepL (ArenaP A S :: L)) w) :
    Calls Try.prog 96 #[.pointer (some ⟨A, 0, none⟩), .int .i64 k] w fun e w => e = .returned (.tuple #[]) ∧ Fit z (sepL (ArenaP A ({ S with actor := k }) :: L)) w := by
  obtain ⟨ca, cc, la, lc, h⟩ := ArenaP.op h
  have h : Fit z (sepL (pts A (.cells #[.int .i64 S.size, .int .i64 ((S.cells.length : Nat) : Int), .slice ca S.cells.length cc, .slice la S.log.length lc, .int .i64 S.actor, .bool S.on] 96) :: rowOf 2 1 encI (.slice ca S.cells.length cc) S.cells :: rowOf 90 6 encAcc (.slice la S.log.length lc) S.log :: L)) _ := h
  refine enter Try.func96 rfl 10 rfl rfl [(0, .pointer (some ⟨A, 0, none⟩)), (1, .int .i64 k)] ⟨by kernel_rfl, by kernel_rfl, trivial⟩ ?_
  intro j a hr
  refine wp_seq ?_
  refine wp_region_lit ?_
  refine op_val (wn rfl) rfl rfl hr (v := .pointer (some ⟨A, 0, none⟩)) (by kernel_rfl) ?_; clear hr a; intro a hr
  refine op_val (wn rfl) rfl rfl hr (v := .bool true) (by kernel_rfl) ?_; clear hr a; intro a hr
  refine wpList_nil ?_
  refine then_normal ?_
  refine cond_t hr (b := true) (by kernel_rfl) rfl ?_
  refine wp_region_lit ?_
  refine op_val (wn rfl) rfl rfl hr (v := .pointer (some ⟨A, 0, none⟩)) (by kernel_rfl) ?_; clear hr a; intro a hr
  refine op_val (wn rfl) rfl rfl hr (v := .int .i64 k) (by kernel_rfl) ?_; clear hr a; intro a hr
  refine op_val (wn rfl) rfl rfl hr (v := .pointer (some ⟨A, 0, none⟩)) (by kernel_rfl) ?_; clear hr a; intro a hr
  refine op_val (wn rfl) rfl rfl hr (v := .pointer (some ⟨A, 4, none⟩)) (by kernel_rfl) ?_; clear hr a; intro a hr
  refine op_store (wn rfl) rfl hr rfl (by kernel_rfl) (by kernel_rfl) (v := .int .i64 k) rfl rfl (by kernel_rfl) h (i := 4) rfl ?_; clear h; intro w h
  have h : Fit z (sepL (pts A (.cells #[.int .i64 S.size, .int .i64 ((S.cells.length : Nat) : Int), .slice ca S.cells.length cc, .slice la S.log.length lc, .int .i64 k, .bool S.on] 96) :: rowOf 2 1 encI (.slice ca S.cells.length cc) S.cells :: rowOf 90 6 encAcc (.slice la S.log.length lc) S.log :: L)) _ := h
  refine wpList_nil ?_
  refine end_norm0 rfl hr ?_
  exact ⟨rfl, ArenaP.sh (S := { S with actor := k }) (((h.pick 2).pick 2).pick 2) (by first | rfl | (simp only [List.length_append, List.length_replicate, List.length_set]; omega)) (by first | rfl | simp [ASt.note]) (by first | rfl | simp [ASt.note])⟩

set_option maxRecDepth 100000 in
set_option maxHeartbeats 4000000 in
/-- (*plunder/cells.Arena).Size -/
theorem asize_spec {z w : World} {L : List HProp} {A : Nat} {S : ASt}   (h : Fit z (sepL (ArenaP A S :: L)) w) :
    Calls Try.prog 97 #[.pointer (some ⟨A, 0, none⟩)] w fun e w => e = .returned (.int .i64 S.size) ∧ Fit z (sepL (ArenaP A S :: L)) w := by
  obtain ⟨ca, cc, la, lc, h⟩ := ArenaP.op h
  have h : Fit z (sepL (pts A (.cells #[.int .i64 S.size, .int .i64 ((S.cells.length : Nat) : Int), .slice ca S.cells.length cc, .slice la S.log.length lc, .int .i64 S.actor, .bool S.on] 96) :: rowOf 2 1 encI (.slice ca S.cells.length cc) S.cells :: rowOf 90 6 encAcc (.slice la S.log.length lc) S.log :: L)) _ := h
  refine enter Try.func97 rfl 9 rfl rfl [(0, .pointer (some ⟨A, 0, none⟩))] ⟨by kernel_rfl, trivial⟩ ?_
  intro j a hr
  refine wp_seq ?_
  refine wp_region_lit ?_
  refine op_val (wn rfl) rfl rfl hr (v := .int .i64 0) (by kernel_rfl) ?_; clear hr a; intro a hr
  refine wpList_nil ?_
  refine then_normal ?_
  refine wp_seq ?_
  refine wp_seq ?_
  refine wp_region_lit ?_
  refine op_val (wn rfl) rfl rfl hr (v := .pointer (some ⟨A, 0, none⟩)) (by kernel_rfl) ?_; clear hr a; intro a hr
  refine op_val (wn rfl) rfl rfl hr (v := .bool false) (by kernel_rfl) ?_; clear hr a; intro a hr
  refine wpList_nil ?_
  refine then_normal ?_
  refine cond_f hr (b := false) (by kernel_rfl) rfl ?_
  refine wp_skip ?_
  refine then_normal ?_
  refine wp_seq ?_
  refine wp_region_lit ?_
  refine op_val (wn rfl) rfl rfl hr (v := .pointer (some ⟨A, 0, none⟩)) (by kernel_rfl) ?_; clear hr a; intro a hr
  refine op_val (wn rfl) rfl rfl hr (v := .pointer (some ⟨A, 0, none⟩)) (by kernel_rfl) ?_; clear hr a; intro a hr
  refine op_val (wn rfl) rfl rfl hr (v := .pointer (some ⟨A, 0, none⟩)) (by kernel_rfl) ?_; clear hr a; intro a hr
  refine op_call (wn rfl) rfl rfl hr (f := 81) (args := #[.pointer (some ⟨A, 0, none⟩)]) (by kernel_rfl) (lsize_spec  (h := h)) ?_; clear h
  rintro _ w ⟨rfl, h⟩; refine ⟨_, rfl, ?_⟩
  clear hr a; intro a hr
  have h : Fit z (sepL (pts A (.cells #[.int .i64 S.size, .int .i64 ((S.cells.length : Nat) : Int), .slice ca S.cells.length cc, .slice la S.log.length lc, .int .i64 S.actor, .bool S.on] 96) :: rowOf 2 1 encI (.slice ca S.cells.length cc) S.cells :: rowOf 90 6 encAcc (.slice la S.log.length lc) S.log :: L)) _ := h
  refine op_val (wn rfl) rfl rfl hr (v := .int .i64 S.size) (by kernel_rfl) ?_; clear hr a; intro a hr
  refine wpList_nil ?_
  refine then_normal ?_
  refine wp_ret ?_
  refine end_ret1 (v := .int .i64 S.size) rfl hr (by kernel_rfl) ?_
  exact ⟨rfl, ArenaP.sh (S := S) (((h.pick 2).pick 2).pick 2) (by first | rfl | (simp only [List.length_append, List.length_replicate, List.length_set]; omega)) (by first | rfl | simp [ASt.note]) (by first | rfl | simp [ASt.note])⟩

set_option maxRecDepth 100000 in
set_option maxHeartbeats 4000000 in
/-- (*plunder/cells.Arena).Mark -/
theorem amark_spec {z w : World} {L : List HProp} {A : Nat} {S : ASt}   (h : Fit z (sepL (ArenaP A S :: L)) w) :
    Calls Try.prog 98 #[.pointer (some ⟨A, 0, none⟩)] w fun e w => e = .returned (.int .i64 ((S.cells.length : Nat) : Int)) ∧ Fit z (sepL (ArenaP A S :: L)) w := by
  obtain ⟨ca, cc, la, lc, h⟩ := ArenaP.op h
  have h : Fit z (sepL (pts A (.cells #[.int .i64 S.size, .int .i64 ((S.cells.length : Nat) : Int), .slice ca S.cells.length cc, .slice la S.log.length lc, .int .i64 S.actor, .bool S.on] 96) :: rowOf 2 1 encI (.slice ca S.cells.length cc) S.cells :: rowOf 90 6 encAcc (.slice la S.log.length lc) S.log :: L)) _ := h
  refine enter Try.func98 rfl 9 rfl rfl [(0, .pointer (some ⟨A, 0, none⟩))] ⟨by kernel_rfl, trivial⟩ ?_
  intro j a hr
  refine wp_seq ?_
  refine wp_region_lit ?_
  refine op_val (wn rfl) rfl rfl hr (v := .int .i64 0) (by kernel_rfl) ?_; clear hr a; intro a hr
  refine wpList_nil ?_
  refine then_normal ?_
  refine wp_seq ?_
  refine wp_seq ?_
  refine wp_region_lit ?_
  refine op_val (wn rfl) rfl rfl hr (v := .pointer (some ⟨A, 0, none⟩)) (by kernel_rfl) ?_; clear hr a; intro a hr
  refine op_val (wn rfl) rfl rfl hr (v := .bool false) (by kernel_rfl) ?_; clear hr a; intro a hr
  refine wpList_nil ?_
  refine then_normal ?_
  refine cond_f hr (b := false) (by kernel_rfl) rfl ?_
  refine wp_skip ?_
  refine then_normal ?_
  refine wp_seq ?_
  refine wp_region_lit ?_
  refine op_val (wn rfl) rfl rfl hr (v := .pointer (some ⟨A, 0, none⟩)) (by kernel_rfl) ?_; clear hr a; intro a hr
  refine op_val (wn rfl) rfl rfl hr (v := .pointer (some ⟨A, 0, none⟩)) (by kernel_rfl) ?_; clear hr a; intro a hr
  refine op_val (wn rfl) rfl rfl hr (v := .pointer (some ⟨A, 0, none⟩)) (by kernel_rfl) ?_; clear hr a; intro a hr
  refine op_call (wn rfl) rfl rfl hr (f := 84) (args := #[.pointer (some ⟨A, 0, none⟩)]) (by kernel_rfl) (lmark_spec  (h := h)) ?_; clear h
  rintro _ w ⟨rfl, h⟩; refine ⟨_, rfl, ?_⟩
  clear hr a; intro a hr
  have h : Fit z (sepL (pts A (.cells #[.int .i64 S.size, .int .i64 ((S.cells.length : Nat) : Int), .slice ca S.cells.length cc, .slice la S.log.length lc, .int .i64 S.actor, .bool S.on] 96) :: rowOf 2 1 encI (.slice ca S.cells.length cc) S.cells :: rowOf 90 6 encAcc (.slice la S.log.length lc) S.log :: L)) _ := h
  refine op_val (wn rfl) rfl rfl hr (v := .int .i64 ((S.cells.length : Nat) : Int)) (by kernel_rfl) ?_; clear hr a; intro a hr
  refine wpList_nil ?_
  refine then_normal ?_
  refine wp_ret ?_
  refine end_ret1 (v := .int .i64 ((S.cells.length : Nat) : Int)) rfl hr (by kernel_rfl) ?_
  exact ⟨rfl, ArenaP.sh (S := S) (((h.pick 2).pick 2).pick 2) (by first | rfl | (simp only [List.length_append, List.length_replicate, List.length_set]; omega)) (by first | rfl | simp [ASt.note]) (by first | rfl | simp [ASt.note])⟩

set_option maxRecDepth 100000 in
set_option maxHeartbeats 4000000 in
/-- (*plunder/cells.Arena).Cells -/
theorem cells_spec {z w : World} {L : List HProp} {A : Nat} {S : ASt}  (hs : S.cells.length ≤ 1048576) (h : Fit z (sepL (ArenaP A S :: L)) w) :
    Calls Try.prog 24 #[.pointer (some ⟨A, 0, none⟩)] w fun e w => ∃ g : Nat, ∃ cp : Nat, e = .returned (.slice (some ⟨g, 0, none⟩) S.cells.length cp) ∧ Fit z (sepL (ArenaP A S :: slc 2 1 encI g cp S.cells :: L)) w := by
  obtain ⟨ca, cc, la, lc, h⟩ := ArenaP.op h
  have h : Fit z (sepL (pts A (.cells #[.int .i64 S.size, .int .i64 ((S.cells.length : Nat) : Int), .slice ca S.cells.length cc, .slice la S.log.length lc, .int .i64 S.actor, .bool S.on] 96) :: rowOf 2 1 encI (.slice ca S.cells.length cc) S.cells :: rowOf 90 6 encAcc (.slice la S.log.length lc) S.log :: L)) _ := h
  refine enter Try.func24 rfl 19 rfl rfl [(0, .pointer (some ⟨A, 0, none⟩))] ⟨by kernel_rfl, trivial⟩ ?_
  intro j a hr
  refine wp_seq ?_
  refine wp_region_lit ?_
  refine op_val (wn rfl) rfl rfl hr (v := .slice none 0 0) (by kernel_rfl) ?_; clear hr a; intro a hr
  refine wpList_nil ?_
  refine then_normal ?_
  refine wp_seq ?_
  refine wp_seq ?_
  refine wp_region_lit ?_
  refine op_val (wn rfl) rfl rfl hr (v := .pointer (some ⟨A, 0, none⟩)) (by kernel_rfl) ?_; clear hr a; intro a hr
  refine op_val (wn rfl) rfl rfl hr (v := .bool false) (by kernel_rfl) ?_; clear hr a; intro a hr
  refine wpList_nil ?_
  refine then_normal ?_
  refine cond_f hr (b := false) (by kernel_rfl) rfl ?_
  refine wp_skip ?_
  refine then_normal ?_
  refine wp_seq ?_
  refine wp_region_lit ?_
  refine op_val (wn rfl) rfl rfl hr (v := .pointer (some ⟨A, 0, none⟩)) (by kernel_rfl) ?_; clear hr a; intro a hr
  refine op_val (wn rfl) rfl rfl hr (v := .pointer (some ⟨A, 0, none⟩)) (by kernel_rfl) ?_; clear hr a; intro a hr
  refine op_val (wn rfl) rfl rfl hr (v := .pointer (some ⟨A, 2, none⟩)) (by kernel_rfl) ?_; clear hr a; intro a hr
  refine op_val (wn rfl) rfl rfl hr (v := .slice ca S.cells.length cc) (rl rfl (by kernel_rfl) (by kernel_rfl) (h.cell 2 rfl)) ?_; clear hr a; intro a hr
  refine op_val (wn rfl) rfl rfl hr (v := .int .i64 ((S.cells.length : Nat) : Int)) (by kernel_rfl) ?_; clear hr a; intro a hr
  refine op_make (i := ((S.cells.length : Nat) : Int)) (c := S.cells.length) (bytes := 8) (zc := #[.int .i64 0]) ((0 : Int)) (wn rfl) rfl rfl hr rfl (by kernel_rfl) (by kernel_rfl) (rfl) encI_ok (E := 2) (by kernel_rfl) (by kernel_rfl) rfl (by omega) rfl h ?_; clear h hr a; intro g1 w a h hr
  have h : Fit z (sepL (slc 2 1 encI g1 S.cells.length (List.replicate S.cells.length (0 : Int)) :: pts A (.cells #[.int .i64 S.size, .int .i64 ((S.cells.length : Nat) : Int), .slice ca S.cells.length cc, .slice la S.log.length lc, .int .i64 S.actor, .bool S.on] 96) :: rowOf 2 1 encI (.slice ca S.cells.length cc) S.cells :: rowOf 90 6 encAcc (.slice la S.log.length lc) S.log :: L)) _ := h
  refine op_val (wn rfl) rfl rfl hr (v := .slice (some ⟨g1, 0, none⟩) S.cells.length S.cells.length) (by kernel_rfl) ?_; clear hr a; intro a hr
  refine wpList_nil ?_
  refine then_normal ?_
  refine wp_seq ?_
  refine wp_region_lit ?_
  refine op_val (wn rfl) rfl rfl hr (v := .slice (some ⟨g1, 0, none⟩) S.cells.length S.cells.length) (by kernel_rfl) ?_; clear hr a; intro a hr
  refine op_val (wn rfl) rfl rfl hr (v := .pointer (some ⟨A, 0, none⟩)) (by kernel_rfl) ?_; clear hr a; intro a hr
  refine op_val (wn rfl) rfl rfl hr (v := .pointer (some ⟨A, 0, none⟩)) (by kernel_rfl) ?_; clear hr a; intro a hr
  refine op_val (wn rfl) rfl rfl hr (v := .pointer (some ⟨A, 2, none⟩)) (by kernel_rfl) ?_; clear hr a; intro a hr
  refine op_val (wn rfl) rfl rfl hr (v := .slice ca S.cells.length cc) (rl rfl (by kernel_rfl) (by kernel_rfl) ((h.pick 1).cell 2 rfl)) ?_; clear hr a; intro a hr
  refine op_copy (n0 := S.cells.length) (n1 := S.cells.length) (wn rfl) rfl rfl hr rfl (by kernel_rfl) (by kernel_rfl) (by simp) encI_ok (E := 2) (by kernel_rfl) (by kernel_rfl) (by simp) ((h.pick 2).pick 1) ?_; clear h hr a; intro w a h hr
  have h : Fit z (sepL (slc 2 1 encI g1 S.cells.length S.cells :: rowOf 2 1 encI (.slice ca S.cells.length cc) S.cells :: pts A (.cells #[.int .i64 S.size, .int .i64 ((S.cells.length : Nat) : Int), .slice ca S.cells.length cc, .slice la S.log.length lc, .int .i64 S.actor, .bool S.on] 96) :: rowOf 90 6 encAcc (.slice la S.log.length lc) S.log :: L)) _ := h
  refine wpList_nil ?_
  refine then_normal ?_
  refine wp_seq ?_
  refine wp_region_lit ?_
  refine op_val (wn rfl) rfl rfl hr (v := .slice (some ⟨g1, 0, none⟩) S.cells.length S.cells.length) (by kernel_rfl) ?_; clear hr a; intro a hr
  refine op_val (wn rfl) rfl rfl hr (v := .slice (some ⟨g1, 0, none⟩) S.cells.length S.cells.length) (by kernel_rfl) ?_; clear hr a; intro a hr
  refine wpList_nil ?_
  refine then_normal ?_
  refine wp_ret ?_
  refine end_ret1 (v := .slice (some ⟨g1, 0, none⟩) S.cells.length S.cells.length) rfl hr (by kernel_rfl) ?_
  exact ⟨g1, S.cells.length, rfl, ArenaP.sh (S := S) (((h.pick 3).pick 2).pick 3) rfl rfl rfl⟩

set_option maxRecDepth 100000 in
set_option maxHeartbeats 4000000 in
/-- (*plunder/cells.Arena).Log -/
theorem log_spec {z w : World} {L : List HProp} {A : Nat} {S : ASt}  (hl : S.log.length < 1099511627776) (h : Fit z (sepL (ArenaP A S :: L)) w) :
    Calls Try.prog 70 #[.pointer (some ⟨A, 0, none⟩)] w fun e w => ∃ g : Nat, ∃ cp : Nat, e = .returned (.slice (some ⟨g, 0, none⟩) S.log.length cp) ∧ Fit z (sepL (ArenaP A S :: slc 90 6 encAcc g cp S.log :: L)) w := by
  obtain ⟨ca, cc, la, lc, h⟩ := ArenaP.op h
  have h : Fit z (sepL (pts A (.cells #[.int .i64 S.size, .int .i64 ((S.cells.length : Nat) : Int), .slice ca S.cells.length cc, .slice la S.log.length lc, .int .i64 S.actor, .bool S.on] 96) :: rowOf 2 1 encI (.slice ca S.cells.length cc) S.cells :: rowOf 90 6 encAcc (.slice la S.log.length lc) S.log :: L)) _ := h
  refine enter Try.func70 rfl 19 rfl rfl [(0, .pointer (some ⟨A, 0, none⟩))] ⟨by kernel_rfl, trivial⟩ ?_
  intro j a hr
  refine wp_seq ?_
  refine wp_region_lit ?_
  refine op_val (wn rfl) rfl rfl hr (v := .slice none 0 0) (by kernel_rfl) ?_; clear hr a; intro a hr
  refine wpList_nil ?_
  refine then_normal ?_
  refine wp_seq ?_
  refine wp_seq ?_
  refine wp_region_lit ?_
  refine op_val (wn rfl) rfl rfl hr (v := .pointer (some ⟨A, 0, none⟩)) (by kernel_rfl) ?_; clear hr a; intro a hr
  refine op_val (wn rfl) rfl rfl hr (v := .bool false) (by kernel_rfl) ?_; clear hr a; intro a hr
  refine wpList_nil ?_
  refine then_normal ?_
  refine cond_f hr (b := false) (by kernel_rfl) rfl ?_
  refine wp_skip ?_
  refine then_normal ?_
  refine wp_seq ?_
  refine wp_region_lit ?_
  refine op_val (wn rfl) rfl rfl hr (v := .pointer (some ⟨A, 0, none⟩)) (by kernel_rfl) ?_; clear hr a; intro a hr
  refine op_val (wn rfl) rfl rfl hr (v := .pointer (some ⟨A, 0, none⟩)) (by kernel_rfl) ?_; clear hr a; intro a hr
  refine op_val (wn rfl) rfl rfl hr (v := .pointer (some ⟨A, 3, none⟩)) (by kernel_rfl) ?_; clear hr a; intro a hr
  refine op_val (wn rfl) rfl rfl hr (v := .slice la S.log.length lc) (rl rfl (by kernel_rfl) (by kernel_rfl) (h.cell 3 rfl)) ?_; clear hr a; intro a hr
  refine op_val (wn rfl) rfl rfl hr (v := .int .i64 ((S.log.length : Nat) : Int)) (by kernel_rfl) ?_; clear hr a; intro a hr
  refine op_make (i := ((S.log.length : Nat) : Int)) (c := S.log.length) (bytes := 48) (zc := #[.int .i64 0, .int .i64 0, .int .i64 0, .int .i64 0, .int .i64 0, .bool false]) ((⟨0, 0, 0, 0, 0, false⟩ : Acc)) (wn rfl) rfl rfl hr rfl (by kernel_rfl) (by kernel_rfl) (rfl) encAcc_ok (E := 90) (by kernel_rfl) (by kernel_rfl) rfl (by omega) rfl h ?_; clear h hr a; intro g1 w a h hr
  have h : Fit z (sepL (slc 90 6 encAcc g1 S.log.length (List.replicate S.log.length (⟨0, 0, 0, 0, 0, false⟩ : Acc)) :: pts A (.cells #[.int .i64 S.size, .int .i64 ((S.cells.length : Nat) : Int), .slice ca S.cells.length cc, .slice la S.log.length lc, .int .i64 S.actor, .bool S.on] 96) :: rowOf 2 1 encI (.slice ca S.cells.length cc) S.cells :: rowOf 90 6 encAcc (.slice la S.log.length lc) S.log :: L)) _ := h
  refine op_val (wn rfl) rfl rfl hr (v := .slice (some ⟨g1, 0, none⟩) S.log.length S.log.length) (by kernel_rfl) ?_; clear hr a; intro a hr
  refine wpList_nil ?_
  refine then_normal ?_
  refine wp_seq ?_
  refine wp_region_lit ?_
  refine op_val (wn rfl) rfl rfl hr (v := .slice (some ⟨g1, 0, none⟩) S.log.length S.log.length) (by kernel_rfl) ?_; clear hr a; intro a hr
  refine op_val (wn rfl) rfl rfl hr (v := .pointer (some ⟨A, 0, none⟩)) (by kernel_rfl) ?_; clear hr a; intro a hr
  refine op_val (wn rfl) rfl rfl hr (v := .pointer (some ⟨A, 0, none⟩)) (by kernel_rfl) ?_; clear hr a; intro a hr
  refine op_val (wn rfl) rfl rfl hr (v := .pointer (some ⟨A, 3, none⟩)) (by kernel_rfl) ?_; clear hr a; intro a hr
  refine op_val (wn rfl) rfl rfl hr (v := .slice la S.log.length lc) (rl rfl (by kernel_rfl) (by kernel_rfl) ((h.pick 1).cell 3 rfl)) ?_; clear hr a; intro a hr
  refine op_copy (n0 := S.log.length) (n1 := S.log.length) (wn rfl) rfl rfl hr rfl (by kernel_rfl) (by kernel_rfl) (by simp) encAcc_ok (E := 90) (by kernel_rfl) (by kernel_rfl) (by simp) ((h.pick 3).pick 1) ?_; clear h hr a; intro w a h hr
  have h : Fit z (sepL (slc 90 6 encAcc g1 S.log.length S.log :: rowOf 90 6 encAcc (.slice la S.log.length lc) S.log :: pts A (.cells #[.int .i64 S.size, .int .i64 ((S.cells.length : Nat) : Int), .slice ca S.cells.length cc, .slice la S.log.length lc, .int .i64 S.actor, .bool S.on] 96) :: rowOf 2 1 encI (.slice ca S.cells.length cc) S.cells :: L)) _ := h
  refine wpList_nil ?_
  refine then_normal ?_
  refine wp_seq ?_
  refine wp_region_lit ?_
  refine op_val (wn rfl) rfl rfl hr (v := .slice (some ⟨g1, 0, none⟩) S.log.length S.log.length) (by kernel_rfl) ?_; clear hr a; intro a hr
  refine op_val (wn rfl) rfl rfl hr (v := .slice (some ⟨g1, 0, none⟩) S.log.length S.log.length) (by kernel_rfl) ?_; clear hr a; intro a hr
  refine wpList_nil ?_
  refine then_normal ?_
  refine wp_ret ?_
  refine end_ret1 (v := .slice (some ⟨g1, 0, none⟩) S.log.length S.log.length) rfl hr (by kernel_rfl) ?_
  exact ⟨g1, S.log.length, rfl, ArenaP.sh (S := S) (((h.pick 1).pick 3).pick 3) rfl rfl rfl⟩

set_option maxRecDepth 100000 in
set_option maxHeartbeats 4000000 in
/-- plunder/cells.good -/
theorem good_spec {z w : World} {L : List HProp} {n : Int}  (h : Fit z (sepL (L)) w) :
    Calls Try.prog 61 #[.int .i64 n] w fun e w => e = .returned (.bool (goodB n)) ∧ Fit z (sepL (L)) w := by
  refine enter Try.func61 rfl 9 rfl rfl [(0, .int .i64 n)] ⟨by kernel_rfl, trivial⟩ ?_
  intro j a hr
  refine wp_seq ?_
  refine wp_region_lit ?_
  refine op_val (wn rfl) rfl rfl hr (v := .bool false) (by kernel_rfl) ?_; clear hr a; intro a hr
  refine wpList_nil ?_
  refine then_normal ?_
  refine wp_seq ?_
  refine wp_region_lit ?_
  refine op_val (wn rfl) rfl rfl hr (v := .int .i64 n) (by kernel_rfl) ?_; clear hr a; intro a hr
  refine op_val (wn rfl) rfl rfl hr (v := .bool (decide (n ≥ 0))) (by kernel_rfl) ?_; clear hr a; intro a hr
  refine op_val (wn rfl) rfl rfl hr (v := .bool (decide (n ≥ 0))) (by kernel_rfl) ?_; clear hr a; intro a hr
  by_cases c1 : n ≥ 0
  ·
    refine op_val ((wg hr rfl rfl rfl (b' := (decide (n ≥ 0))) (by kernel_rfl)).trans (by rw [(decide_eq_true c1)]; rfl)) rfl rfl hr (v := .int .i64 n) (by kernel_rfl) ?_; clear hr a; intro a hr
    refine op_val ((wg hr rfl rfl rfl (b' := (decide (n ≥ 0))) (by kernel_rfl)).trans (by rw [(decide_eq_true c1)]; rfl)) rfl rfl hr (v := .bool (decide (n ≤ 1048576))) (by kernel_rfl) ?_; clear hr a; intro a hr
    refine op_val (wn rfl) rfl rfl hr (v := .bool (decide (n ≤ 1048576))) (rp_t (b := (decide (n ≥ 0))) rfl (by kernel_rfl) (decide_eq_true c1) (by kernel_rfl)) ?_; clear hr a; intro a hr
    refine op_val (wn rfl) rfl rfl hr (v := .bool (decide (n ≤ 1048576))) (by kernel_rfl) ?_; clear hr a; intro a hr
    refine wpList_nil ?_
    refine then_normal ?_
    refine wp_ret ?_
    refine end_ret1 (v := .bool (decide (n ≤ 1048576))) rfl hr (by kernel_rfl) ?_
    exact ⟨by unfold goodB; first | rfl | (simp_all; done) | (simp_all; omega), h⟩
  ·
    refine op_off ((wg hr rfl rfl rfl (b' := (decide (n ≥ 0))) (by kernel_rfl)).trans (by rw [(decide_eq_false c1)]; rfl)) rfl rfl hr ?_
    clear hr a; intro a hr
    refine op_off ((wg hr rfl rfl rfl (b' := (decide (n ≥ 0))) (by kernel_rfl)).trans (by rw [(decide_eq_false c1)]; rfl)) rfl rfl hr ?_
    clear hr a; intro a hr
    refine op_val (wn rfl) rfl rfl hr (v := .bool false) (rp_f (b := (decide (n ≥ 0))) rfl (by kernel_rfl) (decide_eq_false c1) (by kernel_rfl)) ?_; clear hr a; intro a hr
    refine op_val (wn rfl) rfl rfl hr (v := .bool false) (by kernel_rfl) ?_; clear hr a; intro a hr
    refine wpList_nil ?_
    refine then_normal ?_
    refine wp_ret ?_
    refine end_ret1 (v := .bool false) rfl hr (by kernel_rfl) ?_
    exact ⟨by unfold goodB; first | rfl | (simp_all; done) | (simp_all; omega), h⟩

set_option maxRecDepth 100000 in
set_option maxHeartbeats 4000000 in
/-- plunder/cells.New -/
theorem new_bad {z w : World} {L : List HProp} {n : Int} (hg : goodB n = false) (h : Fit z (sepL (L)) w) :
    Calls Try.prog 19 #[.int .i64 n] w fun e w => e = .returned (.tuple #[.pointer none, .int .i64 3]) ∧ Fit z (sepL (L)) w := by
  refine enter Try.func19 rfl 11 rfl rfl [(0, .int .i64 n)] ⟨by kernel_rfl, trivial⟩ ?_
  intro j a hr
  refine wp_seq ?_
  refine wp_region_lit ?_
  refine op_val (wn rfl) rfl rfl hr (v := .pointer none) (by kernel_rfl) ?_; clear hr a; intro a hr
  refine op_val (wn rfl) rfl rfl hr (v := .int .i64 0) (by kernel_rfl) ?_; clear hr a; intro a hr
  refine wpList_nil ?_
  refine then_normal ?_
  refine wp_seq ?_
  refine wp_seq ?_
  refine wp_region_lit ?_
  refine op_val (wn rfl) rfl rfl hr (v := .int .i64 n) (by kernel_rfl) ?_; clear hr a; intro a hr
  refine op_call (wn rfl) rfl rfl hr (f := 61) (args := #[.int .i64 n]) (by kernel_rfl) (good_spec  (h := h)) ?_; clear h
  rintro _ w ⟨rfl, h⟩; refine ⟨_, rfl, ?_⟩
  clear hr a; intro a hr
  have h : Fit z (sepL (L)) _ := h
  refine op_val (wn rfl) rfl rfl hr (v := .bool (!(goodB n))) (by kernel_rfl) ?_; clear hr a; intro a hr
  refine wpList_nil ?_
  refine then_normal ?_
  refine cond_t hr (b := (!(goodB n))) (by kernel_rfl) (by rw [hg]; rfl) ?_
  refine wp_seq ?_
  refine wp_region_lit ?_
  refine op_val (wn rfl) rfl rfl hr (v := .pointer none) (by kernel_rfl) ?_; clear hr a; intro a hr
  refine op_val (wn rfl) rfl rfl hr (v := .int .i64 3) (by kernel_rfl) ?_; clear hr a; intro a hr
  refine wpList_nil ?_
  refine then_normal ?_
  refine wp_ret ?_
  refine then_ret ?_
  refine end_ret2 (v := .pointer none) (v' := .int .i64 3) rfl hr (by kernel_rfl) (by kernel_rfl) ?_
  exact ⟨rfl, h⟩

set_option maxRecDepth 100000 in
set_option maxHeartbeats 4000000 in
/-- plunder/cells.New -/
theorem new_ok {z w : World} {L : List HProp} {n : Int} (hg : goodB n = true) (h : Fit z (sepL (L)) w) :
    Calls Try.prog 19 #[.int .i64 n] w fun e w => ∃ A : Nat, e = .returned (.tuple #[.pointer (some ⟨A, 0, none⟩), .int .i64 0]) ∧ Fit z (sepL (ArenaP A (ASt.new n) :: L)) w := by
  refine enter Try.func19 rfl 11 rfl rfl [(0, .int .i64 n)] ⟨by kernel_rfl, trivial⟩ ?_
  intro j a hr
  refine wp_seq ?_
  refine wp_region_lit ?_
  refine op_val (wn rfl) rfl rfl hr (v := .pointer none) (by kernel_rfl) ?_; clear hr a; intro a hr
  refine op_val (wn rfl) rfl rfl hr (v := .int .i64 0) (by kernel_rfl) ?_; clear hr a; intro a hr
  refine wpList_nil ?_
  refine then_normal ?_
  refine wp_seq ?_
  refine wp_seq ?_
  refine wp_region_lit ?_
  refine op_val (wn rfl) rfl rfl hr (v := .int .i64 n) (by kernel_rfl) ?_; clear hr a; intro a hr
  refine op_call (wn rfl) rfl rfl hr (f := 61) (args := #[.int .i64 n]) (by kernel_rfl) (good_spec  (h := h)) ?_; clear h
  rintro _ w ⟨rfl, h⟩; refine ⟨_, rfl, ?_⟩
  clear hr a; intro a hr
  have h : Fit z (sepL (L)) _ := h
  refine op_val (wn rfl) rfl rfl hr (v := .bool (!(goodB n))) (by kernel_rfl) ?_; clear hr a; intro a hr
  refine wpList_nil ?_
  refine then_normal ?_
  refine cond_f hr (b := (!(goodB n))) (by kernel_rfl) (by rw [hg]; rfl) ?_
  refine wp_skip ?_
  refine then_normal ?_
  refine wp_seq ?_
  refine wp_region_lit ?_
  refine op_val (wn rfl) rfl rfl hr (v := .int .i64 n) (by kernel_rfl) ?_; clear hr a; intro a hr
  refine op_val (wn rfl) rfl rfl hr (v := .agg #[.int .i64 n, .int .i64 0]) (by kernel_rfl) ?_; clear hr a; intro a hr
  refine op_val (wn rfl) rfl rfl hr (v := .agg #[.int .i64 n, .int .i64 0, .slice none 0 0, .slice none 0 0, .int .i64 0, .bool false]) (by kernel_rfl) ?_; clear hr a; intro a hr
  refine op_new (wn rfl) rfl rfl hr h (vf := fun b => .pointer (some ⟨b, 0, none⟩)) (cs := #[.int .i64 n, .int .i64 0, .slice none 0 0, .slice none 0 0, .int .i64 0, .bool false]) (T := 96) (by kernel_rfl) ?_; clear h hr a; intro b1 w a h hr
  refine op_val (wn rfl) rfl rfl hr (v := .pointer (some ⟨b1, 0, none⟩)) (by kernel_rfl) ?_; clear hr a; intro a hr
  refine op_val (wn rfl) rfl rfl hr (v := .int .i64 0) (by kernel_rfl) ?_; clear hr a; intro a hr
  refine wpList_nil ?_
  refine then_normal ?_
  refine wp_ret ?_
  refine end_ret2 (v := .pointer (some ⟨b1, 0, none⟩)) (v' := .int .i64 0) rfl hr (by kernel_rfl) (by kernel_rfl) ?_
  exact ⟨_, rfl, ArenaP.mk h⟩

theorem reserve_spec {z w : World} {L : List HProp} {A : Nat} {S : ASt} {n : Int} (hl : S.log.length < 1099511627776) (hs : S.cells.length ≤ 1048576) (hz : S.size ≤ 1048576) (hz0 : ((S.cells.length : Nat) : Int) ≤ S.size) (h : Fit z (sepL (ArenaP A S :: L)) w) :
    Calls Try.prog 20 #[.pointer (some ⟨A, 0, none⟩), .int .i64 n] w fun e w => e = .returned (.tuple #[.int .i64 (S.reserve n).1.1, .int .i64 (S.reserve n).1.2]) ∧ Fit z (sepL (ArenaP A (S.reserve n).2 :: L)) w := by
  by_cases h1 : n < 1
  · rw [ASt.reserve_count h1]; exact reserve_count hl hs hz hz0 h1 h
  · by_cases h2 : n > S.size - ((S.cells.length : Nat) : Int)
    · rw [ASt.reserve_room h1 h2]; exact reserve_room hl hs hz hz0 h1 h2 h
    · rw [ASt.reserve_ok h1 h2]; exact reserve_ok hl hs hz hz0 h1 h2 h

end Go.Proofs.Ytacgigkonoegiaa.Wk
