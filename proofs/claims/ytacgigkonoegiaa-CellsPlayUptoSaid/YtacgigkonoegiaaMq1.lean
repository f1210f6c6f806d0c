/- what the functions compute, as plain Lean functions, and that they do -/
import Derived.Test.YtacgigkonoegiaaMq0
namespace Go.Proofs.Ytacgigkonoegiaa.Mo
open Go Go.RowKit Go.Proofs.Ytacgigkonoegiaa.SL Go.Proofs.Ytacgigkonoegiaa.GX
set_option linter.unusedVariables false
set_option linter.unusedSimpArgs false

/-- plunder/plunderref2.New -/
def plunderref2_New (p0 : Int) : Option (T_plunderref2_Arena × Int) :=
  (if p0 < (0 : Int) then some ((⟨0, ([] : List Int), false, 0, ([] : List T_api_Access)⟩ : T_plunderref2_Arena), 3) else (if p0 > (1048576 : Int) then some ((⟨0, ([] : List Int), false, 0, ([] : List T_api_Access)⟩ : T_plunderref2_Arena), 3) else some ((⟨p0, ([] : List Int), false, 0, ([] : List T_api_Access)⟩ : T_plunderref2_Arena), 0)))
set_option maxRecDepth 100000 in
set_option maxHeartbeats 4000000 in
theorem plunderref2_New_ok {z w : World} {L : List HProp} {p0 : Int} {r0 : T_plunderref2_Arena} {r1 : Int} (H : plunderref2_New p0 = some (r0, r1)) (h : Fit z (sepL (L)) w)  :
    Calls Try.prog 27 #[.int .i64 p0] w fun e w => ∃ Bn0 : Nat, ∃ car0_1 : Option Addr, ∃ ccr0_2 : Nat, ∃ car0_3 : Option Addr, ∃ ccr0_4 : Nat, e = .returned (.tuple #[.pointer (some ⟨Bn0, 0, none⟩), .int .i64 r1]) ∧ Fit z (sepL (ob62 Bn0 r0 car0_1 ccr0_2 car0_3 ccr0_4 :: ro2 car0_1 ccr0_2 r0.Held :: ro90 car0_3 ccr0_4 r0.Book :: L)) w := by
  unfold plunderref2_New at H
  refine enter Try.func27 rfl 15 rfl rfl [(0, .int .i64 p0)] ⟨rfl, trivial⟩ ?_
  intro j a hr
  refine wp_seq ?_
  refine wp_region_lit ?_
  refine ovs [2, 3] [.pointer none, .int .i64 0] hr ⟨rfl, rfl⟩ (by kernel_rfl) ?_; clear hr a; intro a hr
  refine wpList_nil ?_
  refine then_normal ?_
  refine wp_seq ?_
  refine wp_seq ?_
  refine wp_region_lit ?_
  refine ovs [4, 5, 6] [.int .i64 p0, .bool (decide (p0 < (0 : Int))), .bool (decide (p0 < (0 : Int)))] hr ⟨rfl, rfl⟩ (by kernel_rfl) ?_; clear hr a; intro a hr
  by_cases c1 : p0 < (0 : Int)
  ·
    replace H := ifT c1 H
    refine op_off ((wg hr rfl rfl rfl (b' := (decide (p0 < (0 : Int)))) (by kernel_rfl)).trans (by rw [show (decide (p0 < (0 : Int))) = true from (decide_eq_true c1)]; rfl)) rfl rfl hr ?_; clear hr a; intro a hr
    refine op_off ((wg hr rfl rfl rfl (b' := (decide (p0 < (0 : Int)))) (by kernel_rfl)).trans (by rw [show (decide (p0 < (0 : Int))) = true from (decide_eq_true c1)]; rfl)) rfl rfl hr ?_; clear hr a; intro a hr
    refine op_val (wn rfl) rfl rfl hr (v := .bool true) (rp_t (b := (decide (p0 < (0 : Int)))) rfl (by kernel_rfl) (decide_eq_true c1) (by kernel_rfl)) ?_; clear hr a; intro a hr
    refine wpList_nil ?_
    refine then_normal ?_
    refine cond_tt hr (b := true) rfl ?_
    refine wp_seq ?_
    refine wp_region_lit ?_
    refine ov hr (.agg #[.int .i64 0, .slice none 0 0, .bool false, .int .i64 0, .slice none 0 0]) (by kernel_rfl) ?_; clear hr a; intro a hr
    refine op_new (wn rfl) rfl rfl hr h (vf := fun b => .pointer (some ⟨b, 0, none⟩)) (cs := #[.int .i64 0, .slice none 0 0, .bool false, .int .i64 0, .slice none 0 0]) (T := 62) (by kernel_rfl) ?_; clear h hr a; intro b2 w a h hr
    refine ovs [2, 3] [.pointer (some ⟨b2, 0, none⟩), .int .i64 3] hr ⟨rfl, rfl⟩ (by kernel_rfl) ?_; clear hr a; intro a hr
    refine wpList_nil ?_
    refine then_normal ?_
    refine wp_ret ?_
    refine then_ret ?_
    refine end_ret2 (v := .pointer (some ⟨b2, 0, none⟩)) (v' := .int .i64 3) rfl hr (by kernel_rfl) (by kernel_rfl) ?_
    replace h : Fit z (sepL (rowOf 2 1 encZ_i64 (.slice none 0 0) ([] : List Int) :: pts b2 (.cells #[.int .i64 0, .slice none 0 0, .bool false, .int .i64 0, .slice none 0 0] 62) :: L)) _ := h.row_nil
    replace h : Fit z (sepL (rowOf 90 6 enc_T_api_Access (.slice none 0 0) ([] : List T_api_Access) :: rowOf 2 1 encZ_i64 (.slice none 0 0) ([] : List Int) :: pts b2 (.cells #[.int .i64 0, .slice none 0 0, .bool false, .int .i64 0, .slice none 0 0] 62) :: L)) _ := h.row_nil
    replace h : Fit z (sepL (pts b2 (.cells #[.int .i64 0, .slice none 0 0, .bool false, .int .i64 0, .slice none 0 0] 62) :: rowOf 2 1 encZ_i64 (.slice none 0 0) ([] : List Int) :: rowOf 90 6 enc_T_api_Access (.slice none 0 0) ([] : List T_api_Access) :: L)) _ := h.sel 3 [2, 1, 0] (by kernel_rfl) (by kernel_rfl)
    replace H := ej2 H; obtain ⟨rfl, rfl⟩ := H
    exact ⟨b2, none, 0, none, 0, rfl, h⟩
  ·
    replace H := ifF c1 H
    refine op_val ((wg hr rfl rfl rfl (b' := (decide (p0 < (0 : Int)))) (by kernel_rfl)).trans (by rw [show (decide (p0 < (0 : Int))) = false from (decide_eq_false c1)]; rfl)) rfl rfl hr (v := .int .i64 p0) (by kernel_rfl) ?_; clear hr a; intro a hr
    refine op_val ((wg hr rfl rfl rfl (b' := (decide (p0 < (0 : Int)))) (by kernel_rfl)).trans (by rw [show (decide (p0 < (0 : Int))) = false from (decide_eq_false c1)]; rfl)) rfl rfl hr (v := .bool (decide (p0 > (1048576 : Int)))) (by kernel_rfl) ?_; clear hr a; intro a hr
    refine op_val (wn rfl) rfl rfl hr (v := .bool (decide (p0 > (1048576 : Int)))) (rp_f (b := (decide (p0 < (0 : Int)))) rfl (by kernel_rfl) (decide_eq_false c1) (by kernel_rfl)) ?_; clear hr a; intro a hr
    refine wpList_nil ?_
    refine then_normal ?_
    by_cases c3 : p0 > (1048576 : Int)
    ·
      replace H := ifT c3 H
      refine cond_tt hr (b := (decide (p0 > (1048576 : Int)))) (decide_eq_true c3) ?_
      refine wp_seq ?_
      refine wp_region_lit ?_
      refine ov hr (.agg #[.int .i64 0, .slice none 0 0, .bool false, .int .i64 0, .slice none 0 0]) (by kernel_rfl) ?_; clear hr a; intro a hr
      refine op_new (wn rfl) rfl rfl hr h (vf := fun b => .pointer (some ⟨b, 0, none⟩)) (cs := #[.int .i64 0, .slice none 0 0, .bool false, .int .i64 0, .slice none 0 0]) (T := 62) (by kernel_rfl) ?_; clear h hr a; intro b4 w a h hr
      refine ovs [2, 3] [.pointer (some ⟨b4, 0, none⟩), .int .i64 3] hr ⟨rfl, rfl⟩ (by kernel_rfl) ?_; clear hr a; intro a hr
      refine wpList_nil ?_
      refine then_normal ?_
      refine wp_ret ?_
      refine then_ret ?_
      refine end_ret2 (v := .pointer (some ⟨b4, 0, none⟩)) (v' := .int .i64 3) rfl hr (by kernel_rfl) (by kernel_rfl) ?_
      replace h : Fit z (sepL (rowOf 2 1 encZ_i64 (.slice none 0 0) ([] : List Int) :: pts b4 (.cells #[.int .i64 0, .slice none 0 0, .bool false, .int .i64 0, .slice none 0 0] 62) :: L)) _ := h.row_nil
      replace h : Fit z (sepL (rowOf 90 6 enc_T_api_Access (.slice none 0 0) ([] : List T_api_Access) :: rowOf 2 1 encZ_i64 (.slice none 0 0) ([] : List Int) :: pts b4 (.cells #[.int .i64 0, .slice none 0 0, .bool false, .int .i64 0, .slice none 0 0] 62) :: L)) _ := h.row_nil
      replace h : Fit z (sepL (pts b4 (.cells #[.int .i64 0, .slice none 0 0, .bool false, .int .i64 0, .slice none 0 0] 62) :: rowOf 2 1 encZ_i64 (.slice none 0 0) ([] : List Int) :: rowOf 90 6 enc_T_api_Access (.slice none 0 0) ([] : List T_api_Access) :: L)) _ := h.sel 3 [2, 1, 0] (by kernel_rfl) (by kernel_rfl)
      replace H := ej2 H; obtain ⟨rfl, rfl⟩ := H
      exact ⟨b4, none, 0, none, 0, rfl, h⟩
    ·
      replace H := ifF c3 H
      refine cond_ff hr (b := (decide (p0 > (1048576 : Int)))) (decide_eq_false c3) ?_
      refine wp_skip ?_
      refine then_normal ?_
      refine wp_seq ?_
      refine wp_region_lit ?_
      refine ovs [12, 13] [.int .i64 p0, .agg #[.int .i64 p0, .slice none 0 0, .bool false, .int .i64 0, .slice none 0 0]] hr ⟨rfl, rfl⟩ (by kernel_rfl) ?_; clear hr a; intro a hr
      refine op_new (wn rfl) rfl rfl hr h (vf := fun b => .pointer (some ⟨b, 0, none⟩)) (cs := #[.int .i64 p0, .slice none 0 0, .bool false, .int .i64 0, .slice none 0 0]) (T := 62) (by kernel_rfl) ?_; clear h hr a; intro b5 w a h hr
      refine ovs [2, 3] [.pointer (some ⟨b5, 0, none⟩), .int .i64 0] hr ⟨rfl, rfl⟩ (by kernel_rfl) ?_; clear hr a; intro a hr
      refine wpList_nil ?_
      refine then_normal ?_
      refine wp_ret ?_
      refine end_ret2 (v := .pointer (some ⟨b5, 0, none⟩)) (v' := .int .i64 0) rfl hr (by kernel_rfl) (by kernel_rfl) ?_
      replace h : Fit z (sepL (rowOf 2 1 encZ_i64 (.slice none 0 0) ([] : List Int) :: pts b5 (.cells #[.int .i64 p0, .slice none 0 0, .bool false, .int .i64 0, .slice none 0 0] 62) :: L)) _ := h.row_nil
      replace h : Fit z (sepL (rowOf 90 6 enc_T_api_Access (.slice none 0 0) ([] : List T_api_Access) :: rowOf 2 1 encZ_i64 (.slice none 0 0) ([] : List Int) :: pts b5 (.cells #[.int .i64 p0, .slice none 0 0, .bool false, .int .i64 0, .slice none 0 0] 62) :: L)) _ := h.row_nil
      replace h : Fit z (sepL (pts b5 (.cells #[.int .i64 p0, .slice none 0 0, .bool false, .int .i64 0, .slice none 0 0] 62) :: rowOf 2 1 encZ_i64 (.slice none 0 0) ([] : List Int) :: rowOf 90 6 enc_T_api_Access (.slice none 0 0) ([] : List T_api_Access) :: L)) _ := h.sel 3 [2, 1, 0] (by kernel_rfl) (by kernel_rfl)
      replace H := ej2 H; obtain ⟨rfl, rfl⟩ := H
      exact ⟨b5, none, 0, none, 0, rfl, h⟩

/-- plunder/plunderref2.refused -/
def plunderref2_refused (p0 : Int) : Option (T_api_Effect) :=
  some (⟨0, false, p0⟩ : T_api_Effect)
set_option maxRecDepth 100000 in
set_option maxHeartbeats 4000000 in
theorem plunderref2_refused_ok {z w : World} {L : List HProp} {p0 : Int} {r0 : T_api_Effect} (H : plunderref2_refused p0 = some r0) (h : Fit z (sepL (L)) w)  :
    Calls Try.prog 78 #[.int .i64 p0] w fun e w => e = .returned (.agg #[.int .i64 r0.V, .bool r0.OK, .int .i64 r0.Err]) ∧ Fit z (sepL (L)) w := by
  unfold plunderref2_refused at H
  refine enter Try.func78 rfl 5 rfl rfl [(0, .int .i64 p0)] ⟨rfl, trivial⟩ ?_
  intro j a hr
  refine wp_seq ?_
  refine wp_region_lit ?_
  refine op_new (wn rfl) rfl rfl hr h (vf := fun b => .pointer (some ⟨b, 0, none⟩)) (cs := #[.int .i64 0, .bool false, .int .i64 0]) (T := 39) (by kernel_rfl) ?_; clear h hr a; intro b1 w a h hr
  refine wpList_nil ?_
  refine then_normal ?_
  refine wp_seq ?_
  refine wp_region_lit ?_
  refine ovs [3, 4] [.int .i64 p0, .agg #[.int .i64 0, .bool false, .int .i64 p0]] hr ⟨rfl, rfl⟩ (by kernel_rfl) ?_; clear hr a; intro a hr
  refine op_stores (wn rfl) rfl hr rfl (by kernel_rfl) (by kernel_rfl) (vs := [.int .i64 0, .bool false, .int .i64 p0]) rfl rfl (by kernel_rfl) h (i := 0) (cs' := #[.int .i64 0, .bool false, .int .i64 p0]) rfl ?_; clear h; intro w h
  refine wpList_nil ?_
  replace h : Fit z (sepL (pts b1 (.cells #[.int .i64 0, .bool false, .int .i64 p0] 39) :: L)) _ := h
  refine then_normal ?_
  refine wp_ret ?_
  refine end_retC (cs := [.int .i64 0, .bool false, .int .i64 p0]) rfl hr (by kernel_rfl) (by kernel_rfl) (by kernel_rfl) ⟨h.cell 0 rfl, h.cell 1 rfl, h.cell 2 rfl, trivial⟩ ?_
  replace h : Fit z (sepL (L)) _ := h.sel 1 [] (by kernel_rfl) (by kernel_rfl)
  replace H := ej1 H; subst H
  exact ⟨rfl, h⟩

/-- (*plunder/plunderref2.Arena).note -/
def plunderref2_Arena_note (p0 : T_plunderref2_Arena) (p1 : T_api_Access) : Option (T_plunderref2_Arena) :=
  (if p0.On = true then if (p0.Book.length + 1) * 48 ≤ 140737488355328 then some ({ p0 with Book := p0.Book ++ [p1] }) else none else some p0)
set_option maxRecDepth 100000 in
set_option maxHeartbeats 4000000 in
theorem plunderref2_Arena_note_ok {z w : World} {L : List HProp} {p0 : T_plunderref2_Arena} {p1 : T_api_Access} {B0 : Nat} {ca1 : Option Addr} {cc2 : Nat} {ca3 : Option Addr} {cc4 : Nat} {q0 : T_plunderref2_Arena} (H : plunderref2_Arena_note p0 p1 = some q0) (h : Fit z (sepL (ob62 B0 p0 ca1 cc2 ca3 cc4 :: ro2 ca1 cc2 p0.Held :: ro90 ca3 cc4 p0.Book :: L)) w)  :
    Calls Try.prog 80 #[.pointer (some ⟨B0, 0, none⟩), .agg #[.int .i64 p1.Who, .int .i64 p1.Kind, .int .i64 p1.Addr, .int .i64 p1.A, .int .i64 p1.B, .bool p1.OK]] w fun e w => ∃ caq0_1 : Option Addr, ∃ ccq0_2 : Nat, ∃ caq0_3 : Option Addr, ∃ ccq0_4 : Nat, e = .returned (.tuple #[]) ∧ Fit z (sepL (ob62 B0 q0 caq0_1 ccq0_2 caq0_3 ccq0_4 :: ro2 caq0_1 ccq0_2 q0.Held :: ro90 caq0_3 ccq0_4 q0.Book :: L)) w := by
  unfold plunderref2_Arena_note at H
  refine enter Try.func80 rfl 18 rfl rfl [(0, .pointer (some ⟨B0, 0, none⟩)), (1, .agg #[.int .i64 p1.Who, .int .i64 p1.Kind, .int .i64 p1.Addr, .int .i64 p1.A, .int .i64 p1.B, .bool p1.OK])] ⟨rfl, rfl, trivial⟩ ?_
  intro j a hr
  refine wp_seq ?_
  refine wp_region_lit ?_
  refine op_new (wn rfl) rfl rfl hr h (vf := fun b => .pointer (some ⟨b, 0, none⟩)) (cs := #[.int .i64 p1.Who, .int .i64 p1.Kind, .int .i64 p1.Addr, .int .i64 p1.A, .int .i64 p1.B, .bool p1.OK]) (T := 90) (by kernel_rfl) ?_; clear h hr a; intro b5 w a h hr
  refine wpList_nil ?_
  refine then_normal ?_
  refine wp_seq ?_
  refine wp_region_lit ?_
  refine ovs [4, 5, 6] [.pointer (some ⟨B0, 0, none⟩), .pointer (some ⟨B0, 0, none⟩), .pointer (some ⟨B0, 2, none⟩)] hr ⟨rfl, rfl⟩ (by kernel_rfl) ?_; clear hr a; intro a hr
  refine op_val (wn rfl) rfl rfl hr (v := .bool p0.On) (rl rfl (by kernel_rfl) (by kernel_rfl) ((h.pick 1).cell 2 rfl)) ?_; clear hr a; intro a hr
  refine wpList_nil ?_
  refine then_normal ?_
  by_cases c6 : p0.On = true
  ·
    replace H := ifT c6 H
    refine cond_tt hr (b := p0.On) (c6) ?_
    replace H := gd H; obtain ⟨c10, H⟩ := H
    refine reg_E (fun w => heldC w B0 4 [.slice ca3 p0.Book.length cc4] ∧ heldC w b5 0 [.int .i64 p1.Who, .int .i64 p1.Kind, .int .i64 p1.Addr, .int .i64 p1.A, .int .i64 p1.B, .bool p1.OK] ∧ True) [2, 3] h (by kernel_rfl) ?_; intro w h
    change wpAnyE _ _ _ _ _ _ 11 (Array.replicate 11 false) a w
    have hgo : ∀ w w', CellsGo w w' → (heldC w B0 4 [.slice ca3 p0.Book.length cc4] ∧ heldC w b5 0 [.int .i64 p1.Who, .int .i64 p1.Kind, .int .i64 p1.Addr, .int .i64 p1.A, .int .i64 p1.B, .bool p1.OK] ∧ True) → heldC w' B0 4 [.slice ca3 p0.Book.length cc4] ∧ heldC w' b5 0 [.int .i64 p1.Who, .int .i64 p1.Kind, .int .i64 p1.Addr, .int .i64 p1.A, .int .i64 p1.B, .bool p1.OK] ∧ True := fun w w' g hD => ⟨heldC_go _ _ _ _ _ g hD.1, heldC_go _ _ _ _ _ g hD.2.1, trivial⟩
    refine ev 10 0 rfl (by kernel_rfl) (wn rfl) hr (.pointer (some ⟨B0, 0, none⟩)) (fun w => by kernel_rfl) ?_; clear hr a; intro a hr
    refine ev 9 1 rfl (by kernel_rfl) (wn rfl) hr (.pointer (some ⟨B0, 0, none⟩)) (fun w => by kernel_rfl) ?_; clear hr a; intro a hr
    refine evD hgo ⟨⟨(h.pick 1).cell 4 rfl, trivial⟩, ⟨h.cell 0 rfl, h.cell 1 rfl, h.cell 2 rfl, h.cell 3 rfl, h.cell 4 rfl, h.cell 5 rfl, trivial⟩, trivial⟩ 8 2 rfl (by kernel_rfl) (wn rfl) hr (.pointer (some ⟨B0, 0, none⟩)) (fun w => by kernel_rfl) ?_; clear hr a; intro a hr
    refine evD hgo ⟨⟨(h.pick 1).cell 4 rfl, trivial⟩, ⟨h.cell 0 rfl, h.cell 1 rfl, h.cell 2 rfl, h.cell 3 rfl, h.cell 4 rfl, h.cell 5 rfl, trivial⟩, trivial⟩ 7 3 rfl (by kernel_rfl) (wn rfl) hr (.pointer (some ⟨B0, 4, none⟩)) (fun w => by kernel_rfl) ?_; clear hr a; intro a hr
    refine el [2, 3] (b := B0) (off := 4) (cs := [.slice ca3 p0.Book.length cc4]) (fun _ hk => ⟨hk, fun w hD => hD.1⟩) 6 4 rfl (by kernel_rfl) (wn rfl) hr (.slice ca3 p0.Book.length cc4) ⟨(h.pick 1).cell 4 rfl, trivial⟩ (fun w hc => rl rfl (by kernel_rfl) (by kernel_rfl) hc.1) ?_; clear hr a; intro a hr
    refine el [2, 3] (b := b5) (off := 0) (cs := [.int .i64 p1.Who, .int .i64 p1.Kind, .int .i64 p1.Addr, .int .i64 p1.A, .int .i64 p1.B, .bool p1.OK]) (fun _ hk => ⟨hk, fun w hD => hD.2.1⟩) 5 5 rfl (by kernel_rfl) (wn rfl) hr (.agg #[.int .i64 p1.Who, .int .i64 p1.Kind, .int .i64 p1.Addr, .int .i64 p1.A, .int .i64 p1.B, .bool p1.OK]) ⟨h.cell 0 rfl, h.cell 1 rfl, h.cell 2 rfl, h.cell 3 rfl, h.cell 4 rfl, h.cell 5 rfl, trivial⟩ (fun w hc => rlm (cs := [.int .i64 p1.Who, .int .i64 p1.Kind, .int .i64 p1.Addr, .int .i64 p1.A, .int .i64 p1.B, .bool p1.OK]) rfl (by kernel_rfl) (by kernel_rfl) (by kernel_rfl) hc) ?_; clear hr a; intro a hr
    refine e_one (fuel := 4) (i := 6) (by kernel_rfl) rfl ?_
    refine op_new (wn rfl) rfl rfl hr h (vf := fun b => .slice (some ⟨b, 0, none⟩) 1 1) (cs := #[.int .i64 p1.Who, .int .i64 p1.Kind, .int .i64 p1.Addr, .int .i64 p1.A, .int .i64 p1.B, .bool p1.OK]) (T := 90) (by kernel_rfl) ?_; clear h hr a; intro b7 w a h hr
    refine wpList_nil ?_; refine then_normal ?_
    refine ⟨fun hE => absurd hE (by decide), ?_⟩
    refine e_one (fuel := 3) (i := 7) (by kernel_rfl) rfl ?_
    replace h : Fit z (sepL (ro90 ca3 cc4 p0.Book :: ob90 b7 p1 :: ob90 b5 p1 :: ob62 B0 p0 ca1 cc2 ca3 cc4 :: ro2 ca1 cc2 p0.Held :: L)) _ := h.sel 5 [4, 0, 1, 2, 3] (by kernel_rfl) (by kernel_rfl)
    refine op_append (n0 := p0.Book.length) (c := 1) (bytes := 48) (wn rfl) rfl rfl hr rfl (by kernel_rfl) (by kernel_rfl) enc_T_api_Access_ok (E := 90) (xs := p0.Book) (by kernel_rfl) (by kernel_rfl) h (news := [p1]) (m := 1) rfl ((h.pick 1).news rfl) c10 rfl ?_; clear h hr a; intro ca8 cc9 w a h hr
    refine wpList_nil ?_; refine then_normal ?_
    replace h : Fit z (sepL (ro90 ca8 cc9 (p0.Book ++ [p1]) :: ob90 b7 p1 :: ob90 b5 p1 :: ob62 B0 p0 ca1 cc2 ca3 cc4 :: ro2 ca1 cc2 p0.Held :: L)) _ := h
    refine ⟨fun hE => absurd hE (by decide), ?_⟩
    refine ev 2 8 rfl (by kernel_rfl) (wn rfl) hr (.pointer (some ⟨B0, 0, none⟩)) (fun w => by kernel_rfl) ?_; clear hr a; intro a hr
    refine ev 1 9 rfl (by kernel_rfl) (wn rfl) hr (.pointer (some ⟨B0, 4, none⟩)) (fun w => by kernel_rfl) ?_; clear hr a; intro a hr
    refine e_one (fuel := 0) (i := 10) (by kernel_rfl) rfl ?_
    replace h : Fit z (sepL (ob62 B0 p0 ca1 cc2 ca3 cc4 :: ro90 ca8 cc9 (p0.Book ++ [p1]) :: ob90 b7 p1 :: ob90 b5 p1 :: ro2 ca1 cc2 p0.Held :: L)) _ := h.sel 5 [3, 0, 1, 2, 4] (by kernel_rfl) (by kernel_rfl)
    refine op_store (wn rfl) rfl hr rfl (by kernel_rfl) (by kernel_rfl) (v := .slice ca8 ((p0.Book ++ [p1]).length) cc9) rfl rfl (by kernel_rfl) h (i := 4) rfl ?_; clear h; intro w h
    refine wpList_nil ?_; refine then_normal ?_
    replace h : Fit z (sepL (pts B0 (.cells #[.int .i64 p0.Most, .slice ca1 p0.Held.length cc2, .bool p0.On, .int .i64 p0.Actor, .slice ca8 ((p0.Book ++ [p1]).length) cc9] 62) :: ro90 ca8 cc9 (p0.Book ++ [p1]) :: ob90 b7 p1 :: ob90 b5 p1 :: ro2 ca1 cc2 p0.Held :: L)) _ := h
    refine ⟨fun hE => absurd hE (by decide), ?_⟩
    refine e_end (by kernel_rfl) ?_
    refine end_norm0 rfl hr ?_
    replace h : Fit z (sepL (pts B0 (.cells #[.int .i64 p0.Most, .slice ca1 p0.Held.length cc2, .bool p0.On, .int .i64 p0.Actor, .slice ca8 ((p0.Book ++ [p1]).length) cc9] 62) :: ro2 ca1 cc2 p0.Held :: ro90 ca8 cc9 (p0.Book ++ [p1]) :: L)) _ := h.sel 5 [0, 4, 1] (by kernel_rfl) (by kernel_rfl)
    replace H := ej1 H; subst H
    exact ⟨ca1, cc2, ca8, cc9, rfl, h⟩
  ·
    replace H := ifF c6 H
    refine cond_ff hr (b := p0.On) (bF c6) ?_
    refine wp_skip ?_
    refine end_norm0 rfl hr ?_
    replace h : Fit z (sepL (ob62 B0 p0 ca1 cc2 ca3 cc4 :: ro2 ca1 cc2 p0.Held :: ro90 ca3 cc4 p0.Book :: L)) _ := h.sel 4 [1, 2, 3] (by kernel_rfl) (by kernel_rfl)
    replace H := ej1 H; subst H
    exact ⟨ca1, cc2, ca3, cc4, rfl, h⟩

def plunderref2_Arena_reserve_l1 (K : Nat) (p1 : Int) : Nat → (List Int) → Int → Option ((List Int))
  | 0, _, _ => none
  | k1 + 1, l19, g20 => (if g20 < p1 then if (l19.length + 1) * 8 ≤ 140737488355328 then (plunderref2_Arena_reserve_l1 K p1 k1 (l19 ++ [0]) (wi (g20 + (1 : Int)))) else none else some l19)
/-- (*plunder/plunderref2.Arena).reserve -/
def plunderref2_Arena_reserve (K : Nat) (p0 : T_plunderref2_Arena) (p1 : Int) : Option (T_api_Effect × T_plunderref2_Arena) :=
  (if p1 < (1 : Int) then ob1 (plunderref2_refused 21) (fun r7 => some (r7, p0)) else (if p1 > (wi (p0.Most - ((p0.Held.length : Nat) : Int))) then ob1 (plunderref2_refused 22) (fun r10 => some (r10, p0)) else ob1 ((plunderref2_Arena_reserve_l1 K p1 K p0.Held 0)) (fun l14 => ob1 (plunderref2_Arena_note ({ p0 with Held := l14 }) (⟨p0.Actor, 4, ((p0.Held.length : Nat) : Int), p1, 0, true⟩ : T_api_Access)) (fun S26 => some ((⟨((p0.Held.length : Nat) : Int), true, 0⟩ : T_api_Effect), S26)))))
set_option maxRecDepth 100000 in
set_option maxHeartbeats 4000000 in
theorem plunderref2_Arena_reserve_ok {z w : World} {L : List HProp} {K : Nat} {p0 : T_plunderref2_Arena} {p1 : Int} {B0 : Nat} {ca1 : Option Addr} {cc2 : Nat} {ca3 : Option Addr} {cc4 : Nat} {r0 : T_api_Effect} {q0 : T_plunderref2_Arena} (H : plunderref2_Arena_reserve K p0 p1 = some (r0, q0)) (h : Fit z (sepL (ob62 B0 p0 ca1 cc2 ca3 cc4 :: ro2 ca1 cc2 p0.Held :: ro90 ca3 cc4 p0.Book :: L)) w)  :
    Calls Try.prog 79 #[.pointer (some ⟨B0, 0, none⟩), .int .i64 p1] w fun e w => ∃ caq0_1 : Option Addr, ∃ ccq0_2 : Nat, ∃ caq0_3 : Option Addr, ∃ ccq0_4 : Nat, e = .returned (.agg #[.int .i64 r0.V, .bool r0.OK, .int .i64 r0.Err]) ∧ Fit z (sepL (ob62 B0 q0 caq0_1 ccq0_2 caq0_3 ccq0_4 :: ro2 caq0_1 ccq0_2 q0.Held :: ro90 caq0_3 ccq0_4 q0.Book :: L)) w := by
  unfold plunderref2_Arena_reserve at H
  refine enter Try.func79 rfl 53 rfl rfl [(0, .pointer (some ⟨B0, 0, none⟩)), (1, .int .i64 p1)] ⟨rfl, rfl, trivial⟩ ?_
  intro j a hr
  refine wp_seq ?_
  refine wp_region_lit ?_
  refine op_new (wn rfl) rfl rfl hr h (vf := fun b => .pointer (some ⟨b, 0, none⟩)) (cs := #[.int .i64 0, .bool false, .int .i64 0]) (T := 39) (by kernel_rfl) ?_; clear h hr a; intro b5 w a h hr
  refine wpList_nil ?_
  refine then_normal ?_
  refine wp_seq ?_
  refine wp_seq ?_
  refine wp_region_lit ?_
  refine ovs [7, 8] [.int .i64 p1, .bool (decide (p1 < (1 : Int)))] hr ⟨rfl, rfl⟩ (by kernel_rfl) ?_; clear hr a; intro a hr
  refine wpList_nil ?_
  refine then_normal ?_
  by_cases c6 : p1 < (1 : Int)
  ·
    replace H := ifT c6 H
    refine cond_tt hr (b := (decide (p1 < (1 : Int)))) (decide_eq_true c6) ?_
    refine wp_seq ?_
    refine wp_region_lit ?_
    replace H := bd1 H; obtain ⟨r7, e8, H⟩ := H
    have hc := plunderref2_refused_ok (H := e8) (h := h)
    refine op_call (wn rfl) rfl rfl hr (f := 78) (args := #[.int .i64 21]) (by kernel_rfl) hc ?_; clear hc h
    rintro _ w ⟨rfl, h⟩; refine ⟨_, rfl, ?_⟩
    clear hr a; intro a hr
    refine op_stores (wn rfl) rfl hr rfl (by kernel_rfl) (by kernel_rfl) (vs := [.int .i64 r7.V, .bool r7.OK, .int .i64 r7.Err]) rfl rfl (by kernel_rfl) h (i := 0) (cs' := #[.int .i64 r7.V, .bool r7.OK, .int .i64 r7.Err]) rfl ?_; clear h; intro w h
    refine wpList_nil ?_
    replace h : Fit z (sepL (ob39 b5 r7 :: ob62 B0 p0 ca1 cc2 ca3 cc4 :: ro2 ca1 cc2 p0.Held :: ro90 ca3 cc4 p0.Book :: L)) _ := h
    refine then_normal ?_
    refine wp_ret ?_
    refine then_ret ?_
    refine end_retC (cs := [.int .i64 r7.V, .bool r7.OK, .int .i64 r7.Err]) rfl hr (by kernel_rfl) (by kernel_rfl) (by kernel_rfl) ⟨h.cell 0 rfl, h.cell 1 rfl, h.cell 2 rfl, trivial⟩ ?_
    replace h : Fit z (sepL (ob62 B0 p0 ca1 cc2 ca3 cc4 :: ro2 ca1 cc2 p0.Held :: ro90 ca3 cc4 p0.Book :: L)) _ := h.sel 4 [1, 2, 3] (by kernel_rfl) (by kernel_rfl)
    replace H := ej2 H; obtain ⟨rfl, rfl⟩ := H
    exact ⟨ca1, cc2, ca3, cc4, rfl, h⟩
  ·
    replace H := ifF c6 H
    refine cond_ff hr (b := (decide (p1 < (1 : Int)))) (decide_eq_false c6) ?_
    refine wp_skip ?_
    refine then_normal ?_
    refine wp_seq ?_
    refine wp_seq ?_
    refine reg_E (fun w => heldC w B0 0 [.int .i64 p0.Most] ∧ heldC w B0 1 [.slice ca1 p0.Held.length cc2] ∧ True) [2, 3, 6, 7, 9] h (by kernel_rfl) ?_; intro w h
    change wpAnyE _ _ _ _ _ _ 12 (Array.replicate 12 false) a w
    have hgo : ∀ w w', CellsGo w w' → (heldC w B0 0 [.int .i64 p0.Most] ∧ heldC w B0 1 [.slice ca1 p0.Held.length cc2] ∧ True) → heldC w' B0 0 [.int .i64 p0.Most] ∧ heldC w' B0 1 [.slice ca1 p0.Held.length cc2] ∧ True := fun w w' g hD => ⟨heldC_go _ _ _ _ _ g hD.1, heldC_go _ _ _ _ _ g hD.2.1, trivial⟩
    refine ev 11 0 rfl (by kernel_rfl) (wn rfl) hr (.int .i64 p1) (fun w => by kernel_rfl) ?_; clear hr a; intro a hr
    refine ev 10 1 rfl (by kernel_rfl) (wn rfl) hr (.pointer (some ⟨B0, 0, none⟩)) (fun w => by kernel_rfl) ?_; clear hr a; intro a hr
    refine evD hgo ⟨⟨(h.pick 1).cell 0 rfl, trivial⟩, ⟨(h.pick 1).cell 1 rfl, trivial⟩, trivial⟩ 9 2 rfl (by kernel_rfl) (wn rfl) hr (.pointer (some ⟨B0, 0, none⟩)) (fun w => by kernel_rfl) ?_; clear hr a; intro a hr
    refine evD hgo ⟨⟨(h.pick 1).cell 0 rfl, trivial⟩, ⟨(h.pick 1).cell 1 rfl, trivial⟩, trivial⟩ 8 3 rfl (by kernel_rfl) (wn rfl) hr (.pointer (some ⟨B0, 0, none⟩)) (fun w => by kernel_rfl) ?_; clear hr a; intro a hr
    refine ev 7 5 rfl (by kernel_rfl) (wn rfl) hr (.pointer (some ⟨B0, 0, none⟩)) (fun w => by kernel_rfl) ?_; clear hr a; intro a hr
    refine evD hgo ⟨⟨(h.pick 1).cell 0 rfl, trivial⟩, ⟨(h.pick 1).cell 1 rfl, trivial⟩, trivial⟩ 6 6 rfl (by kernel_rfl) (wn rfl) hr (.pointer (some ⟨B0, 0, none⟩)) (fun w => by kernel_rfl) ?_; clear hr a; intro a hr
    refine evD hgo ⟨⟨(h.pick 1).cell 0 rfl, trivial⟩, ⟨(h.pick 1).cell 1 rfl, trivial⟩, trivial⟩ 5 7 rfl (by kernel_rfl) (wn rfl) hr (.pointer (some ⟨B0, 1, none⟩)) (fun w => by kernel_rfl) ?_; clear hr a; intro a hr
    refine el [2, 3, 6, 7, 9] (b := B0) (off := 0) (cs := [.int .i64 p0.Most]) (fun _ hk => ⟨hk, fun w hD => hD.1⟩) 4 4 rfl (by kernel_rfl) (wn rfl) hr (.int .i64 p0.Most) ⟨(h.pick 1).cell 0 rfl, trivial⟩ (fun w hc => rl rfl (by kernel_rfl) (by kernel_rfl) hc.1) ?_; clear hr a; intro a hr
    refine el [2, 3, 6, 7, 9] (b := B0) (off := 1) (cs := [.slice ca1 p0.Held.length cc2]) (fun _ hk => ⟨hk, fun w hD => hD.2.1⟩) 3 8 rfl (by kernel_rfl) (wn rfl) hr (.slice ca1 p0.Held.length cc2) ⟨(h.pick 1).cell 1 rfl, trivial⟩ (fun w hc => rl rfl (by kernel_rfl) (by kernel_rfl) hc.1) ?_; clear hr a; intro a hr
    refine evD hgo ⟨⟨(h.pick 1).cell 0 rfl, trivial⟩, ⟨(h.pick 1).cell 1 rfl, trivial⟩, trivial⟩ 2 9 rfl (by kernel_rfl) (wn rfl) hr (.int .i64 ((p0.Held.length : Nat) : Int)) (fun w => by kernel_rfl) ?_; clear hr a; intro a hr
    refine ev 1 10 rfl (by kernel_rfl) (wn rfl) hr (.int .i64 (wi (p0.Most - ((p0.Held.length : Nat) : Int)))) (fun w => by kernel_rfl) ?_; clear hr a; intro a hr
    refine ev 0 11 rfl (by kernel_rfl) (wn rfl) hr (.bool (decide (p1 > (wi (p0.Most - ((p0.Held.length : Nat) : Int)))))) (fun w => by kernel_rfl) ?_; clear hr a; intro a hr
    refine e_end (by kernel_rfl) ?_
    refine then_normal ?_
    by_cases c9 : p1 > (wi (p0.Most - ((p0.Held.length : Nat) : Int)))
    ·
      replace H := ifT c9 H
      refine cond_tt hr (b := (decide (p1 > (wi (p0.Most - ((p0.Held.length : Nat) : Int)))))) (decide_eq_true c9) ?_
      refine wp_seq ?_
      refine wp_region_lit ?_
      replace H := bd1 H; obtain ⟨r10, e11, H⟩ := H
      have hc := plunderref2_refused_ok (H := e11) (h := h)
      refine op_call (wn rfl) rfl rfl hr (f := 78) (args := #[.int .i64 22]) (by kernel_rfl) hc ?_; clear hc h
      rintro _ w ⟨rfl, h⟩; refine ⟨_, rfl, ?_⟩
      clear hr a; intro a hr
      refine op_stores (wn rfl) rfl hr rfl (by kernel_rfl) (by kernel_rfl) (vs := [.int .i64 r10.V, .bool r10.OK, .int .i64 r10.Err]) rfl rfl (by kernel_rfl) h (i := 0) (cs' := #[.int .i64 r10.V, .bool r10.OK, .int .i64 r10.Err]) rfl ?_; clear h; intro w h
      refine wpList_nil ?_
      replace h : Fit z (sepL (ob39 b5 r10 :: ob62 B0 p0 ca1 cc2 ca3 cc4 :: ro2 ca1 cc2 p0.Held :: ro90 ca3 cc4 p0.Book :: L)) _ := h
      refine then_normal ?_
      refine wp_ret ?_
      refine then_ret ?_
      refine end_retC (cs := [.int .i64 r10.V, .bool r10.OK, .int .i64 r10.Err]) rfl hr (by kernel_rfl) (by kernel_rfl) (by kernel_rfl) ⟨h.cell 0 rfl, h.cell 1 rfl, h.cell 2 rfl, trivial⟩ ?_
      replace h : Fit z (sepL (ob62 B0 p0 ca1 cc2 ca3 cc4 :: ro2 ca1 cc2 p0.Held :: ro90 ca3 cc4 p0.Book :: L)) _ := h.sel 4 [1, 2, 3] (by kernel_rfl) (by kernel_rfl)
      replace H := ej2 H; obtain ⟨rfl, rfl⟩ := H
      exact ⟨ca1, cc2, ca3, cc4, rfl, h⟩
    ·
      replace H := ifF c9 H
      refine cond_ff hr (b := (decide (p1 > (wi (p0.Most - ((p0.Held.length : Nat) : Int)))))) (decide_eq_false c9) ?_
      refine wp_skip ?_
      refine then_normal ?_
      refine wp_seq ?_
      refine wp_region_lit ?_
      refine ovs [23, 24, 25] [.pointer (some ⟨B0, 0, none⟩), .pointer (some ⟨B0, 0, none⟩), .pointer (some ⟨B0, 1, none⟩)] hr ⟨rfl, rfl⟩ (by kernel_rfl) ?_; clear hr a; intro a hr
      refine op_val (wn rfl) rfl rfl hr (v := .slice ca1 p0.Held.length cc2) (rl rfl (by kernel_rfl) (by kernel_rfl) ((h.pick 1).cell 1 rfl)) ?_; clear hr a; intro a hr
      refine ovs [27, 5] [.int .i64 ((p0.Held.length : Nat) : Int), .int .i64 ((p0.Held.length : Nat) : Int)] hr ⟨rfl, rfl⟩ (by kernel_rfl) ?_; clear hr a; intro a hr
      refine wpList_nil ?_
      refine then_normal ?_
      replace H := kd1 H; obtain ⟨o16, H, hK15⟩ := H
      refine cut_rule (β := Unit) (fun _ a w => ∃ ca12 : Option Addr, ∃ cc13 : Nat, ∃ l14 : List Int, l14 = o16 ∧ ∃ j, Rep 53 (lk [(0, .pointer (some ⟨B0, 0, none⟩)), (1, .int .i64 p1), (4, .pointer (some ⟨b5, 0, none⟩)), (5, .int .i64 ((p0.Held.length : Nat) : Int))] j) a ∧ Fit z (sepL (pts B0 (.cells #[.int .i64 p0.Most, .slice ca12 l14.length cc13, .bool p0.On, .int .i64 p0.Actor, .slice ca3 p0.Book.length cc4] 62) :: ro2 ca12 cc13 l14 :: ro90 ca3 cc4 p0.Book :: pts b5 (.cells #[.int .i64 0, .bool false, .int .i64 0] 39) :: L)) w) ?_ ?_
      ·
        refine wp_seq ?_
        refine wp_region_lit ?_
        refine ov hr (.int .i64 0) (by kernel_rfl) ?_; clear hr a; intro a hr
        refine wpList_nil ?_
        refine then_normal ?_
        refine wp_block ?_
        replace hr := hr.fold2 [(0, .pointer (some ⟨B0, 0, none⟩)), (1, .int .i64 p1), (4, .pointer (some ⟨b5, 0, none⟩)), (5, .int .i64 ((p0.Held.length : Nat) : Int)), (6, .int .i64 0)] (by kernel_rfl); obtain ⟨j, hr⟩ := hr
        replace h : Fit z (sepL (ob62 B0 p0 ca1 cc2 ca3 cc4 :: ro2 ca1 cc2 p0.Held :: ro90 ca3 cc4 p0.Book :: pts b5 (.cells #[.int .i64 0, .bool false, .int .i64 0] 39) :: L)) _ := h.sel 4 [1, 2, 3, 0] (by kernel_rfl) (by kernel_rfl)
        refine loop_rule (β := Nat) id (fun m a w => ∃ ca17 : Option Addr, ∃ cc18 : Nat, ∃ l19 : List Int, ∃ g20 : Int, (plunderref2_Arena_reserve_l1 K p1 m l19 g20) = some o16 ∧ ∃ j, Rep 53 (lk [(0, .pointer (some ⟨B0, 0, none⟩)), (1, .int .i64 p1), (4, .pointer (some ⟨b5, 0, none⟩)), (5, .int .i64 ((p0.Held.length : Nat) : Int)), (6, .int .i64 g20)] j) a ∧ Fit z (sepL (pts B0 (.cells #[.int .i64 p0.Most, .slice ca17 l19.length cc18, .bool p0.On, .int .i64 p0.Actor, .slice ca3 p0.Book.length cc4] 62) :: ro2 ca17 cc18 l19 :: ro90 ca3 cc4 p0.Book :: pts b5 (.cells #[.int .i64 0, .bool false, .int .i64 0] 39) :: L)) w) K ⟨ca1, cc2, p0.Held, 0, H, j, hr, h⟩ ?_
        clear h hr a H; rintro k1 a w ⟨ca17, cc18, l19, g20, H, j, hr, h⟩
        cases k1 with
        | zero => exact absurd H (by simp [plunderref2_Arena_reserve_l1])
        | succ k1 =>
          rw [plunderref2_Arena_reserve_l1] at H
          refine wp_seq ?_
          refine wp_seq ?_
          refine wp_region_lit ?_
          refine ovs [28, 29, 30] [.int .i64 g20, .int .i64 p1, .bool (decide (g20 < p1))] hr ⟨rfl, rfl⟩ (by kernel_rfl) ?_; clear hr a; intro a hr
          refine wpList_nil ?_
          refine then_normal ?_
          by_cases c21 : g20 < p1
          ·
            replace H := ifT c21 H
            refine cond_tt hr (b := (decide (g20 < p1))) (decide_eq_true c21) ?_
            refine wp_skip ?_
            refine then_normal ?_
            refine wp_seq ?_
            refine wp_block ?_
            refine wp_region_lit ?_
            refine ovs [33, 34, 35, 36] [.pointer (some ⟨B0, 0, none⟩), .pointer (some ⟨B0, 0, none⟩), .pointer (some ⟨B0, 0, none⟩), .pointer (some ⟨B0, 1, none⟩)] hr ⟨rfl, rfl⟩ (by kernel_rfl) ?_; clear hr a; intro a hr
            refine op_val (wn rfl) rfl rfl hr (v := .slice ca17 l19.length cc18) (rl rfl (by kernel_rfl) (by kernel_rfl) (h.cell 1 rfl)) ?_; clear hr a; intro a hr
            refine op_new (wn rfl) rfl rfl hr h (vf := fun b => .slice (some ⟨b, 0, none⟩) 1 1) (cs := #[.int .i64 0]) (T := 2) (by kernel_rfl) ?_; clear h hr a; intro b22 w a h hr
            replace h : Fit z (sepL (ro2 ca17 cc18 l19 :: pts b22 (.cells #[.int .i64 0] 2) :: pts B0 (.cells #[.int .i64 p0.Most, .slice ca17 l19.length cc18, .bool p0.On, .int .i64 p0.Actor, .slice ca3 p0.Book.length cc4] 62) :: ro90 ca3 cc4 p0.Book :: pts b5 (.cells #[.int .i64 0, .bool false, .int .i64 0] 39) :: L)) _ := h.sel 5 [2, 0, 1, 3, 4] (by kernel_rfl) (by kernel_rfl)
            replace H := gd H; obtain ⟨c25, H⟩ := H
            refine op_append (n0 := l19.length) (c := 1) (bytes := 8) (wn rfl) rfl rfl hr rfl (by kernel_rfl) (by kernel_rfl) encZ_i64_ok (E := 2) (xs := l19) (by kernel_rfl) (by kernel_rfl) h (news := [0]) (m := 1) rfl ((h.pick 1).news rfl) c25 rfl ?_; clear h hr a; intro ca23 cc24 w a h hr
            refine ovs [40, 41] [.pointer (some ⟨B0, 0, none⟩), .pointer (some ⟨B0, 1, none⟩)] hr ⟨rfl, rfl⟩ (by kernel_rfl) ?_; clear hr a; intro a hr
            replace h : Fit z (sepL (pts B0 (.cells #[.int .i64 p0.Most, .slice ca17 l19.length cc18, .bool p0.On, .int .i64 p0.Actor, .slice ca3 p0.Book.length cc4] 62) :: ro2 ca23 cc24 (l19 ++ [0]) :: pts b22 (.cells #[.int .i64 0] 2) :: ro90 ca3 cc4 p0.Book :: pts b5 (.cells #[.int .i64 0, .bool false, .int .i64 0] 39) :: L)) _ := h.sel 5 [2, 0, 1, 3, 4] (by kernel_rfl) (by kernel_rfl)
            refine op_store (wn rfl) rfl hr rfl (by kernel_rfl) (by kernel_rfl) (v := .slice ca23 ((l19 ++ [0]).length) cc24) rfl rfl (by kernel_rfl) h (i := 1) rfl ?_; clear h; intro w h
            refine wpList_nil ?_
            replace h : Fit z (sepL (pts B0 (.cells #[.int .i64 p0.Most, .slice ca23 ((l19 ++ [0]).length) cc24, .bool p0.On, .int .i64 p0.Actor, .slice ca3 p0.Book.length cc4] 62) :: ro2 ca23 cc24 (l19 ++ [0]) :: pts b22 (.cells #[.int .i64 0] 2) :: ro90 ca3 cc4 p0.Book :: pts b5 (.cells #[.int .i64 0, .bool false, .int .i64 0] 39) :: L)) _ := h
            refine blk_normal ?_
            refine then_normal ?_
            refine wp_region_lit ?_
            refine ovs [31, 32, 6] [.int .i64 g20, .int .i64 (wi (g20 + (1 : Int))), .int .i64 (wi (g20 + (1 : Int)))] hr ⟨rfl, rfl⟩ (by kernel_rfl) ?_; clear hr a; intro a hr
            refine wpList_nil ?_
            refine then_normal ?_
            replace hr := hr.fold2 [(0, .pointer (some ⟨B0, 0, none⟩)), (1, .int .i64 p1), (4, .pointer (some ⟨b5, 0, none⟩)), (5, .int .i64 ((p0.Held.length : Nat) : Int)), (6, .int .i64 (wi (g20 + (1 : Int))))] (by kernel_rfl); obtain ⟨j, hr⟩ := hr
            replace h : Fit z (sepL (pts B0 (.cells #[.int .i64 p0.Most, .slice ca23 ((l19 ++ [0]).length) cc24, .bool p0.On, .int .i64 p0.Actor, .slice ca3 p0.Book.length cc4] 62) :: ro2 ca23 cc24 (l19 ++ [0]) :: ro90 ca3 cc4 p0.Book :: pts b5 (.cells #[.int .i64 0, .bool false, .int .i64 0] 39) :: L)) _ := h.sel 5 [0, 1, 3, 4] (by kernel_rfl) (by kernel_rfl)
            exact ⟨_, ⟨ca23, cc24, (l19 ++ [0]), (wi (g20 + (1 : Int))), H, j, hr, h⟩, Nat.lt_succ_self _⟩
          ·
            replace H := ifF c21 H
            refine cond_ff hr (b := (decide (g20 < p1))) (decide_eq_false c21) ?_
            refine wp_exit ?_
            refine then_exit ?_
            refine then_exit ?_
            refine blk_here ?_
            refine then_normal ?_
            replace hr := hr.fold2 [(0, .pointer (some ⟨B0, 0, none⟩)), (1, .int .i64 p1), (4, .pointer (some ⟨b5, 0, none⟩)), (5, .int .i64 ((p0.Held.length : Nat) : Int))] (by kernel_rfl); obtain ⟨j, hr⟩ := hr
            exact ⟨(), ca17, cc18, l19, sinj H, j, hr, h⟩
      clear h hr a; rintro _ a w ⟨ca12, cc13, l14, rfl, j, hr, h⟩
      replace H := kk1 hK15
      refine wp_seq ?_
      refine wp_region_lit ?_
      refine ovs [42, 43, 44, 45] [.pointer (some ⟨B0, 0, none⟩), .pointer (some ⟨B0, 0, none⟩), .pointer (some ⟨B0, 0, none⟩), .pointer (some ⟨B0, 3, none⟩)] hr ⟨rfl, rfl⟩ (by kernel_rfl) ?_; clear hr a; intro a hr
      refine op_val (wn rfl) rfl rfl hr (v := .int .i64 p0.Actor) (rl rfl (by kernel_rfl) (by kernel_rfl) (h.cell 3 rfl)) ?_; clear hr a; intro a hr
      replace H := bd1 H; obtain ⟨S26, e27, H⟩ := H
      refine ovs [47, 48, 49] [.int .i64 ((p0.Held.length : Nat) : Int), .int .i64 p1, .agg #[.int .i64 p0.Actor, .int .i64 4, .int .i64 ((p0.Held.length : Nat) : Int), .int .i64 p1, .int .i64 0, .bool true]] hr ⟨rfl, rfl⟩ (by kernel_rfl) ?_; clear hr a; intro a hr
      have hc := plunderref2_Arena_note_ok (H := e27) (h := h)
      refine op_call (wn rfl) rfl rfl hr (f := 80) (args := #[.pointer (some ⟨B0, 0, none⟩), .agg #[.int .i64 p0.Actor, .int .i64 4, .int .i64 ((p0.Held.length : Nat) : Int), .int .i64 p1, .int .i64 0, .bool true]]) (by kernel_rfl) hc ?_; clear hc h
      rintro _ w ⟨caq28, ccq29, caq30, ccq31, rfl, h⟩; refine ⟨_, rfl, ?_⟩
      clear hr a; intro a hr
      refine wpList_nil ?_
      refine then_normal ?_
      refine wp_seq ?_
      refine wp_region_lit ?_
      refine ovs [51, 52] [.int .i64 ((p0.Held.length : Nat) : Int), .agg #[.int .i64 ((p0.Held.length : Nat) : Int), .bool true, .int .i64 0]] hr ⟨rfl, rfl⟩ (by kernel_rfl) ?_; clear hr a; intro a hr
      replace h : Fit z (sepL (pts b5 (.cells #[.int .i64 0, .bool false, .int .i64 0] 39) :: ob62 B0 S26 caq28 ccq29 caq30 ccq31 :: ro2 caq28 ccq29 S26.Held :: ro90 caq30 ccq31 S26.Book :: L)) _ := h.sel 4 [3, 0, 1, 2] (by kernel_rfl) (by kernel_rfl)
      refine op_stores (wn rfl) rfl hr rfl (by kernel_rfl) (by kernel_rfl) (vs := [.int .i64 ((p0.Held.length : Nat) : Int), .bool true, .int .i64 0]) rfl rfl (by kernel_rfl) h (i := 0) (cs' := #[.int .i64 ((p0.Held.length : Nat) : Int), .bool true, .int .i64 0]) rfl ?_; clear h; intro w h
      refine wpList_nil ?_
      replace h : Fit z (sepL (pts b5 (.cells #[.int .i64 ((p0.Held.length : Nat) : Int), .bool true, .int .i64 0] 39) :: ob62 B0 S26 caq28 ccq29 caq30 ccq31 :: ro2 caq28 ccq29 S26.Held :: ro90 caq30 ccq31 S26.Book :: L)) _ := h
      refine then_normal ?_
      refine wp_ret ?_
      refine end_retC (cs := [.int .i64 ((p0.Held.length : Nat) : Int), .bool true, .int .i64 0]) rfl hr (by kernel_rfl) (by kernel_rfl) (by kernel_rfl) ⟨h.cell 0 rfl, h.cell 1 rfl, h.cell 2 rfl, trivial⟩ ?_
      replace h : Fit z (sepL (ob62 B0 S26 caq28 ccq29 caq30 ccq31 :: ro2 caq28 ccq29 S26.Held :: ro90 caq30 ccq31 S26.Book :: L)) _ := h.sel 4 [1, 2, 3] (by kernel_rfl) (by kernel_rfl)
      replace H := ej2 H; obtain ⟨rfl, rfl⟩ := H
      exact ⟨caq28, ccq29, caq30, ccq31, rfl, h⟩

/-- (*plunder/plunderref2.Arena).Do -/
def plunderref2_Arena_Do (K : Nat) (p0 : T_plunderref2_Arena) (p1 : T_api_Act) : Option (T_api_Effect × T_plunderref2_Arena) :=
  jn0 ((if p1.Kind < (0 : Int) then ob1 (plunderref2_refused 23) (fun r10 => some (.inr (r10, p0))) else (if p1.Kind > (4 : Int) then ob1 (plunderref2_refused 23) (fun r13 => some (.inr (r13, p0))) else some (.inl ())))) ((if p1.Kind = (4 : Int) then ob2 (plunderref2_Arena_reserve K p0 p1.A) (fun r16 S17 => some (r16, S17)) else jn0 ((if p1.Addr < (0 : Int) then ob1 (plunderref2_refused 20) (fun r27 => some (.inr (r27, p0))) else (if p1.Addr ≥ ((p0.Held.length : Nat) : Int) then ob1 (plunderref2_refused 20) (fun r30 => some (.inr (r30, p0))) else some (.inl ())))) (if inr_ p1.Addr p0.Held.length then (if p1.Kind = (0 : Int) then ob1 (plunderref2_Arena_note p0 (⟨p0.Actor, p1.Kind, p1.Addr, (at_ p0.Held p1.Addr.toNat), 0, true⟩ : T_api_Access)) (fun S36 => some ((⟨(at_ p0.Held p1.Addr.toNat), true, 0⟩ : T_api_Effect), S36)) else (if p1.Kind = (1 : Int) then ob1 (plunderref2_Arena_note ({ p0 with Held := p0.Held.set p1.Addr.toNat p1.A }) (⟨p0.Actor, p1.Kind, p1.Addr, p1.A, 0, true⟩ : T_api_Access)) (fun S44 => some ((⟨0, true, 0⟩ : T_api_Effect), S44)) else (if p1.Kind = (2 : Int) then (if (at_ p0.Held p1.Addr.toNat) = p1.A then ob1 (plunderref2_Arena_note ({ p0 with Held := p0.Held.set p1.Addr.toNat p1.B }) (⟨p0.Actor, p1.Kind, p1.Addr, p1.A, p1.B, (at_ p0.Held p1.Addr.toNat) == p1.A⟩ : T_api_Access)) (fun S53 => some ((⟨0, (at_ p0.Held p1.Addr.toNat) == p1.A, 0⟩ : T_api_Effect), S53)) else ob1 (plunderref2_Arena_note p0 (⟨p0.Actor, p1.Kind, p1.Addr, p1.A, p1.B, (at_ p0.Held p1.Addr.toNat) == p1.A⟩ : T_api_Access)) (fun S59 => some ((⟨0, (at_ p0.Held p1.Addr.toNat) == p1.A, 0⟩ : T_api_Effect), S59))) else ob1 (plunderref2_Arena_note ({ p0 with Held := p0.Held.set p1.Addr.toNat (wi ((at_ p0.Held p1.Addr.toNat) + p1.A)) }) (⟨p0.Actor, p1.Kind, p1.Addr, p1.A, wi ((at_ p0.Held p1.Addr.toNat) + p1.A), true⟩ : T_api_Access)) (fun S66 => some ((⟨wi ((at_ p0.Held p1.Addr.toNat) + p1.A), true, 0⟩ : T_api_Effect), S66))))) else none)))
set_option maxRecDepth 100000 in
set_option maxHeartbeats 4000000 in
theorem plunderref2_Arena_Do_ok {z w : World} {L : List HProp} {K : Nat} {p0 : T_plunderref2_Arena} {p1 : T_api_Act} {B0 : Nat} {ca1 : Option Addr} {cc2 : Nat} {ca3 : Option Addr} {cc4 : Nat} {r0 : T_api_Effect} {q0 : T_plunderref2_Arena} (H : plunderref2_Arena_Do K p0 p1 = some (r0, q0)) (h : Fit z (sepL (ob62 B0 p0 ca1 cc2 ca3 cc4 :: ro2 ca1 cc2 p0.Held :: ro90 ca3 cc4 p0.Book :: L)) w)  :
    Calls Try.prog 30 #[.pointer (some ⟨B0, 0, none⟩), .agg #[.int .i64 p1.Who, .int .i64 p1.Kind, .int .i64 p1.Addr, .int .i64 p1.A, .int .i64 p1.B]] w fun e w => ∃ caq0_1 : Option Addr, ∃ ccq0_2 : Nat, ∃ caq0_3 : Option Addr, ∃ ccq0_4 : Nat, e = .returned (.agg #[.int .i64 r0.V, .bool r0.OK, .int .i64 r0.Err]) ∧ Fit z (sepL (ob62 B0 q0 caq0_1 ccq0_2 caq0_3 ccq0_4 :: ro2 caq0_1 ccq0_2 q0.Held :: ro90 caq0_3 ccq0_4 q0.Book :: L)) w := by
  unfold plunderref2_Arena_Do at H
  refine enter Try.func30 rfl 139 rfl rfl [(0, .pointer (some ⟨B0, 0, none⟩)), (1, .agg #[.int .i64 p1.Who, .int .i64 p1.Kind, .int .i64 p1.Addr, .int .i64 p1.A, .int .i64 p1.B])] ⟨rfl, rfl, trivial⟩ ?_
  intro j a hr
  refine wp_seq ?_
  refine wp_region_lit ?_
  refine op_new (wn rfl) rfl rfl hr h (vf := fun b => .pointer (some ⟨b, 0, none⟩)) (cs := #[.int .i64 p1.Who, .int .i64 p1.Kind, .int .i64 p1.Addr, .int .i64 p1.A, .int .i64 p1.B]) (T := 57) (by kernel_rfl) ?_; clear h hr a; intro b5 w a h hr
  refine op_new (wn rfl) rfl rfl hr h (vf := fun b => .pointer (some ⟨b, 0, none⟩)) (cs := #[.int .i64 0, .bool false, .int .i64 0]) (T := 39) (by kernel_rfl) ?_; clear h hr a; intro b6 w a h hr
  refine wpList_nil ?_
  refine then_normal ?_
  replace H := jd0 H; obtain ⟨o8, H, hK7⟩ := H
  refine cut_rule (β := Unit) (fun _ a w => .inl () = o8 ∧ ∃ j, Rep 139 (lk [(0, .pointer (some ⟨B0, 0, none⟩)), (3, .pointer (some ⟨b5, 0, none⟩)), (4, .pointer (some ⟨b6, 0, none⟩))] j) a ∧ Fit z (sepL (ob62 B0 p0 ca1 cc2 ca3 cc4 :: ro2 ca1 cc2 p0.Held :: ro90 ca3 cc4 p0.Book :: ob57 b5 p1 :: pts b6 (.cells #[.int .i64 0, .bool false, .int .i64 0] 39) :: L)) w) ?_ ?_
  ·
    refine wp_seq ?_
    refine wp_region_lit ?_
    refine ov hr (.pointer (some ⟨b5, 1, none⟩)) (by kernel_rfl) ?_; clear hr a; intro a hr
    refine op_val (wn rfl) rfl rfl hr (v := .int .i64 p1.Kind) (rl rfl (by kernel_rfl) (by kernel_rfl) ((h.pick 1).cell 1 rfl)) ?_; clear hr a; intro a hr
    refine ovs [11, 12] [.bool (decide (p1.Kind < (0 : Int))), .bool (decide (p1.Kind < (0 : Int)))] hr ⟨rfl, rfl⟩ (by kernel_rfl) ?_; clear hr a; intro a hr
    by_cases c9 : p1.Kind < (0 : Int)
    ·
      replace H := ifT c9 H
      refine op_off ((wg hr rfl rfl rfl (b' := (decide (p1.Kind < (0 : Int)))) (by kernel_rfl)).trans (by rw [show (decide (p1.Kind < (0 : Int))) = true from (decide_eq_true c9)]; rfl)) rfl rfl hr ?_; clear hr a; intro a hr
      refine op_off ((wg hr rfl rfl rfl (b' := (decide (p1.Kind < (0 : Int)))) (by kernel_rfl)).trans (by rw [show (decide (p1.Kind < (0 : Int))) = true from (decide_eq_true c9)]; rfl)) rfl rfl hr ?_; clear hr a; intro a hr
      refine op_off ((wg hr rfl rfl rfl (b' := (decide (p1.Kind < (0 : Int)))) (by kernel_rfl)).trans (by rw [show (decide (p1.Kind < (0 : Int))) = true from (decide_eq_true c9)]; rfl)) rfl rfl hr ?_; clear hr a; intro a hr
      refine op_val (wn rfl) rfl rfl hr (v := .bool true) (rp_t (b := (decide (p1.Kind < (0 : Int)))) rfl (by kernel_rfl) (decide_eq_true c9) (by kernel_rfl)) ?_; clear hr a; intro a hr
      refine wpList_nil ?_
      refine then_normal ?_
      refine cond_tt hr (b := true) rfl ?_
      refine wp_seq ?_
      refine wp_region_lit ?_
      replace H := bd1 H; obtain ⟨r10, e11, H⟩ := H
      have hc := plunderref2_refused_ok (H := e11) (h := h)
      refine op_call (wn rfl) rfl rfl hr (f := 78) (args := #[.int .i64 23]) (by kernel_rfl) hc ?_; clear hc h
      rintro _ w ⟨rfl, h⟩; refine ⟨_, rfl, ?_⟩
      clear hr a; intro a hr
      refine op_stores (wn rfl) rfl hr rfl (by kernel_rfl) (by kernel_rfl) (vs := [.int .i64 r10.V, .bool r10.OK, .int .i64 r10.Err]) rfl rfl (by kernel_rfl) h (i := 0) (cs' := #[.int .i64 r10.V, .bool r10.OK, .int .i64 r10.Err]) rfl ?_; clear h; intro w h
      refine wpList_nil ?_
      replace h : Fit z (sepL (ob39 b6 r10 :: ob57 b5 p1 :: ob62 B0 p0 ca1 cc2 ca3 cc4 :: ro2 ca1 cc2 p0.Held :: ro90 ca3 cc4 p0.Book :: L)) _ := h
      refine then_normal ?_
      refine wp_ret ?_
      refine then_ret ?_
      refine end_retC (cs := [.int .i64 r10.V, .bool r10.OK, .int .i64 r10.Err]) rfl hr (by kernel_rfl) (by kernel_rfl) (by kernel_rfl) ⟨h.cell 0 rfl, h.cell 1 rfl, h.cell 2 rfl, trivial⟩ ?_
      replace H := jx0 H hK7
      replace h : Fit z (sepL (ob62 B0 p0 ca1 cc2 ca3 cc4 :: ro2 ca1 cc2 p0.Held :: ro90 ca3 cc4 p0.Book :: L)) _ := h.sel 5 [2, 3, 4] (by kernel_rfl) (by kernel_rfl)
      replace H := ej2 H; obtain ⟨rfl, rfl⟩ := H
      exact ⟨ca1, cc2, ca3, cc4, rfl, h⟩
    ·
      replace H := ifF c9 H
      refine op_val ((wg hr rfl rfl rfl (b' := (decide (p1.Kind < (0 : Int)))) (by kernel_rfl)).trans (by rw [show (decide (p1.Kind < (0 : Int))) = false from (decide_eq_false c9)]; rfl)) rfl rfl hr (v := .pointer (some ⟨b5, 1, none⟩)) (by kernel_rfl) ?_; clear hr a; intro a hr
      refine op_val ((wg hr rfl rfl rfl (b' := (decide (p1.Kind < (0 : Int)))) (by kernel_rfl)).trans (by rw [show (decide (p1.Kind < (0 : Int))) = false from (decide_eq_false c9)]; rfl)) rfl rfl hr (v := .int .i64 p1.Kind) (rl rfl (by kernel_rfl) (by kernel_rfl) ((h.pick 1).cell 1 rfl)) ?_; clear hr a; intro a hr
      refine op_val ((wg hr rfl rfl rfl (b' := (decide (p1.Kind < (0 : Int)))) (by kernel_rfl)).trans (by rw [show (decide (p1.Kind < (0 : Int))) = false from (decide_eq_false c9)]; rfl)) rfl rfl hr (v := .bool (decide (p1.Kind > (4 : Int)))) (by kernel_rfl) ?_; clear hr a; intro a hr
      refine op_val (wn rfl) rfl rfl hr (v := .bool (decide (p1.Kind > (4 : Int)))) (rp_f (b := (decide (p1.Kind < (0 : Int)))) rfl (by kernel_rfl) (decide_eq_false c9) (by kernel_rfl)) ?_; clear hr a; intro a hr
      refine wpList_nil ?_
      refine then_normal ?_
      by_cases c12 : p1.Kind > (4 : Int)
      ·
        replace H := ifT c12 H
        refine cond_tt hr (b := (decide (p1.Kind > (4 : Int)))) (decide_eq_true c12) ?_
        refine wp_seq ?_
        refine wp_region_lit ?_
        replace H := bd1 H; obtain ⟨r13, e14, H⟩ := H
        have hc := plunderref2_refused_ok (H := e14) (h := h)
        refine op_call (wn rfl) rfl rfl hr (f := 78) (args := #[.int .i64 23]) (by kernel_rfl) hc ?_; clear hc h
        rintro _ w ⟨rfl, h⟩; refine ⟨_, rfl, ?_⟩
        clear hr a; intro a hr
        refine op_stores (wn rfl) rfl hr rfl (by kernel_rfl) (by kernel_rfl) (vs := [.int .i64 r13.V, .bool r13.OK, .int .i64 r13.Err]) rfl rfl (by kernel_rfl) h (i := 0) (cs' := #[.int .i64 r13.V, .bool r13.OK, .int .i64 r13.Err]) rfl ?_; clear h; intro w h
        refine wpList_nil ?_
        replace h : Fit z (sepL (ob39 b6 r13 :: ob57 b5 p1 :: ob62 B0 p0 ca1 cc2 ca3 cc4 :: ro2 ca1 cc2 p0.Held :: ro90 ca3 cc4 p0.Book :: L)) _ := h
        refine then_normal ?_
        refine wp_ret ?_
        refine then_ret ?_
        refine end_retC (cs := [.int .i64 r13.V, .bool r13.OK, .int .i64 r13.Err]) rfl hr (by kernel_rfl) (by kernel_rfl) (by kernel_rfl) ⟨h.cell 0 rfl, h.cell 1 rfl, h.cell 2 rfl, trivial⟩ ?_
        replace H := jx0 H hK7
        replace h : Fit z (sepL (ob62 B0 p0 ca1 cc2 ca3 cc4 :: ro2 ca1 cc2 p0.Held :: ro90 ca3 cc4 p0.Book :: L)) _ := h.sel 5 [2, 3, 4] (by kernel_rfl) (by kernel_rfl)
        replace H := ej2 H; obtain ⟨rfl, rfl⟩ := H
        exact ⟨ca1, cc2, ca3, cc4, rfl, h⟩
      ·
        replace H := ifF c12 H
        refine cond_ff hr (b := (decide (p1.Kind > (4 : Int)))) (decide_eq_false c12) ?_
        refine wp_skip ?_
        refine then_normal ?_
        replace hr := hr.fold2 [(0, .pointer (some ⟨B0, 0, none⟩)), (3, .pointer (some ⟨b5, 0, none⟩)), (4, .pointer (some ⟨b6, 0, none⟩))] (by kernel_rfl); obtain ⟨j, hr⟩ := hr
        replace h : Fit z (sepL (ob62 B0 p0 ca1 cc2 ca3 cc4 :: ro2 ca1 cc2 p0.Held :: ro90 ca3 cc4 p0.Book :: ob57 b5 p1 :: pts b6 (.cells #[.int .i64 0, .bool false, .int .i64 0] 39) :: L)) _ := h.sel 5 [2, 3, 4, 1, 0] (by kernel_rfl) (by kernel_rfl)
        exact ⟨(), sinj H, j, hr, h⟩
  clear h hr a; rintro _ a w ⟨rfl, j, hr, h⟩
  replace H := jk0 hK7
  refine wp_seq ?_
  refine wp_seq ?_
  refine wp_region_lit ?_
  refine ov hr (.pointer (some ⟨b5, 1, none⟩)) (by kernel_rfl) ?_; clear hr a; intro a hr
  refine op_val (wn rfl) rfl rfl hr (v := .int .i64 p1.Kind) (rl rfl (by kernel_rfl) (by kernel_rfl) ((h.pick 3).cell 1 rfl)) ?_; clear hr a; intro a hr
  refine ov hr (.bool (p1.Kind == (4 : Int))) (by kernel_rfl) ?_; clear hr a; intro a hr
  refine wpList_nil ?_
  refine then_normal ?_
  by_cases c15 : p1.Kind = (4 : Int)
  ·
    replace H := ifT c15 H
    refine cond_tt hr (b := (p1.Kind == (4 : Int))) (beq_iff_eq.mpr c15) ?_
    refine wp_seq ?_
    refine wp_region_lit ?_
    refine ovs [21, 22] [.pointer (some ⟨B0, 0, none⟩), .pointer (some ⟨b5, 3, none⟩)] hr ⟨rfl, rfl⟩ (by kernel_rfl) ?_; clear hr a; intro a hr
    refine op_val (wn rfl) rfl rfl hr (v := .int .i64 p1.A) (rl rfl (by kernel_rfl) (by kernel_rfl) ((h.pick 3).cell 3 rfl)) ?_; clear hr a; intro a hr
    replace H := bd2 H; obtain ⟨r16, S17, e18, H⟩ := H
    have hc := plunderref2_Arena_reserve_ok (H := e18) (h := h)
    refine op_call (wn rfl) rfl rfl hr (f := 79) (args := #[.pointer (some ⟨B0, 0, none⟩), .int .i64 p1.A]) (by kernel_rfl) hc ?_; clear hc h
    rintro _ w ⟨caq19, ccq20, caq21, ccq22, rfl, h⟩; refine ⟨_, rfl, ?_⟩
    clear hr a; intro a hr
    refine op_new (wn rfl) rfl rfl hr h (vf := fun b => .pointer (some ⟨b, 0, none⟩)) (cs := #[.int .i64 0, .bool false, .int .i64 0]) (T := 39) (by kernel_rfl) ?_; clear h hr a; intro b23 w a h hr
    refine op_stores (wn rfl) rfl hr rfl (by kernel_rfl) (by kernel_rfl) (vs := [.int .i64 r16.V, .bool r16.OK, .int .i64 r16.Err]) rfl rfl (by kernel_rfl) h (i := 0) (cs' := #[.int .i64 r16.V, .bool r16.OK, .int .i64 r16.Err]) rfl ?_; clear h; intro w h
    refine wpList_nil ?_
    replace h : Fit z (sepL (ob39 b23 r16 :: ob62 B0 S17 caq19 ccq20 caq21 ccq22 :: ro2 caq19 ccq20 S17.Held :: ro90 caq21 ccq22 S17.Book :: ob57 b5 p1 :: pts b6 (.cells #[.int .i64 0, .bool false, .int .i64 0] 39) :: L)) _ := h
    refine then_normal ?_
    refine wp_seq ?_
    refine wp_region_lit ?_
    refine op_val (wn rfl) rfl rfl hr (v := .agg #[.int .i64 r16.V, .bool r16.OK, .int .i64 r16.Err]) (rlm (cs := [.int .i64 r16.V, .bool r16.OK, .int .i64 r16.Err]) rfl (by kernel_rfl) (by kernel_rfl) (by kernel_rfl) ⟨h.cell 0 rfl, h.cell 1 rfl, h.cell 2 rfl, trivial⟩) ?_; clear hr a; intro a hr
    replace h : Fit z (sepL (pts b6 (.cells #[.int .i64 0, .bool false, .int .i64 0] 39) :: ob39 b23 r16 :: ob62 B0 S17 caq19 ccq20 caq21 ccq22 :: ro2 caq19 ccq20 S17.Held :: ro90 caq21 ccq22 S17.Book :: ob57 b5 p1 :: L)) _ := h.sel 6 [5, 0, 1, 2, 3, 4] (by kernel_rfl) (by kernel_rfl)
    refine op_stores (wn rfl) rfl hr rfl (by kernel_rfl) (by kernel_rfl) (vs := [.int .i64 r16.V, .bool r16.OK, .int .i64 r16.Err]) rfl rfl (by kernel_rfl) h (i := 0) (cs' := #[.int .i64 r16.V, .bool r16.OK, .int .i64 r16.Err]) rfl ?_; clear h; intro w h
    refine wpList_nil ?_
    replace h : Fit z (sepL (ob39 b6 r16 :: ob39 b23 r16 :: ob62 B0 S17 caq19 ccq20 caq21 ccq22 :: ro2 caq19 ccq20 S17.Held :: ro90 caq21 ccq22 S17.Book :: ob57 b5 p1 :: L)) _ := h
    refine then_normal ?_
    refine wp_ret ?_
    refine then_ret ?_
    refine end_retC (cs := [.int .i64 r16.V, .bool r16.OK, .int .i64 r16.Err]) rfl hr (by kernel_rfl) (by kernel_rfl) (by kernel_rfl) ⟨h.cell 0 rfl, h.cell 1 rfl, h.cell 2 rfl, trivial⟩ ?_
    replace h : Fit z (sepL (ob62 B0 S17 caq19 ccq20 caq21 ccq22 :: ro2 caq19 ccq20 S17.Held :: ro90 caq21 ccq22 S17.Book :: L)) _ := h.sel 6 [2, 3, 4] (by kernel_rfl) (by kernel_rfl)
    replace H := ej2 H; obtain ⟨rfl, rfl⟩ := H
    exact ⟨caq19, ccq20, caq21, ccq22, rfl, h⟩
  ·
    replace H := ifF c15 H
    refine cond_ff hr (b := (p1.Kind == (4 : Int))) (beq_eq_false_iff_ne.mpr c15) ?_
    refine wp_skip ?_
    refine then_normal ?_
    replace H := jd0 H; obtain ⟨o25, H, hK24⟩ := H
    refine cut_rule (β := Unit) (fun _ a w => .inl () = o25 ∧ ∃ j, Rep 139 (lk [(0, .pointer (some ⟨B0, 0, none⟩)), (3, .pointer (some ⟨b5, 0, none⟩)), (4, .pointer (some ⟨b6, 0, none⟩))] j) a ∧ Fit z (sepL (ob62 B0 p0 ca1 cc2 ca3 cc4 :: ro2 ca1 cc2 p0.Held :: ro90 ca3 cc4 p0.Book :: ob57 b5 p1 :: pts b6 (.cells #[.int .i64 0, .bool false, .int .i64 0] 39) :: L)) w) ?_ ?_
    ·
      refine wp_seq ?_
      by_cases c26 : p1.Addr < (0 : Int)
      ·
        replace H := ifT c26 H
        refine reg_E (fun w => heldC w b5 2 [.int .i64 p1.Addr] ∧ True) [0] h (by kernel_rfl) ?_; intro w h
        change wpAnyE _ _ _ _ _ _ 13 (Array.replicate 13 false) a w
        have hgo : ∀ w w', CellsGo w w' → (heldC w b5 2 [.int .i64 p1.Addr] ∧ True) → heldC w' b5 2 [.int .i64 p1.Addr] ∧ True := fun w w' g hD => ⟨heldC_go _ _ _ _ _ g hD.1, trivial⟩
        refine evD hgo ⟨⟨(h.pick 3).cell 2 rfl, trivial⟩, trivial⟩ 12 0 rfl (by kernel_rfl) (wn rfl) hr (.pointer (some ⟨b5, 2, none⟩)) (fun w => by kernel_rfl) ?_; clear hr a; intro a hr
        refine el [0] (b := b5) (off := 2) (cs := [.int .i64 p1.Addr]) (fun _ hk => ⟨hk, fun w hD => hD.1⟩) 11 1 rfl (by kernel_rfl) (wn rfl) hr (.int .i64 p1.Addr) ⟨(h.pick 3).cell 2 rfl, trivial⟩ (fun w hc => rl rfl (by kernel_rfl) (by kernel_rfl) hc.1) ?_; clear hr a; intro a hr
        refine ev 10 2 rfl (by kernel_rfl) (wn rfl) hr (.bool (decide (p1.Addr < (0 : Int)))) (fun w => by kernel_rfl) ?_; clear hr a; intro a hr
        refine ev 9 3 rfl (by kernel_rfl) (wn rfl) hr (.bool (decide (p1.Addr < (0 : Int)))) (fun w => by kernel_rfl) ?_; clear hr a; intro a hr
        refine eo 8 4 rfl (by kernel_rfl) ((wg hr rfl rfl rfl (b' := (decide (p1.Addr < (0 : Int)))) (by kernel_rfl)).trans (by rw [show (decide (p1.Addr < (0 : Int))) = true from (decide_eq_true c26)]; rfl)) hr ?_; clear hr a; intro a hr
        refine eo 7 6 rfl (by kernel_rfl) ((wg hr rfl rfl rfl (b' := (decide (p1.Addr < (0 : Int)))) (by kernel_rfl)).trans (by rw [show (decide (p1.Addr < (0 : Int))) = true from (decide_eq_true c26)]; rfl)) hr ?_; clear hr a; intro a hr
        refine eo 6 7 rfl (by kernel_rfl) ((wg hr rfl rfl rfl (b' := (decide (p1.Addr < (0 : Int)))) (by kernel_rfl)).trans (by rw [show (decide (p1.Addr < (0 : Int))) = true from (decide_eq_true c26)]; rfl)) hr ?_; clear hr a; intro a hr
        refine eo 5 8 rfl (by kernel_rfl) ((wg hr rfl rfl rfl (b' := (decide (p1.Addr < (0 : Int)))) (by kernel_rfl)).trans (by rw [show (decide (p1.Addr < (0 : Int))) = true from (decide_eq_true c26)]; rfl)) hr ?_; clear hr a; intro a hr
        refine eo 4 5 rfl (by kernel_rfl) ((wg hr rfl rfl rfl (b' := (decide (p1.Addr < (0 : Int)))) (by kernel_rfl)).trans (by rw [show (decide (p1.Addr < (0 : Int))) = true from (decide_eq_true c26)]; rfl)) hr ?_; clear hr a; intro a hr
        refine eo 3 9 rfl (by kernel_rfl) ((wg hr rfl rfl rfl (b' := (decide (p1.Addr < (0 : Int)))) (by kernel_rfl)).trans (by rw [show (decide (p1.Addr < (0 : Int))) = true from (decide_eq_true c26)]; rfl)) hr ?_; clear hr a; intro a hr
        refine eo 2 10 rfl (by kernel_rfl) ((wg hr rfl rfl rfl (b' := (decide (p1.Addr < (0 : Int)))) (by kernel_rfl)).trans (by rw [show (decide (p1.Addr < (0 : Int))) = true from (decide_eq_true c26)]; rfl)) hr ?_; clear hr a; intro a hr
        refine eo 1 11 rfl (by kernel_rfl) ((wg hr rfl rfl rfl (b' := (decide (p1.Addr < (0 : Int)))) (by kernel_rfl)).trans (by rw [show (decide (p1.Addr < (0 : Int))) = true from (decide_eq_true c26)]; rfl)) hr ?_; clear hr a; intro a hr
        refine ev 0 12 rfl (by kernel_rfl) (wn rfl) hr (.bool true) (fun w => rp_t (b := (decide (p1.Addr < (0 : Int)))) rfl (by kernel_rfl) (decide_eq_true c26) (by kernel_rfl)) ?_; clear hr a; intro a hr
        refine e_end (by kernel_rfl) ?_
        refine then_normal ?_
        refine cond_tt hr (b := true) rfl ?_
        refine wp_seq ?_
        refine wp_region_lit ?_
        replace H := bd1 H; obtain ⟨r27, e28, H⟩ := H
        have hc := plunderref2_refused_ok (H := e28) (h := h)
        refine op_call (wn rfl) rfl rfl hr (f := 78) (args := #[.int .i64 20]) (by kernel_rfl) hc ?_; clear hc h
        rintro _ w ⟨rfl, h⟩; refine ⟨_, rfl, ?_⟩
        clear hr a; intro a hr
        replace h : Fit z (sepL (pts b6 (.cells #[.int .i64 0, .bool false, .int .i64 0] 39) :: ob62 B0 p0 ca1 cc2 ca3 cc4 :: ro2 ca1 cc2 p0.Held :: ro90 ca3 cc4 p0.Book :: ob57 b5 p1 :: L)) _ := h.sel 5 [4, 0, 1, 2, 3] (by kernel_rfl) (by kernel_rfl)
        refine op_stores (wn rfl) rfl hr rfl (by kernel_rfl) (by kernel_rfl) (vs := [.int .i64 r27.V, .bool r27.OK, .int .i64 r27.Err]) rfl rfl (by kernel_rfl) h (i := 0) (cs' := #[.int .i64 r27.V, .bool r27.OK, .int .i64 r27.Err]) rfl ?_; clear h; intro w h
        refine wpList_nil ?_
        replace h : Fit z (sepL (ob39 b6 r27 :: ob62 B0 p0 ca1 cc2 ca3 cc4 :: ro2 ca1 cc2 p0.Held :: ro90 ca3 cc4 p0.Book :: ob57 b5 p1 :: L)) _ := h
        refine then_normal ?_
        refine wp_ret ?_
        refine then_ret ?_
        refine end_retC (cs := [.int .i64 r27.V, .bool r27.OK, .int .i64 r27.Err]) rfl hr (by kernel_rfl) (by kernel_rfl) (by kernel_rfl) ⟨h.cell 0 rfl, h.cell 1 rfl, h.cell 2 rfl, trivial⟩ ?_
        replace H := jx0 H hK24
        replace h : Fit z (sepL (ob62 B0 p0 ca1 cc2 ca3 cc4 :: ro2 ca1 cc2 p0.Held :: ro90 ca3 cc4 p0.Book :: L)) _ := h.sel 5 [1, 2, 3] (by kernel_rfl) (by kernel_rfl)
        replace H := ej2 H; obtain ⟨rfl, rfl⟩ := H
        exact ⟨ca1, cc2, ca3, cc4, rfl, h⟩
      ·
        replace H := ifF c26 H
        refine reg_E (fun w => heldC w b5 2 [.int .i64 p1.Addr] ∧ heldC w b5 2 [.int .i64 p1.Addr] ∧ heldC w B0 1 [.slice ca1 p0.Held.length cc2] ∧ True) [0, 2, 4, 7, 8, 10] h (by kernel_rfl) ?_; intro w h
        change wpAnyE _ _ _ _ _ _ 13 (Array.replicate 13 false) a w
        have hgo : ∀ w w', CellsGo w w' → (heldC w b5 2 [.int .i64 p1.Addr] ∧ heldC w b5 2 [.int .i64 p1.Addr] ∧ heldC w B0 1 [.slice ca1 p0.Held.length cc2] ∧ True) → heldC w' b5 2 [.int .i64 p1.Addr] ∧ heldC w' b5 2 [.int .i64 p1.Addr] ∧ heldC w' B0 1 [.slice ca1 p0.Held.length cc2] ∧ True := fun w w' g hD => ⟨heldC_go _ _ _ _ _ g hD.1, heldC_go _ _ _ _ _ g hD.2.1, heldC_go _ _ _ _ _ g hD.2.2.1, trivial⟩
        refine evD hgo ⟨⟨(h.pick 3).cell 2 rfl, trivial⟩, ⟨(h.pick 3).cell 2 rfl, trivial⟩, ⟨h.cell 1 rfl, trivial⟩, trivial⟩ 12 0 rfl (by kernel_rfl) (wn rfl) hr (.pointer (some ⟨b5, 2, none⟩)) (fun w => by kernel_rfl) ?_; clear hr a; intro a hr
        refine el [0, 2, 4, 7, 8, 10] (b := b5) (off := 2) (cs := [.int .i64 p1.Addr]) (fun _ hk => ⟨hk, fun w hD => hD.1⟩) 11 1 rfl (by kernel_rfl) (wn rfl) hr (.int .i64 p1.Addr) ⟨(h.pick 3).cell 2 rfl, trivial⟩ (fun w hc => rl rfl (by kernel_rfl) (by kernel_rfl) hc.1) ?_; clear hr a; intro a hr
        refine evD hgo ⟨⟨(h.pick 3).cell 2 rfl, trivial⟩, ⟨(h.pick 3).cell 2 rfl, trivial⟩, ⟨h.cell 1 rfl, trivial⟩, trivial⟩ 10 2 rfl (by kernel_rfl) (wn rfl) hr (.bool (decide (p1.Addr < (0 : Int)))) (fun w => by kernel_rfl) ?_; clear hr a; intro a hr
        refine ev 9 3 rfl (by kernel_rfl) (wn rfl) hr (.bool (decide (p1.Addr < (0 : Int)))) (fun w => by kernel_rfl) ?_; clear hr a; intro a hr
        refine evD hgo ⟨⟨(h.pick 3).cell 2 rfl, trivial⟩, ⟨(h.pick 3).cell 2 rfl, trivial⟩, ⟨h.cell 1 rfl, trivial⟩, trivial⟩ 8 4 rfl (by kernel_rfl) ((wg hr rfl rfl rfl (b' := (decide (p1.Addr < (0 : Int)))) (by kernel_rfl)).trans (by rw [show (decide (p1.Addr < (0 : Int))) = false from (decide_eq_false c26)]; rfl)) hr (.pointer (some ⟨b5, 2, none⟩)) (fun w => by kernel_rfl) ?_; clear hr a; intro a hr
        refine ev 7 6 rfl (by kernel_rfl) ((wg hr rfl rfl rfl (b' := (decide (p1.Addr < (0 : Int)))) (by kernel_rfl)).trans (by rw [show (decide (p1.Addr < (0 : Int))) = false from (decide_eq_false c26)]; rfl)) hr (.pointer (some ⟨B0, 0, none⟩)) (fun w => by kernel_rfl) ?_; clear hr a; intro a hr
        refine evD hgo ⟨⟨(h.pick 3).cell 2 rfl, trivial⟩, ⟨(h.pick 3).cell 2 rfl, trivial⟩, ⟨h.cell 1 rfl, trivial⟩, trivial⟩ 6 7 rfl (by kernel_rfl) ((wg hr rfl rfl rfl (b' := (decide (p1.Addr < (0 : Int)))) (by kernel_rfl)).trans (by rw [show (decide (p1.Addr < (0 : Int))) = false from (decide_eq_false c26)]; rfl)) hr (.pointer (some ⟨B0, 0, none⟩)) (fun w => by kernel_rfl) ?_; clear hr a; intro a hr
        refine evD hgo ⟨⟨(h.pick 3).cell 2 rfl, trivial⟩, ⟨(h.pick 3).cell 2 rfl, trivial⟩, ⟨h.cell 1 rfl, trivial⟩, trivial⟩ 5 8 rfl (by kernel_rfl) ((wg hr rfl rfl rfl (b' := (decide (p1.Addr < (0 : Int)))) (by kernel_rfl)).trans (by rw [show (decide (p1.Addr < (0 : Int))) = false from (decide_eq_false c26)]; rfl)) hr (.pointer (some ⟨B0, 1, none⟩)) (fun w => by kernel_rfl) ?_; clear hr a; intro a hr
        refine el [0, 2, 4, 7, 8, 10] (b := b5) (off := 2) (cs := [.int .i64 p1.Addr]) (fun _ hk => ⟨hk, fun w hD => hD.2.1⟩) 4 5 rfl (by kernel_rfl) ((wg hr rfl rfl rfl (b' := (decide (p1.Addr < (0 : Int)))) (by kernel_rfl)).trans (by rw [show (decide (p1.Addr < (0 : Int))) = false from (decide_eq_false c26)]; rfl)) hr (.int .i64 p1.Addr) ⟨(h.pick 3).cell 2 rfl, trivial⟩ (fun w hc => rl rfl (by kernel_rfl) (by kernel_rfl) hc.1) ?_; clear hr a; intro a hr
        refine el [0, 2, 4, 7, 8, 10] (b := B0) (off := 1) (cs := [.slice ca1 p0.Held.length cc2]) (fun _ hk => ⟨hk, fun w hD => hD.2.2.1⟩) 3 9 rfl (by kernel_rfl) ((wg hr rfl rfl rfl (b' := (decide (p1.Addr < (0 : Int)))) (by kernel_rfl)).trans (by rw [show (decide (p1.Addr < (0 : Int))) = false from (decide_eq_false c26)]; rfl)) hr (.slice ca1 p0.Held.length cc2) ⟨h.cell 1 rfl, trivial⟩ (fun w hc => rl rfl (by kernel_rfl) (by kernel_rfl) hc.1) ?_; clear hr a; intro a hr
        refine evD hgo ⟨⟨(h.pick 3).cell 2 rfl, trivial⟩, ⟨(h.pick 3).cell 2 rfl, trivial⟩, ⟨h.cell 1 rfl, trivial⟩, trivial⟩ 2 10 rfl (by kernel_rfl) ((wg hr rfl rfl rfl (b' := (decide (p1.Addr < (0 : Int)))) (by kernel_rfl)).trans (by rw [show (decide (p1.Addr < (0 : Int))) = false from (decide_eq_false c26)]; rfl)) hr (.int .i64 ((p0.Held.length : Nat) : Int)) (fun w => by kernel_rfl) ?_; clear hr a; intro a hr
        refine ev 1 11 rfl (by kernel_rfl) ((wg hr rfl rfl rfl (b' := (decide (p1.Addr < (0 : Int)))) (by kernel_rfl)).trans (by rw [show (decide (p1.Addr < (0 : Int))) = false from (decide_eq_false c26)]; rfl)) hr (.bool (decide (p1.Addr ≥ ((p0.Held.length : Nat) : Int)))) (fun w => by kernel_rfl) ?_; clear hr a; intro a hr
        refine ev 0 12 rfl (by kernel_rfl) (wn rfl) hr (.bool (decide (p1.Addr ≥ ((p0.Held.length : Nat) : Int)))) (fun w => rp_f (b := (decide (p1.Addr < (0 : Int)))) rfl (by kernel_rfl) (decide_eq_false c26) (by kernel_rfl)) ?_; clear hr a; intro a hr
        refine e_end (by kernel_rfl) ?_
        refine then_normal ?_
        by_cases c29 : p1.Addr ≥ ((p0.Held.length : Nat) : Int)
        ·
          replace H := ifT c29 H
          refine cond_tt hr (b := (decide (p1.Addr ≥ ((p0.Held.length : Nat) : Int)))) (decide_eq_true c29) ?_
          refine wp_seq ?_
          refine wp_region_lit ?_
          replace H := bd1 H; obtain ⟨r30, e31, H⟩ := H
          have hc := plunderref2_refused_ok (H := e31) (h := h)
          refine op_call (wn rfl) rfl rfl hr (f := 78) (args := #[.int .i64 20]) (by kernel_rfl) hc ?_; clear hc h
          rintro _ w ⟨rfl, h⟩; refine ⟨_, rfl, ?_⟩
          clear hr a; intro a hr
          replace h : Fit z (sepL (pts b6 (.cells #[.int .i64 0, .bool false, .int .i64 0] 39) :: ob62 B0 p0 ca1 cc2 ca3 cc4 :: ro2 ca1 cc2 p0.Held :: ro90 ca3 cc4 p0.Book :: ob57 b5 p1 :: L)) _ := h.sel 5 [4, 0, 1, 2, 3] (by kernel_rfl) (by kernel_rfl)
          refine op_stores (wn rfl) rfl hr rfl (by kernel_rfl) (by kernel_rfl) (vs := [.int .i64 r30.V, .bool r30.OK, .int .i64 r30.Err]) rfl rfl (by kernel_rfl) h (i := 0) (cs' := #[.int .i64 r30.V, .bool r30.OK, .int .i64 r30.Err]) rfl ?_; clear h; intro w h
          refine wpList_nil ?_
          replace h : Fit z (sepL (ob39 b6 r30 :: ob62 B0 p0 ca1 cc2 ca3 cc4 :: ro2 ca1 cc2 p0.Held :: ro90 ca3 cc4 p0.Book :: ob57 b5 p1 :: L)) _ := h
          refine then_normal ?_
          refine wp_ret ?_
          refine then_ret ?_
          refine end_retC (cs := [.int .i64 r30.V, .bool r30.OK, .int .i64 r30.Err]) rfl hr (by kernel_rfl) (by kernel_rfl) (by kernel_rfl) ⟨h.cell 0 rfl, h.cell 1 rfl, h.cell 2 rfl, trivial⟩ ?_
          replace H := jx0 H hK24
          replace h : Fit z (sepL (ob62 B0 p0 ca1 cc2 ca3 cc4 :: ro2 ca1 cc2 p0.Held :: ro90 ca3 cc4 p0.Book :: L)) _ := h.sel 5 [1, 2, 3] (by kernel_rfl) (by kernel_rfl)
          replace H := ej2 H; obtain ⟨rfl, rfl⟩ := H
          exact ⟨ca1, cc2, ca3, cc4, rfl, h⟩
        ·
          replace H := ifF c29 H
          refine cond_ff hr (b := (decide (p1.Addr ≥ ((p0.Held.length : Nat) : Int)))) (decide_eq_false c29) ?_
          refine wp_skip ?_
          refine then_normal ?_
          replace hr := hr.fold2 [(0, .pointer (some ⟨B0, 0, none⟩)), (3, .pointer (some ⟨b5, 0, none⟩)), (4, .pointer (some ⟨b6, 0, none⟩))] (by kernel_rfl); obtain ⟨j, hr⟩ := hr
          exact ⟨(), sinj H, j, hr, h⟩
    clear h hr a; rintro _ a w ⟨rfl, j, hr, h⟩
    replace H := jk0 hK24
    refine wp_seq ?_
    replace H := gd H; obtain ⟨c32, H⟩ := H
    refine reg_E (fun w => heldC w B0 1 [.slice ca1 p0.Held.length cc2] ∧ heldC w b5 2 [.int .i64 p1.Addr] ∧ heldC w (blk ca1) (p1.Addr.toNat * 1) [.int .i64 (at_ p0.Held p1.Addr.toNat)] ∧ True) [1, 2, 4, 6] h (by kernel_rfl) ?_; intro w h
    change wpAnyE _ _ _ _ _ _ 9 (Array.replicate 9 false) a w
    have hgo : ∀ w w', CellsGo w w' → (heldC w B0 1 [.slice ca1 p0.Held.length cc2] ∧ heldC w b5 2 [.int .i64 p1.Addr] ∧ heldC w (blk ca1) (p1.Addr.toNat * 1) [.int .i64 (at_ p0.Held p1.Addr.toNat)] ∧ True) → heldC w' B0 1 [.slice ca1 p0.Held.length cc2] ∧ heldC w' b5 2 [.int .i64 p1.Addr] ∧ heldC w' (blk ca1) (p1.Addr.toNat * 1) [.int .i64 (at_ p0.Held p1.Addr.toNat)] ∧ True := fun w w' g hD => ⟨heldC_go _ _ _ _ _ g hD.1, heldC_go _ _ _ _ _ g hD.2.1, heldC_go _ _ _ _ _ g hD.2.2.1, trivial⟩
    refine ev 8 0 rfl (by kernel_rfl) (wn rfl) hr (.pointer (some ⟨B0, 0, none⟩)) (fun w => by kernel_rfl) ?_; clear hr a; intro a hr
    refine evD hgo ⟨⟨h.cell 1 rfl, trivial⟩, ⟨(h.pick 3).cell 2 rfl, trivial⟩, ⟨(h.pick 1).row_cell encZ_i64_ok (f := 0) (at_ok c32) rfl, trivial⟩, trivial⟩ 7 1 rfl (by kernel_rfl) (wn rfl) hr (.pointer (some ⟨B0, 0, none⟩)) (fun w => by kernel_rfl) ?_; clear hr a; intro a hr
    refine evD hgo ⟨⟨h.cell 1 rfl, trivial⟩, ⟨(h.pick 3).cell 2 rfl, trivial⟩, ⟨(h.pick 1).row_cell encZ_i64_ok (f := 0) (at_ok c32) rfl, trivial⟩, trivial⟩ 6 2 rfl (by kernel_rfl) (wn rfl) hr (.pointer (some ⟨B0, 1, none⟩)) (fun w => by kernel_rfl) ?_; clear hr a; intro a hr
    refine evD hgo ⟨⟨h.cell 1 rfl, trivial⟩, ⟨(h.pick 3).cell 2 rfl, trivial⟩, ⟨(h.pick 1).row_cell encZ_i64_ok (f := 0) (at_ok c32) rfl, trivial⟩, trivial⟩ 5 4 rfl (by kernel_rfl) (wn rfl) hr (.pointer (some ⟨b5, 2, none⟩)) (fun w => by kernel_rfl) ?_; clear hr a; intro a hr
    refine el [1, 2, 4, 6] (b := B0) (off := 1) (cs := [.slice ca1 p0.Held.length cc2]) (fun _ hk => ⟨hk, fun w hD => hD.1⟩) 4 3 rfl (by kernel_rfl) (wn rfl) hr (.slice ca1 p0.Held.length cc2) ⟨h.cell 1 rfl, trivial⟩ (fun w hc => rl rfl (by kernel_rfl) (by kernel_rfl) hc.1) ?_; clear hr a; intro a hr
    refine el [1, 2, 4, 6] (b := b5) (off := 2) (cs := [.int .i64 p1.Addr]) (fun _ hk => ⟨hk, fun w hD => hD.2.1⟩) 3 5 rfl (by kernel_rfl) (wn rfl) hr (.int .i64 p1.Addr) ⟨(h.pick 3).cell 2 rfl, trivial⟩ (fun w hc => rl rfl (by kernel_rfl) (by kernel_rfl) hc.1) ?_; clear hr a; intro a hr
    refine evD hgo ⟨⟨h.cell 1 rfl, trivial⟩, ⟨(h.pick 3).cell 2 rfl, trivial⟩, ⟨(h.pick 1).row_cell encZ_i64_ok (f := 0) (at_ok c32) rfl, trivial⟩, trivial⟩ 2 6 rfl (by kernel_rfl) (wn rfl) hr (.pointer (some ⟨blk ca1, p1.Addr.toNat * 1, none⟩)) (fun w => ri_row (k := .i64) (E := 2) rfl (by kernel_rfl) (by kernel_rfl) (by kernel_rfl) (by kernel_rfl) (h.pick 1) c32) ?_; clear hr a; intro a hr
    refine el [1, 2, 4, 6] (b := blk ca1) (off := p1.Addr.toNat * 1) (cs := [.int .i64 (at_ p0.Held p1.Addr.toNat)]) (fun _ hk => ⟨hk, fun w hD => hD.2.2.1⟩) 1 7 rfl (by kernel_rfl) (wn rfl) hr (.int .i64 (at_ p0.Held p1.Addr.toNat)) ⟨(h.pick 1).row_cell encZ_i64_ok (f := 0) (at_ok c32) rfl, trivial⟩ (fun w hc => rl rfl (by kernel_rfl) (by kernel_rfl) hc.1) ?_; clear hr a; intro a hr
    refine ev 0 8 rfl (by kernel_rfl) (wn rfl) hr (.int .i64 (at_ p0.Held p1.Addr.toNat)) (fun w => by kernel_rfl) ?_; clear hr a; intro a hr
    refine e_end (by kernel_rfl) ?_
    refine then_normal ?_
    refine wp_seq ?_
    refine reg_E (fun w => heldC w B0 3 [.int .i64 p0.Actor] ∧ heldC w b5 1 [.int .i64 p1.Kind] ∧ heldC w b5 2 [.int .i64 p1.Addr] ∧ True) [1, 2, 4, 6] h (by kernel_rfl) ?_; intro w h
    change wpAnyE _ _ _ _ _ _ 11 (Array.replicate 11 false) a w
    have hgo : ∀ w w', CellsGo w w' → (heldC w B0 3 [.int .i64 p0.Actor] ∧ heldC w b5 1 [.int .i64 p1.Kind] ∧ heldC w b5 2 [.int .i64 p1.Addr] ∧ True) → heldC w' B0 3 [.int .i64 p0.Actor] ∧ heldC w' b5 1 [.int .i64 p1.Kind] ∧ heldC w' b5 2 [.int .i64 p1.Addr] ∧ True := fun w w' g hD => ⟨heldC_go _ _ _ _ _ g hD.1, heldC_go _ _ _ _ _ g hD.2.1, heldC_go _ _ _ _ _ g hD.2.2.1, trivial⟩
    refine ev 10 0 rfl (by kernel_rfl) (wn rfl) hr (.pointer (some ⟨B0, 0, none⟩)) (fun w => by kernel_rfl) ?_; clear hr a; intro a hr
    refine evD hgo ⟨⟨h.cell 3 rfl, trivial⟩, ⟨(h.pick 3).cell 1 rfl, trivial⟩, ⟨(h.pick 3).cell 2 rfl, trivial⟩, trivial⟩ 9 1 rfl (by kernel_rfl) (wn rfl) hr (.pointer (some ⟨B0, 0, none⟩)) (fun w => by kernel_rfl) ?_; clear hr a; intro a hr
    refine evD hgo ⟨⟨h.cell 3 rfl, trivial⟩, ⟨(h.pick 3).cell 1 rfl, trivial⟩, ⟨(h.pick 3).cell 2 rfl, trivial⟩, trivial⟩ 8 2 rfl (by kernel_rfl) (wn rfl) hr (.pointer (some ⟨B0, 3, none⟩)) (fun w => by kernel_rfl) ?_; clear hr a; intro a hr
    refine evD hgo ⟨⟨h.cell 3 rfl, trivial⟩, ⟨(h.pick 3).cell 1 rfl, trivial⟩, ⟨(h.pick 3).cell 2 rfl, trivial⟩, trivial⟩ 7 4 rfl (by kernel_rfl) (wn rfl) hr (.pointer (some ⟨b5, 1, none⟩)) (fun w => by kernel_rfl) ?_; clear hr a; intro a hr
    refine evD hgo ⟨⟨h.cell 3 rfl, trivial⟩, ⟨(h.pick 3).cell 1 rfl, trivial⟩, ⟨(h.pick 3).cell 2 rfl, trivial⟩, trivial⟩ 6 6 rfl (by kernel_rfl) (wn rfl) hr (.pointer (some ⟨b5, 2, none⟩)) (fun w => by kernel_rfl) ?_; clear hr a; intro a hr
    refine el [1, 2, 4, 6] (b := B0) (off := 3) (cs := [.int .i64 p0.Actor]) (fun _ hk => ⟨hk, fun w hD => hD.1⟩) 5 3 rfl (by kernel_rfl) (wn rfl) hr (.int .i64 p0.Actor) ⟨h.cell 3 rfl, trivial⟩ (fun w hc => rl rfl (by kernel_rfl) (by kernel_rfl) hc.1) ?_; clear hr a; intro a hr
    refine el [1, 2, 4, 6] (b := b5) (off := 1) (cs := [.int .i64 p1.Kind]) (fun _ hk => ⟨hk, fun w hD => hD.2.1⟩) 4 5 rfl (by kernel_rfl) (wn rfl) hr (.int .i64 p1.Kind) ⟨(h.pick 3).cell 1 rfl, trivial⟩ (fun w hc => rl rfl (by kernel_rfl) (by kernel_rfl) hc.1) ?_; clear hr a; intro a hr
    refine el [1, 2, 4, 6] (b := b5) (off := 2) (cs := [.int .i64 p1.Addr]) (fun _ hk => ⟨hk, fun w hD => hD.2.2.1⟩) 3 7 rfl (by kernel_rfl) (wn rfl) hr (.int .i64 p1.Addr) ⟨(h.pick 3).cell 2 rfl, trivial⟩ (fun w hc => rl rfl (by kernel_rfl) (by kernel_rfl) hc.1) ?_; clear hr a; intro a hr
    refine ev 2 8 rfl (by kernel_rfl) (wn rfl) hr (.agg #[.int .i64 p0.Actor, .int .i64 p1.Kind, .int .i64 p1.Addr, .int .i64 0, .int .i64 0, .bool true]) (fun w => by kernel_rfl) ?_; clear hr a; intro a hr
    refine e_one (fuel := 1) (i := 9) (by kernel_rfl) rfl ?_
    refine op_new (wn rfl) rfl rfl hr h (vf := fun b => .pointer (some ⟨b, 0, none⟩)) (cs := #[.int .i64 0, .int .i64 0, .int .i64 0, .int .i64 0, .int .i64 0, .bool false]) (T := 90) (by kernel_rfl) ?_; clear h hr a; intro b33 w a h hr
    refine wpList_nil ?_; refine then_normal ?_
    refine ⟨fun hE => absurd hE (by decide), ?_⟩
    refine e_one (fuel := 0) (i := 10) (by kernel_rfl) rfl ?_
    refine op_stores (wn rfl) rfl hr rfl (by kernel_rfl) (by kernel_rfl) (vs := [.int .i64 p0.Actor, .int .i64 p1.Kind, .int .i64 p1.Addr, .int .i64 0, .int .i64 0, .bool true]) rfl rfl (by kernel_rfl) h (i := 0) (cs' := #[.int .i64 p0.Actor, .int .i64 p1.Kind, .int .i64 p1.Addr, .int .i64 0, .int .i64 0, .bool true]) rfl ?_; clear h; intro w h
    refine wpList_nil ?_; refine then_normal ?_
    replace h : Fit z (sepL (pts b33 (.cells #[.int .i64 p0.Actor, .int .i64 p1.Kind, .int .i64 p1.Addr, .int .i64 0, .int .i64 0, .bool true] 90) :: ob62 B0 p0 ca1 cc2 ca3 cc4 :: ro2 ca1 cc2 p0.Held :: ro90 ca3 cc4 p0.Book :: ob57 b5 p1 :: pts b6 (.cells #[.int .i64 0, .bool false, .int .i64 0] 39) :: L)) _ := h
    refine ⟨fun hE => absurd hE (by decide), ?_⟩
    refine e_end (by kernel_rfl) ?_
    refine then_normal ?_
    refine wp_seq ?_
    refine wp_region_lit ?_
    refine ov hr (.agg #[.int .i64 0, .bool true, .int .i64 0]) (by kernel_rfl) ?_; clear hr a; intro a hr
    refine op_new (wn rfl) rfl rfl hr h (vf := fun b => .pointer (some ⟨b, 0, none⟩)) (cs := #[.int .i64 0, .bool false, .int .i64 0]) (T := 39) (by kernel_rfl) ?_; clear h hr a; intro b34 w a h hr
    refine op_stores (wn rfl) rfl hr rfl (by kernel_rfl) (by kernel_rfl) (vs := [.int .i64 0, .bool true, .int .i64 0]) rfl rfl (by kernel_rfl) h (i := 0) (cs' := #[.int .i64 0, .bool true, .int .i64 0]) rfl ?_; clear h; intro w h
    refine wpList_nil ?_
    replace h : Fit z (sepL (pts b34 (.cells #[.int .i64 0, .bool true, .int .i64 0] 39) :: pts b33 (.cells #[.int .i64 p0.Actor, .int .i64 p1.Kind, .int .i64 p1.Addr, .int .i64 0, .int .i64 0, .bool true] 90) :: ob62 B0 p0 ca1 cc2 ca3 cc4 :: ro2 ca1 cc2 p0.Held :: ro90 ca3 cc4 p0.Book :: ob57 b5 p1 :: pts b6 (.cells #[.int .i64 0, .bool false, .int .i64 0] 39) :: L)) _ := h
    refine then_normal ?_
    refine wp_seq ?_
    refine wp_seq ?_
    refine wp_region_lit ?_
    refine ov hr (.pointer (some ⟨b5, 1, none⟩)) (by kernel_rfl) ?_; clear hr a; intro a hr
    refine op_val (wn rfl) rfl rfl hr (v := .int .i64 p1.Kind) (rl rfl (by kernel_rfl) (by kernel_rfl) ((h.pick 5).cell 1 rfl)) ?_; clear hr a; intro a hr
    refine wpList_nil ?_
    refine then_normal ?_
    refine wp_block ?_
    refine wp_seq ?_
    refine wp_region_lit ?_
    refine ovs [85, 84] [.bool (p1.Kind == (0 : Int)), .bool (p1.Kind == (0 : Int))] hr ⟨rfl, rfl⟩ (by kernel_rfl) ?_; clear hr a; intro a hr
    refine wpList_nil ?_
    refine then_normal ?_
    by_cases c35 : p1.Kind = (0 : Int)
    ·
      replace H := ifT c35 H
      refine cond_tt hr (b := (p1.Kind == (0 : Int))) (beq_iff_eq.mpr c35) ?_
      refine wp_seq ?_
      refine wp_region_lit ?_
      refine ovs [86, 87] [.int .i64 (at_ p0.Held p1.Addr.toNat), .pointer (some ⟨b33, 3, none⟩)] hr ⟨rfl, rfl⟩ (by kernel_rfl) ?_; clear hr a; intro a hr
      replace h : Fit z (sepL (pts b33 (.cells #[.int .i64 p0.Actor, .int .i64 p1.Kind, .int .i64 p1.Addr, .int .i64 0, .int .i64 0, .bool true] 90) :: pts b34 (.cells #[.int .i64 0, .bool true, .int .i64 0] 39) :: ob62 B0 p0 ca1 cc2 ca3 cc4 :: ro2 ca1 cc2 p0.Held :: ro90 ca3 cc4 p0.Book :: ob57 b5 p1 :: pts b6 (.cells #[.int .i64 0, .bool false, .int .i64 0] 39) :: L)) _ := h.sel 7 [1, 0, 2, 3, 4, 5, 6] (by kernel_rfl) (by kernel_rfl)
      refine op_store (wn rfl) rfl hr rfl (by kernel_rfl) (by kernel_rfl) (v := .int .i64 (at_ p0.Held p1.Addr.toNat)) rfl rfl (by kernel_rfl) h (i := 3) rfl ?_; clear h; intro w h
      refine wpList_nil ?_
      replace h : Fit z (sepL (pts b33 (.cells #[.int .i64 p0.Actor, .int .i64 p1.Kind, .int .i64 p1.Addr, .int .i64 (at_ p0.Held p1.Addr.toNat), .int .i64 0, .bool true] 90) :: pts b34 (.cells #[.int .i64 0, .bool true, .int .i64 0] 39) :: ob62 B0 p0 ca1 cc2 ca3 cc4 :: ro2 ca1 cc2 p0.Held :: ro90 ca3 cc4 p0.Book :: ob57 b5 p1 :: pts b6 (.cells #[.int .i64 0, .bool false, .int .i64 0] 39) :: L)) _ := h
      refine then_normal ?_
      refine wp_region_lit ?_
      refine ovs [88, 89] [.int .i64 (at_ p0.Held p1.Addr.toNat), .pointer (some ⟨b34, 0, none⟩)] hr ⟨rfl, rfl⟩ (by kernel_rfl) ?_; clear hr a; intro a hr
      replace h : Fit z (sepL (pts b34 (.cells #[.int .i64 0, .bool true, .int .i64 0] 39) :: pts b33 (.cells #[.int .i64 p0.Actor, .int .i64 p1.Kind, .int .i64 p1.Addr, .int .i64 (at_ p0.Held p1.Addr.toNat), .int .i64 0, .bool true] 90) :: ob62 B0 p0 ca1 cc2 ca3 cc4 :: ro2 ca1 cc2 p0.Held :: ro90 ca3 cc4 p0.Book :: ob57 b5 p1 :: pts b6 (.cells #[.int .i64 0, .bool false, .int .i64 0] 39) :: L)) _ := h.sel 7 [1, 0, 2, 3, 4, 5, 6] (by kernel_rfl) (by kernel_rfl)
      refine op_store (wn rfl) rfl hr rfl (by kernel_rfl) (by kernel_rfl) (v := .int .i64 (at_ p0.Held p1.Addr.toNat)) rfl rfl (by kernel_rfl) h (i := 0) rfl ?_; clear h; intro w h
      refine wpList_nil ?_
      replace h : Fit z (sepL (pts b34 (.cells #[.int .i64 (at_ p0.Held p1.Addr.toNat), .bool true, .int .i64 0] 39) :: pts b33 (.cells #[.int .i64 p0.Actor, .int .i64 p1.Kind, .int .i64 p1.Addr, .int .i64 (at_ p0.Held p1.Addr.toNat), .int .i64 0, .bool true] 90) :: ob62 B0 p0 ca1 cc2 ca3 cc4 :: ro2 ca1 cc2 p0.Held :: ro90 ca3 cc4 p0.Book :: ob57 b5 p1 :: pts b6 (.cells #[.int .i64 0, .bool false, .int .i64 0] 39) :: L)) _ := h
      refine blk_normal ?_
      refine then_normal ?_
      refine wp_seq ?_
      refine wp_region_lit ?_
      refine ov hr (.pointer (some ⟨B0, 0, none⟩)) (by kernel_rfl) ?_; clear hr a; intro a hr
      refine op_val (wn rfl) rfl rfl hr (v := .agg #[.int .i64 p0.Actor, .int .i64 p1.Kind, .int .i64 p1.Addr, .int .i64 (at_ p0.Held p1.Addr.toNat), .int .i64 0, .bool true]) (rlm (cs := [.int .i64 p0.Actor, .int .i64 p1.Kind, .int .i64 p1.Addr, .int .i64 (at_ p0.Held p1.Addr.toNat), .int .i64 0, .bool true]) rfl (by kernel_rfl) (by kernel_rfl) (by kernel_rfl) ⟨(h.pick 1).cell 0 rfl, (h.pick 1).cell 1 rfl, (h.pick 1).cell 2 rfl, (h.pick 1).cell 3 rfl, (h.pick 1).cell 4 rfl, (h.pick 1).cell 5 rfl, trivial⟩) ?_; clear hr a; intro a hr
      replace H := bd1 H; obtain ⟨S36, e37, H⟩ := H
      replace h : Fit z (sepL (ob62 B0 p0 ca1 cc2 ca3 cc4 :: ro2 ca1 cc2 p0.Held :: ro90 ca3 cc4 p0.Book :: pts b34 (.cells #[.int .i64 (at_ p0.Held p1.Addr.toNat), .bool true, .int .i64 0] 39) :: pts b33 (.cells #[.int .i64 p0.Actor, .int .i64 p1.Kind, .int .i64 p1.Addr, .int .i64 (at_ p0.Held p1.Addr.toNat), .int .i64 0, .bool true] 90) :: ob57 b5 p1 :: pts b6 (.cells #[.int .i64 0, .bool false, .int .i64 0] 39) :: L)) _ := h.sel 7 [2, 3, 4, 0, 1, 5, 6] (by kernel_rfl) (by kernel_rfl)
      have hc := plunderref2_Arena_note_ok (H := e37) (h := h)
      refine op_call (wn rfl) rfl rfl hr (f := 80) (args := #[.pointer (some ⟨B0, 0, none⟩), .agg #[.int .i64 p0.Actor, .int .i64 p1.Kind, .int .i64 p1.Addr, .int .i64 (at_ p0.Held p1.Addr.toNat), .int .i64 0, .bool true]]) (by kernel_rfl) hc ?_; clear hc h
      rintro _ w ⟨caq38, ccq39, caq40, ccq41, rfl, h⟩; refine ⟨_, rfl, ?_⟩
      clear hr a; intro a hr
      refine wpList_nil ?_
      refine then_normal ?_
      refine wp_seq ?_
      refine wp_region_lit ?_
      refine op_val (wn rfl) rfl rfl hr (v := .agg #[.int .i64 (at_ p0.Held p1.Addr.toNat), .bool true, .int .i64 0]) (rlm (cs := [.int .i64 (at_ p0.Held p1.Addr.toNat), .bool true, .int .i64 0]) rfl (by kernel_rfl) (by kernel_rfl) (by kernel_rfl) ⟨(h.pick 3).cell 0 rfl, (h.pick 3).cell 1 rfl, (h.pick 3).cell 2 rfl, trivial⟩) ?_; clear hr a; intro a hr
      replace h : Fit z (sepL (pts b6 (.cells #[.int .i64 0, .bool false, .int .i64 0] 39) :: ob62 B0 S36 caq38 ccq39 caq40 ccq41 :: ro2 caq38 ccq39 S36.Held :: ro90 caq40 ccq41 S36.Book :: pts b34 (.cells #[.int .i64 (at_ p0.Held p1.Addr.toNat), .bool true, .int .i64 0] 39) :: pts b33 (.cells #[.int .i64 p0.Actor, .int .i64 p1.Kind, .int .i64 p1.Addr, .int .i64 (at_ p0.Held p1.Addr.toNat), .int .i64 0, .bool true] 90) :: ob57 b5 p1 :: L)) _ := h.sel 7 [6, 0, 1, 2, 3, 4, 5] (by kernel_rfl) (by kernel_rfl)
      refine op_stores (wn rfl) rfl hr rfl (by kernel_rfl) (by kernel_rfl) (vs := [.int .i64 (at_ p0.Held p1.Addr.toNat), .bool true, .int .i64 0]) rfl rfl (by kernel_rfl) h (i := 0) (cs' := #[.int .i64 (at_ p0.Held p1.Addr.toNat), .bool true, .int .i64 0]) rfl ?_; clear h; intro w h
      refine wpList_nil ?_
      replace h : Fit z (sepL (pts b6 (.cells #[.int .i64 (at_ p0.Held p1.Addr.toNat), .bool true, .int .i64 0] 39) :: ob62 B0 S36 caq38 ccq39 caq40 ccq41 :: ro2 caq38 ccq39 S36.Held :: ro90 caq40 ccq41 S36.Book :: pts b34 (.cells #[.int .i64 (at_ p0.Held p1.Addr.toNat), .bool true, .int .i64 0] 39) :: pts b33 (.cells #[.int .i64 p0.Actor, .int .i64 p1.Kind, .int .i64 p1.Addr, .int .i64 (at_ p0.Held p1.Addr.toNat), .int .i64 0, .bool true] 90) :: ob57 b5 p1 :: L)) _ := h
      refine then_normal ?_
      refine wp_ret ?_
      refine end_retC (cs := [.int .i64 (at_ p0.Held p1.Addr.toNat), .bool true, .int .i64 0]) rfl hr (by kernel_rfl) (by kernel_rfl) (by kernel_rfl) ⟨h.cell 0 rfl, h.cell 1 rfl, h.cell 2 rfl, trivial⟩ ?_
      replace h : Fit z (sepL (ob62 B0 S36 caq38 ccq39 caq40 ccq41 :: ro2 caq38 ccq39 S36.Held :: ro90 caq40 ccq41 S36.Book :: L)) _ := h.sel 7 [1, 2, 3] (by kernel_rfl) (by kernel_rfl)
      replace H := ej2 H; obtain ⟨rfl, rfl⟩ := H
      exact ⟨caq38, ccq39, caq40, ccq41, rfl, h⟩
    ·
      replace H := ifF c35 H
      refine cond_ff hr (b := (p1.Kind == (0 : Int))) (beq_eq_false_iff_ne.mpr c35) ?_
      refine wp_seq ?_
      refine wp_region_lit ?_
      refine ovs [91, 90] [.bool (p1.Kind == (1 : Int)), .bool (p1.Kind == (1 : Int))] hr ⟨rfl, rfl⟩ (by kernel_rfl) ?_; clear hr a; intro a hr
      refine wpList_nil ?_
      refine then_normal ?_
      by_cases c42 : p1.Kind = (1 : Int)
      ·
        replace H := ifT c42 H
        refine cond_tt hr (b := (p1.Kind == (1 : Int))) (beq_iff_eq.mpr c42) ?_
        refine wp_seq ?_
        refine wp_region_lit ?_
        refine ov hr (.pointer (some ⟨b5, 3, none⟩)) (by kernel_rfl) ?_; clear hr a; intro a hr
        refine op_val (wn rfl) rfl rfl hr (v := .int .i64 p1.A) (rl rfl (by kernel_rfl) (by kernel_rfl) ((h.pick 5).cell 3 rfl)) ?_; clear hr a; intro a hr
        refine ov hr (.pointer (some ⟨b33, 3, none⟩)) (by kernel_rfl) ?_; clear hr a; intro a hr
        replace h : Fit z (sepL (pts b33 (.cells #[.int .i64 p0.Actor, .int .i64 p1.Kind, .int .i64 p1.Addr, .int .i64 0, .int .i64 0, .bool true] 90) :: pts b34 (.cells #[.int .i64 0, .bool true, .int .i64 0] 39) :: ob62 B0 p0 ca1 cc2 ca3 cc4 :: ro2 ca1 cc2 p0.Held :: ro90 ca3 cc4 p0.Book :: ob57 b5 p1 :: pts b6 (.cells #[.int .i64 0, .bool false, .int .i64 0] 39) :: L)) _ := h.sel 7 [1, 0, 2, 3, 4, 5, 6] (by kernel_rfl) (by kernel_rfl)
        refine op_store (wn rfl) rfl hr rfl (by kernel_rfl) (by kernel_rfl) (v := .int .i64 p1.A) rfl rfl (by kernel_rfl) h (i := 3) rfl ?_; clear h; intro w h
        refine wpList_nil ?_
        replace h : Fit z (sepL (pts b33 (.cells #[.int .i64 p0.Actor, .int .i64 p1.Kind, .int .i64 p1.Addr, .int .i64 p1.A, .int .i64 0, .bool true] 90) :: pts b34 (.cells #[.int .i64 0, .bool true, .int .i64 0] 39) :: ob62 B0 p0 ca1 cc2 ca3 cc4 :: ro2 ca1 cc2 p0.Held :: ro90 ca3 cc4 p0.Book :: ob57 b5 p1 :: pts b6 (.cells #[.int .i64 0, .bool false, .int .i64 0] 39) :: L)) _ := h
        refine then_normal ?_
        refine reg_E (fun w => heldC w B0 1 [.slice ca1 p0.Held.length cc2] ∧ heldC w b5 2 [.int .i64 p1.Addr] ∧ heldC w b5 3 [.int .i64 p1.A] ∧ True) [1, 2, 4, 6] h (by kernel_rfl) ?_; intro w h
        change wpAnyE _ _ _ _ _ _ 10 (Array.replicate 10 false) a w
        have hgo : ∀ w w', CellsGo w w' → (heldC w B0 1 [.slice ca1 p0.Held.length cc2] ∧ heldC w b5 2 [.int .i64 p1.Addr] ∧ heldC w b5 3 [.int .i64 p1.A] ∧ True) → heldC w' B0 1 [.slice ca1 p0.Held.length cc2] ∧ heldC w' b5 2 [.int .i64 p1.Addr] ∧ heldC w' b5 3 [.int .i64 p1.A] ∧ True := fun w w' g hD => ⟨heldC_go _ _ _ _ _ g hD.1, heldC_go _ _ _ _ _ g hD.2.1, heldC_go _ _ _ _ _ g hD.2.2.1, trivial⟩
        refine ev 9 0 rfl (by kernel_rfl) (wn rfl) hr (.pointer (some ⟨B0, 0, none⟩)) (fun w => by kernel_rfl) ?_; clear hr a; intro a hr
        refine evD hgo ⟨⟨(h.pick 2).cell 1 rfl, trivial⟩, ⟨(h.pick 5).cell 2 rfl, trivial⟩, ⟨(h.pick 5).cell 3 rfl, trivial⟩, trivial⟩ 8 1 rfl (by kernel_rfl) (wn rfl) hr (.pointer (some ⟨B0, 0, none⟩)) (fun w => by kernel_rfl) ?_; clear hr a; intro a hr
        refine evD hgo ⟨⟨(h.pick 2).cell 1 rfl, trivial⟩, ⟨(h.pick 5).cell 2 rfl, trivial⟩, ⟨(h.pick 5).cell 3 rfl, trivial⟩, trivial⟩ 7 2 rfl (by kernel_rfl) (wn rfl) hr (.pointer (some ⟨B0, 1, none⟩)) (fun w => by kernel_rfl) ?_; clear hr a; intro a hr
        refine evD hgo ⟨⟨(h.pick 2).cell 1 rfl, trivial⟩, ⟨(h.pick 5).cell 2 rfl, trivial⟩, ⟨(h.pick 5).cell 3 rfl, trivial⟩, trivial⟩ 6 4 rfl (by kernel_rfl) (wn rfl) hr (.pointer (some ⟨b5, 2, none⟩)) (fun w => by kernel_rfl) ?_; clear hr a; intro a hr
        refine evD hgo ⟨⟨(h.pick 2).cell 1 rfl, trivial⟩, ⟨(h.pick 5).cell 2 rfl, trivial⟩, ⟨(h.pick 5).cell 3 rfl, trivial⟩, trivial⟩ 5 6 rfl (by kernel_rfl) (wn rfl) hr (.pointer (some ⟨b5, 3, none⟩)) (fun w => by kernel_rfl) ?_; clear hr a; intro a hr
        refine el [1, 2, 4, 6] (b := B0) (off := 1) (cs := [.slice ca1 p0.Held.length cc2]) (fun _ hk => ⟨hk, fun w hD => hD.1⟩) 4 3 rfl (by kernel_rfl) (wn rfl) hr (.slice ca1 p0.Held.length cc2) ⟨(h.pick 2).cell 1 rfl, trivial⟩ (fun w hc => rl rfl (by kernel_rfl) (by kernel_rfl) hc.1) ?_; clear hr a; intro a hr
        refine el [1, 2, 4, 6] (b := b5) (off := 2) (cs := [.int .i64 p1.Addr]) (fun _ hk => ⟨hk, fun w hD => hD.2.1⟩) 3 5 rfl (by kernel_rfl) (wn rfl) hr (.int .i64 p1.Addr) ⟨(h.pick 5).cell 2 rfl, trivial⟩ (fun w hc => rl rfl (by kernel_rfl) (by kernel_rfl) hc.1) ?_; clear hr a; intro a hr
        refine el [1, 2, 4, 6] (b := b5) (off := 3) (cs := [.int .i64 p1.A]) (fun _ hk => ⟨hk, fun w hD => hD.2.2.1⟩) 2 7 rfl (by kernel_rfl) (wn rfl) hr (.int .i64 p1.A) ⟨(h.pick 5).cell 3 rfl, trivial⟩ (fun w hc => rl rfl (by kernel_rfl) (by kernel_rfl) hc.1) ?_; clear hr a; intro a hr
        refine ev 1 8 rfl (by kernel_rfl) (wn rfl) hr (.pointer (some ⟨blk ca1, p1.Addr.toNat * 1, none⟩)) (fun w => ri_row (k := .i64) (E := 2) rfl (by kernel_rfl) (by kernel_rfl) (by kernel_rfl) (by kernel_rfl) (h.pick 3) c32) ?_; clear hr a; intro a hr
        refine e_one (fuel := 0) (i := 9) (by kernel_rfl) rfl ?_
        replace h : Fit z (sepL (ro2 ca1 cc2 p0.Held :: pts b33 (.cells #[.int .i64 p0.Actor, .int .i64 p1.Kind, .int .i64 p1.Addr, .int .i64 p1.A, .int .i64 0, .bool true] 90) :: pts b34 (.cells #[.int .i64 0, .bool true, .int .i64 0] 39) :: ob62 B0 p0 ca1 cc2 ca3 cc4 :: ro90 ca3 cc4 p0.Book :: ob57 b5 p1 :: pts b6 (.cells #[.int .i64 0, .bool false, .int .i64 0] 39) :: L)) _ := h.sel 7 [3, 0, 1, 2, 4, 5, 6] (by kernel_rfl) (by kernel_rfl)
        refine op_store_row (wn rfl) rfl hr rfl (by kernel_rfl) (by kernel_rfl) (v := .int .i64 p1.A) rfl rfl (by kernel_rfl) encZ_i64_ok h (i := p1.Addr.toNat) (f := 0) (p := (at_ p0.Held p1.Addr.toNat)) (q := p1.A) (at_ok c32) (by decide) rfl ?_; clear h; intro w h
        replace h : Fit z (sepL (rowOf 2 1 encZ_i64 (.slice ca1 p0.Held.length cc2) (p0.Held.set p1.Addr.toNat p1.A) :: pts b33 (.cells #[.int .i64 p0.Actor, .int .i64 p1.Kind, .int .i64 p1.Addr, .int .i64 p1.A, .int .i64 0, .bool true] 90) :: pts b34 (.cells #[.int .i64 0, .bool true, .int .i64 0] 39) :: ob62 B0 p0 ca1 cc2 ca3 cc4 :: ro90 ca3 cc4 p0.Book :: ob57 b5 p1 :: pts b6 (.cells #[.int .i64 0, .bool false, .int .i64 0] 39) :: L)) _ := h
        refine wpList_nil ?_; refine then_normal ?_
        refine ⟨fun hE => absurd hE (by decide), ?_⟩
        refine e_end (by kernel_rfl) ?_
        refine blk_normal ?_
        refine then_normal ?_
        refine wp_seq ?_
        refine wp_region_lit ?_
        refine ov hr (.pointer (some ⟨B0, 0, none⟩)) (by kernel_rfl) ?_; clear hr a; intro a hr
        refine op_val (wn rfl) rfl rfl hr (v := .agg #[.int .i64 p0.Actor, .int .i64 p1.Kind, .int .i64 p1.Addr, .int .i64 p1.A, .int .i64 0, .bool true]) (rlm (cs := [.int .i64 p0.Actor, .int .i64 p1.Kind, .int .i64 p1.Addr, .int .i64 p1.A, .int .i64 0, .bool true]) rfl (by kernel_rfl) (by kernel_rfl) (by kernel_rfl) ⟨(h.pick 1).cell 0 rfl, (h.pick 1).cell 1 rfl, (h.pick 1).cell 2 rfl, (h.pick 1).cell 3 rfl, (h.pick 1).cell 4 rfl, (h.pick 1).cell 5 rfl, trivial⟩) ?_; clear hr a; intro a hr
        have hn42 := h.row_n
        replace h : Fit z (sepL (ro2 ca1 cc2 (p0.Held.set p1.Addr.toNat p1.A) :: pts b33 (.cells #[.int .i64 p0.Actor, .int .i64 p1.Kind, .int .i64 p1.Addr, .int .i64 p1.A, .int .i64 0, .bool true] 90) :: pts b34 (.cells #[.int .i64 0, .bool true, .int .i64 0] 39) :: pts B0 (.cells #[.int .i64 p0.Most, .slice ca1 ((p0.Held.set p1.Addr.toNat p1.A).length) cc2, .bool p0.On, .int .i64 p0.Actor, .slice ca3 p0.Book.length cc4] 62) :: ro90 ca3 cc4 p0.Book :: ob57 b5 p1 :: pts b6 (.cells #[.int .i64 0, .bool false, .int .i64 0] 39) :: L)) w := (congrArg (fun q_ : Nat => Fit z (sepL (rowOf 2 1 encZ_i64 (.slice ca1 q_ cc2) (p0.Held.set p1.Addr.toNat p1.A) :: pts b33 (.cells #[.int .i64 p0.Actor, .int .i64 p1.Kind, .int .i64 p1.Addr, .int .i64 p1.A, .int .i64 0, .bool true] 90) :: pts b34 (.cells #[.int .i64 0, .bool true, .int .i64 0] 39) :: pts B0 (.cells #[.int .i64 p0.Most, .slice ca1 q_ cc2, .bool p0.On, .int .i64 p0.Actor, .slice ca3 p0.Book.length cc4] 62) :: ro90 ca3 cc4 p0.Book :: ob57 b5 p1 :: pts b6 (.cells #[.int .i64 0, .bool false, .int .i64 0] 39) :: L)) w) h.row_n).mp h
        replace H := bd1 H; obtain ⟨S44, e45, H⟩ := H
        replace h : Fit z (sepL (pts B0 (.cells #[.int .i64 p0.Most, .slice ca1 ((p0.Held.set p1.Addr.toNat p1.A).length) cc2, .bool p0.On, .int .i64 p0.Actor, .slice ca3 p0.Book.length cc4] 62) :: ro2 ca1 cc2 (p0.Held.set p1.Addr.toNat p1.A) :: ro90 ca3 cc4 p0.Book :: pts b33 (.cells #[.int .i64 p0.Actor, .int .i64 p1.Kind, .int .i64 p1.Addr, .int .i64 p1.A, .int .i64 0, .bool true] 90) :: pts b34 (.cells #[.int .i64 0, .bool true, .int .i64 0] 39) :: ob57 b5 p1 :: pts b6 (.cells #[.int .i64 0, .bool false, .int .i64 0] 39) :: L)) _ := h.sel 7 [3, 0, 4, 1, 2, 5, 6] (by kernel_rfl) (by kernel_rfl)
        have hc := plunderref2_Arena_note_ok (H := e45) (h := h)
        refine op_call (wn rfl) rfl rfl hr (f := 80) (args := #[.pointer (some ⟨B0, 0, none⟩), .agg #[.int .i64 p0.Actor, .int .i64 p1.Kind, .int .i64 p1.Addr, .int .i64 p1.A, .int .i64 0, .bool true]]) (by kernel_rfl) hc ?_; clear hc h
        rintro _ w ⟨caq46, ccq47, caq48, ccq49, rfl, h⟩; refine ⟨_, rfl, ?_⟩
        clear hr a; intro a hr
        refine wpList_nil ?_
        refine then_normal ?_
        refine wp_seq ?_
        refine wp_region_lit ?_
        refine op_val (wn rfl) rfl rfl hr (v := .agg #[.int .i64 0, .bool true, .int .i64 0]) (rlm (cs := [.int .i64 0, .bool true, .int .i64 0]) rfl (by kernel_rfl) (by kernel_rfl) (by kernel_rfl) ⟨(h.pick 4).cell 0 rfl, (h.pick 4).cell 1 rfl, (h.pick 4).cell 2 rfl, trivial⟩) ?_; clear hr a; intro a hr
        replace h : Fit z (sepL (pts b6 (.cells #[.int .i64 0, .bool false, .int .i64 0] 39) :: ob62 B0 S44 caq46 ccq47 caq48 ccq49 :: ro2 caq46 ccq47 S44.Held :: ro90 caq48 ccq49 S44.Book :: pts b33 (.cells #[.int .i64 p0.Actor, .int .i64 p1.Kind, .int .i64 p1.Addr, .int .i64 p1.A, .int .i64 0, .bool true] 90) :: pts b34 (.cells #[.int .i64 0, .bool true, .int .i64 0] 39) :: ob57 b5 p1 :: L)) _ := h.sel 7 [6, 0, 1, 2, 3, 4, 5] (by kernel_rfl) (by kernel_rfl)
        refine op_stores (wn rfl) rfl hr rfl (by kernel_rfl) (by kernel_rfl) (vs := [.int .i64 0, .bool true, .int .i64 0]) rfl rfl (by kernel_rfl) h (i := 0) (cs' := #[.int .i64 0, .bool true, .int .i64 0]) rfl ?_; clear h; intro w h
        refine wpList_nil ?_
        replace h : Fit z (sepL (pts b6 (.cells #[.int .i64 0, .bool true, .int .i64 0] 39) :: ob62 B0 S44 caq46 ccq47 caq48 ccq49 :: ro2 caq46 ccq47 S44.Held :: ro90 caq48 ccq49 S44.Book :: pts b33 (.cells #[.int .i64 p0.Actor, .int .i64 p1.Kind, .int .i64 p1.Addr, .int .i64 p1.A, .int .i64 0, .bool true] 90) :: pts b34 (.cells #[.int .i64 0, .bool true, .int .i64 0] 39) :: ob57 b5 p1 :: L)) _ := h
        refine then_normal ?_
        refine wp_ret ?_
        refine end_retC (cs := [.int .i64 0, .bool true, .int .i64 0]) rfl hr (by kernel_rfl) (by kernel_rfl) (by kernel_rfl) ⟨h.cell 0 rfl, h.cell 1 rfl, h.cell 2 rfl, trivial⟩ ?_
        replace h : Fit z (sepL (ob62 B0 S44 caq46 ccq47 caq48 ccq49 :: ro2 caq46 ccq47 S44.Held :: ro90 caq48 ccq49 S44.Book :: L)) _ := h.sel 7 [1, 2, 3] (by kernel_rfl) (by kernel_rfl)
        replace H := ej2 H; obtain ⟨rfl, rfl⟩ := H
        exact ⟨caq46, ccq47, caq48, ccq49, rfl, h⟩
      ·
        replace H := ifF c42 H
        refine cond_ff hr (b := (p1.Kind == (1 : Int))) (beq_eq_false_iff_ne.mpr c42) ?_
        refine wp_seq ?_
        refine wp_region_lit ?_
        refine ovs [105, 104] [.bool (p1.Kind == (2 : Int)), .bool (p1.Kind == (2 : Int))] hr ⟨rfl, rfl⟩ (by kernel_rfl) ?_; clear hr a; intro a hr
        refine wpList_nil ?_
        refine then_normal ?_
        by_cases c50 : p1.Kind = (2 : Int)
        ·
          replace H := ifT c50 H
          refine cond_tt hr (b := (p1.Kind == (2 : Int))) (beq_iff_eq.mpr c50) ?_
          refine wp_seq ?_
          refine wp_region_lit ?_
          refine ov hr (.pointer (some ⟨b5, 3, none⟩)) (by kernel_rfl) ?_; clear hr a; intro a hr
          refine op_val (wn rfl) rfl rfl hr (v := .int .i64 p1.A) (rl rfl (by kernel_rfl) (by kernel_rfl) ((h.pick 5).cell 3 rfl)) ?_; clear hr a; intro a hr
          refine ov hr (.pointer (some ⟨b33, 3, none⟩)) (by kernel_rfl) ?_; clear hr a; intro a hr
          replace h : Fit z (sepL (pts b33 (.cells #[.int .i64 p0.Actor, .int .i64 p1.Kind, .int .i64 p1.Addr, .int .i64 0, .int .i64 0, .bool true] 90) :: pts b34 (.cells #[.int .i64 0, .bool true, .int .i64 0] 39) :: ob62 B0 p0 ca1 cc2 ca3 cc4 :: ro2 ca1 cc2 p0.Held :: ro90 ca3 cc4 p0.Book :: ob57 b5 p1 :: pts b6 (.cells #[.int .i64 0, .bool false, .int .i64 0] 39) :: L)) _ := h.sel 7 [1, 0, 2, 3, 4, 5, 6] (by kernel_rfl) (by kernel_rfl)
          refine op_store (wn rfl) rfl hr rfl (by kernel_rfl) (by kernel_rfl) (v := .int .i64 p1.A) rfl rfl (by kernel_rfl) h (i := 3) rfl ?_; clear h; intro w h
          refine wpList_nil ?_
          replace h : Fit z (sepL (pts b33 (.cells #[.int .i64 p0.Actor, .int .i64 p1.Kind, .int .i64 p1.Addr, .int .i64 p1.A, .int .i64 0, .bool true] 90) :: pts b34 (.cells #[.int .i64 0, .bool true, .int .i64 0] 39) :: ob62 B0 p0 ca1 cc2 ca3 cc4 :: ro2 ca1 cc2 p0.Held :: ro90 ca3 cc4 p0.Book :: ob57 b5 p1 :: pts b6 (.cells #[.int .i64 0, .bool false, .int .i64 0] 39) :: L)) _ := h
          refine then_normal ?_
          refine wp_seq ?_
          refine wp_region_lit ?_
          refine ov hr (.pointer (some ⟨b5, 4, none⟩)) (by kernel_rfl) ?_; clear hr a; intro a hr
          refine op_val (wn rfl) rfl rfl hr (v := .int .i64 p1.B) (rl rfl (by kernel_rfl) (by kernel_rfl) ((h.pick 5).cell 4 rfl)) ?_; clear hr a; intro a hr
          refine ov hr (.pointer (some ⟨b33, 4, none⟩)) (by kernel_rfl) ?_; clear hr a; intro a hr
          refine op_store (wn rfl) rfl hr rfl (by kernel_rfl) (by kernel_rfl) (v := .int .i64 p1.B) rfl rfl (by kernel_rfl) h (i := 4) rfl ?_; clear h; intro w h
          refine wpList_nil ?_
          replace h : Fit z (sepL (pts b33 (.cells #[.int .i64 p0.Actor, .int .i64 p1.Kind, .int .i64 p1.Addr, .int .i64 p1.A, .int .i64 p1.B, .bool true] 90) :: pts b34 (.cells #[.int .i64 0, .bool true, .int .i64 0] 39) :: ob62 B0 p0 ca1 cc2 ca3 cc4 :: ro2 ca1 cc2 p0.Held :: ro90 ca3 cc4 p0.Book :: ob57 b5 p1 :: pts b6 (.cells #[.int .i64 0, .bool false, .int .i64 0] 39) :: L)) _ := h
          refine then_normal ?_
          refine wp_seq ?_
          refine wp_region_lit ?_
          refine ovs [112, 113] [.int .i64 (at_ p0.Held p1.Addr.toNat), .pointer (some ⟨b5, 3, none⟩)] hr ⟨rfl, rfl⟩ (by kernel_rfl) ?_; clear hr a; intro a hr
          refine op_val (wn rfl) rfl rfl hr (v := .int .i64 p1.A) (rl rfl (by kernel_rfl) (by kernel_rfl) ((h.pick 5).cell 3 rfl)) ?_; clear hr a; intro a hr
          refine ovs [115, 116] [.bool ((at_ p0.Held p1.Addr.toNat) == p1.A), .pointer (some ⟨b33, 5, none⟩)] hr ⟨rfl, rfl⟩ (by kernel_rfl) ?_; clear hr a; intro a hr
          refine op_store (wn rfl) rfl hr rfl (by kernel_rfl) (by kernel_rfl) (v := .bool ((at_ p0.Held p1.Addr.toNat) == p1.A)) rfl rfl (by kernel_rfl) h (i := 5) rfl ?_; clear h; intro w h
          refine wpList_nil ?_
          replace h : Fit z (sepL (pts b33 (.cells #[.int .i64 p0.Actor, .int .i64 p1.Kind, .int .i64 p1.Addr, .int .i64 p1.A, .int .i64 p1.B, .bool ((at_ p0.Held p1.Addr.toNat) == p1.A)] 90) :: pts b34 (.cells #[.int .i64 0, .bool true, .int .i64 0] 39) :: ob62 B0 p0 ca1 cc2 ca3 cc4 :: ro2 ca1 cc2 p0.Held :: ro90 ca3 cc4 p0.Book :: ob57 b5 p1 :: pts b6 (.cells #[.int .i64 0, .bool false, .int .i64 0] 39) :: L)) _ := h
          refine then_normal ?_
          refine wp_seq ?_
          refine wp_region_lit ?_
          refine ovs [117, 118] [.int .i64 (at_ p0.Held p1.Addr.toNat), .pointer (some ⟨b5, 3, none⟩)] hr ⟨rfl, rfl⟩ (by kernel_rfl) ?_; clear hr a; intro a hr
          refine op_val (wn rfl) rfl rfl hr (v := .int .i64 p1.A) (rl rfl (by kernel_rfl) (by kernel_rfl) ((h.pick 5).cell 3 rfl)) ?_; clear hr a; intro a hr
          refine ovs [120, 121] [.bool ((at_ p0.Held p1.Addr.toNat) == p1.A), .pointer (some ⟨b34, 1, none⟩)] hr ⟨rfl, rfl⟩ (by kernel_rfl) ?_; clear hr a; intro a hr
          replace h : Fit z (sepL (pts b34 (.cells #[.int .i64 0, .bool true, .int .i64 0] 39) :: pts b33 (.cells #[.int .i64 p0.Actor, .int .i64 p1.Kind, .int .i64 p1.Addr, .int .i64 p1.A, .int .i64 p1.B, .bool ((at_ p0.Held p1.Addr.toNat) == p1.A)] 90) :: ob62 B0 p0 ca1 cc2 ca3 cc4 :: ro2 ca1 cc2 p0.Held :: ro90 ca3 cc4 p0.Book :: ob57 b5 p1 :: pts b6 (.cells #[.int .i64 0, .bool false, .int .i64 0] 39) :: L)) _ := h.sel 7 [1, 0, 2, 3, 4, 5, 6] (by kernel_rfl) (by kernel_rfl)
          refine op_store (wn rfl) rfl hr rfl (by kernel_rfl) (by kernel_rfl) (v := .bool ((at_ p0.Held p1.Addr.toNat) == p1.A)) rfl rfl (by kernel_rfl) h (i := 1) rfl ?_; clear h; intro w h
          refine wpList_nil ?_
          replace h : Fit z (sepL (pts b34 (.cells #[.int .i64 0, .bool ((at_ p0.Held p1.Addr.toNat) == p1.A), .int .i64 0] 39) :: pts b33 (.cells #[.int .i64 p0.Actor, .int .i64 p1.Kind, .int .i64 p1.Addr, .int .i64 p1.A, .int .i64 p1.B, .bool ((at_ p0.Held p1.Addr.toNat) == p1.A)] 90) :: ob62 B0 p0 ca1 cc2 ca3 cc4 :: ro2 ca1 cc2 p0.Held :: ro90 ca3 cc4 p0.Book :: ob57 b5 p1 :: pts b6 (.cells #[.int .i64 0, .bool false, .int .i64 0] 39) :: L)) _ := h
          refine then_normal ?_
          refine wp_seq ?_
          refine wp_region_lit ?_
          refine ovs [122, 123] [.int .i64 (at_ p0.Held p1.Addr.toNat), .pointer (some ⟨b5, 3, none⟩)] hr ⟨rfl, rfl⟩ (by kernel_rfl) ?_; clear hr a; intro a hr
          refine op_val (wn rfl) rfl rfl hr (v := .int .i64 p1.A) (rl rfl (by kernel_rfl) (by kernel_rfl) ((h.pick 5).cell 3 rfl)) ?_; clear hr a; intro a hr
          refine ov hr (.bool ((at_ p0.Held p1.Addr.toNat) == p1.A)) (by kernel_rfl) ?_; clear hr a; intro a hr
          refine wpList_nil ?_
          refine then_normal ?_
          by_cases c51 : (at_ p0.Held p1.Addr.toNat) = p1.A
          ·
            replace H := ifT c51 H
            refine cond_tt hr (b := ((at_ p0.Held p1.Addr.toNat) == p1.A)) (beq_iff_eq.mpr c51) ?_
            refine reg_E (fun w => heldC w B0 1 [.slice ca1 p0.Held.length cc2] ∧ heldC w b5 2 [.int .i64 p1.Addr] ∧ heldC w b5 4 [.int .i64 p1.B] ∧ True) [1, 2, 4, 6] h (by kernel_rfl) ?_; intro w h
            change wpAnyE _ _ _ _ _ _ 10 (Array.replicate 10 false) a w
            have hgo : ∀ w w', CellsGo w w' → (heldC w B0 1 [.slice ca1 p0.Held.length cc2] ∧ heldC w b5 2 [.int .i64 p1.Addr] ∧ heldC w b5 4 [.int .i64 p1.B] ∧ True) → heldC w' B0 1 [.slice ca1 p0.Held.length cc2] ∧ heldC w' b5 2 [.int .i64 p1.Addr] ∧ heldC w' b5 4 [.int .i64 p1.B] ∧ True := fun w w' g hD => ⟨heldC_go _ _ _ _ _ g hD.1, heldC_go _ _ _ _ _ g hD.2.1, heldC_go _ _ _ _ _ g hD.2.2.1, trivial⟩
            refine ev 9 0 rfl (by kernel_rfl) (wn rfl) hr (.pointer (some ⟨B0, 0, none⟩)) (fun w => by kernel_rfl) ?_; clear hr a; intro a hr
            refine evD hgo ⟨⟨(h.pick 2).cell 1 rfl, trivial⟩, ⟨(h.pick 5).cell 2 rfl, trivial⟩, ⟨(h.pick 5).cell 4 rfl, trivial⟩, trivial⟩ 8 1 rfl (by kernel_rfl) (wn rfl) hr (.pointer (some ⟨B0, 0, none⟩)) (fun w => by kernel_rfl) ?_; clear hr a; intro a hr
            refine evD hgo ⟨⟨(h.pick 2).cell 1 rfl, trivial⟩, ⟨(h.pick 5).cell 2 rfl, trivial⟩, ⟨(h.pick 5).cell 4 rfl, trivial⟩, trivial⟩ 7 2 rfl (by kernel_rfl) (wn rfl) hr (.pointer (some ⟨B0, 1, none⟩)) (fun w => by kernel_rfl) ?_; clear hr a; intro a hr
            refine evD hgo ⟨⟨(h.pick 2).cell 1 rfl, trivial⟩, ⟨(h.pick 5).cell 2 rfl, trivial⟩, ⟨(h.pick 5).cell 4 rfl, trivial⟩, trivial⟩ 6 4 rfl (by kernel_rfl) (wn rfl) hr (.pointer (some ⟨b5, 2, none⟩)) (fun w => by kernel_rfl) ?_; clear hr a; intro a hr
            refine evD hgo ⟨⟨(h.pick 2).cell 1 rfl, trivial⟩, ⟨(h.pick 5).cell 2 rfl, trivial⟩, ⟨(h.pick 5).cell 4 rfl, trivial⟩, trivial⟩ 5 6 rfl (by kernel_rfl) (wn rfl) hr (.pointer (some ⟨b5, 4, none⟩)) (fun w => by kernel_rfl) ?_; clear hr a; intro a hr
            refine el [1, 2, 4, 6] (b := B0) (off := 1) (cs := [.slice ca1 p0.Held.length cc2]) (fun _ hk => ⟨hk, fun w hD => hD.1⟩) 4 3 rfl (by kernel_rfl) (wn rfl) hr (.slice ca1 p0.Held.length cc2) ⟨(h.pick 2).cell 1 rfl, trivial⟩ (fun w hc => rl rfl (by kernel_rfl) (by kernel_rfl) hc.1) ?_; clear hr a; intro a hr
            refine el [1, 2, 4, 6] (b := b5) (off := 2) (cs := [.int .i64 p1.Addr]) (fun _ hk => ⟨hk, fun w hD => hD.2.1⟩) 3 5 rfl (by kernel_rfl) (wn rfl) hr (.int .i64 p1.Addr) ⟨(h.pick 5).cell 2 rfl, trivial⟩ (fun w hc => rl rfl (by kernel_rfl) (by kernel_rfl) hc.1) ?_; clear hr a; intro a hr
            refine el [1, 2, 4, 6] (b := b5) (off := 4) (cs := [.int .i64 p1.B]) (fun _ hk => ⟨hk, fun w hD => hD.2.2.1⟩) 2 7 rfl (by kernel_rfl) (wn rfl) hr (.int .i64 p1.B) ⟨(h.pick 5).cell 4 rfl, trivial⟩ (fun w hc => rl rfl (by kernel_rfl) (by kernel_rfl) hc.1) ?_; clear hr a; intro a hr
            refine ev 1 8 rfl (by kernel_rfl) (wn rfl) hr (.pointer (some ⟨blk ca1, p1.Addr.toNat * 1, none⟩)) (fun w => ri_row (k := .i64) (E := 2) rfl (by kernel_rfl) (by kernel_rfl) (by kernel_rfl) (by kernel_rfl) (h.pick 3) c32) ?_; clear hr a; intro a hr
            refine e_one (fuel := 0) (i := 9) (by kernel_rfl) rfl ?_
            replace h : Fit z (sepL (ro2 ca1 cc2 p0.Held :: pts b34 (.cells #[.int .i64 0, .bool ((at_ p0.Held p1.Addr.toNat) == p1.A), .int .i64 0] 39) :: pts b33 (.cells #[.int .i64 p0.Actor, .int .i64 p1.Kind, .int .i64 p1.Addr, .int .i64 p1.A, .int .i64 p1.B, .bool ((at_ p0.Held p1.Addr.toNat) == p1.A)] 90) :: ob62 B0 p0 ca1 cc2 ca3 cc4 :: ro90 ca3 cc4 p0.Book :: ob57 b5 p1 :: pts b6 (.cells #[.int .i64 0, .bool false, .int .i64 0] 39) :: L)) _ := h.sel 7 [3, 0, 1, 2, 4, 5, 6] (by kernel_rfl) (by kernel_rfl)
            refine op_store_row (wn rfl) rfl hr rfl (by kernel_rfl) (by kernel_rfl) (v := .int .i64 p1.B) rfl rfl (by kernel_rfl) encZ_i64_ok h (i := p1.Addr.toNat) (f := 0) (p := (at_ p0.Held p1.Addr.toNat)) (q := p1.B) (at_ok c32) (by decide) rfl ?_; clear h; intro w h
            replace h : Fit z (sepL (rowOf 2 1 encZ_i64 (.slice ca1 p0.Held.length cc2) (p0.Held.set p1.Addr.toNat p1.B) :: pts b34 (.cells #[.int .i64 0, .bool ((at_ p0.Held p1.Addr.toNat) == p1.A), .int .i64 0] 39) :: pts b33 (.cells #[.int .i64 p0.Actor, .int .i64 p1.Kind, .int .i64 p1.Addr, .int .i64 p1.A, .int .i64 p1.B, .bool ((at_ p0.Held p1.Addr.toNat) == p1.A)] 90) :: ob62 B0 p0 ca1 cc2 ca3 cc4 :: ro90 ca3 cc4 p0.Book :: ob57 b5 p1 :: pts b6 (.cells #[.int .i64 0, .bool false, .int .i64 0] 39) :: L)) _ := h
            refine wpList_nil ?_; refine then_normal ?_
            refine ⟨fun hE => absurd hE (by decide), ?_⟩
            refine e_end (by kernel_rfl) ?_
            refine blk_normal ?_
            refine then_normal ?_
            refine wp_seq ?_
            refine wp_region_lit ?_
            refine ov hr (.pointer (some ⟨B0, 0, none⟩)) (by kernel_rfl) ?_; clear hr a; intro a hr
            refine op_val (wn rfl) rfl rfl hr (v := .agg #[.int .i64 p0.Actor, .int .i64 p1.Kind, .int .i64 p1.Addr, .int .i64 p1.A, .int .i64 p1.B, .bool ((at_ p0.Held p1.Addr.toNat) == p1.A)]) (rlm (cs := [.int .i64 p0.Actor, .int .i64 p1.Kind, .int .i64 p1.Addr, .int .i64 p1.A, .int .i64 p1.B, .bool ((at_ p0.Held p1.Addr.toNat) == p1.A)]) rfl (by kernel_rfl) (by kernel_rfl) (by kernel_rfl) ⟨(h.pick 2).cell 0 rfl, (h.pick 2).cell 1 rfl, (h.pick 2).cell 2 rfl, (h.pick 2).cell 3 rfl, (h.pick 2).cell 4 rfl, (h.pick 2).cell 5 rfl, trivial⟩) ?_; clear hr a; intro a hr
            have hn51 := h.row_n
            replace h : Fit z (sepL (ro2 ca1 cc2 (p0.Held.set p1.Addr.toNat p1.B) :: pts b34 (.cells #[.int .i64 0, .bool ((at_ p0.Held p1.Addr.toNat) == p1.A), .int .i64 0] 39) :: pts b33 (.cells #[.int .i64 p0.Actor, .int .i64 p1.Kind, .int .i64 p1.Addr, .int .i64 p1.A, .int .i64 p1.B, .bool ((at_ p0.Held p1.Addr.toNat) == p1.A)] 90) :: pts B0 (.cells #[.int .i64 p0.Most, .slice ca1 ((p0.Held.set p1.Addr.toNat p1.B).length) cc2, .bool p0.On, .int .i64 p0.Actor, .slice ca3 p0.Book.length cc4] 62) :: ro90 ca3 cc4 p0.Book :: ob57 b5 p1 :: pts b6 (.cells #[.int .i64 0, .bool false, .int .i64 0] 39) :: L)) w := (congrArg (fun q_ : Nat => Fit z (sepL (rowOf 2 1 encZ_i64 (.slice ca1 q_ cc2) (p0.Held.set p1.Addr.toNat p1.B) :: pts b34 (.cells #[.int .i64 0, .bool ((at_ p0.Held p1.Addr.toNat) == p1.A), .int .i64 0] 39) :: pts b33 (.cells #[.int .i64 p0.Actor, .int .i64 p1.Kind, .int .i64 p1.Addr, .int .i64 p1.A, .int .i64 p1.B, .bool ((at_ p0.Held p1.Addr.toNat) == p1.A)] 90) :: pts B0 (.cells #[.int .i64 p0.Most, .slice ca1 q_ cc2, .bool p0.On, .int .i64 p0.Actor, .slice ca3 p0.Book.length cc4] 62) :: ro90 ca3 cc4 p0.Book :: ob57 b5 p1 :: pts b6 (.cells #[.int .i64 0, .bool false, .int .i64 0] 39) :: L)) w) h.row_n).mp h
            replace H := bd1 H; obtain ⟨S53, e54, H⟩ := H
            replace h : Fit z (sepL (pts B0 (.cells #[.int .i64 p0.Most, .slice ca1 ((p0.Held.set p1.Addr.toNat p1.B).length) cc2, .bool p0.On, .int .i64 p0.Actor, .slice ca3 p0.Book.length cc4] 62) :: ro2 ca1 cc2 (p0.Held.set p1.Addr.toNat p1.B) :: ro90 ca3 cc4 p0.Book :: pts b34 (.cells #[.int .i64 0, .bool ((at_ p0.Held p1.Addr.toNat) == p1.A), .int .i64 0] 39) :: pts b33 (.cells #[.int .i64 p0.Actor, .int .i64 p1.Kind, .int .i64 p1.Addr, .int .i64 p1.A, .int .i64 p1.B, .bool ((at_ p0.Held p1.Addr.toNat) == p1.A)] 90) :: ob57 b5 p1 :: pts b6 (.cells #[.int .i64 0, .bool false, .int .i64 0] 39) :: L)) _ := h.sel 7 [3, 0, 4, 1, 2, 5, 6] (by kernel_rfl) (by kernel_rfl)
            have hc := plunderref2_Arena_note_ok (H := e54) (h := h)
            refine op_call (wn rfl) rfl rfl hr (f := 80) (args := #[.pointer (some ⟨B0, 0, none⟩), .agg #[.int .i64 p0.Actor, .int .i64 p1.Kind, .int .i64 p1.Addr, .int .i64 p1.A, .int .i64 p1.B, .bool ((at_ p0.Held p1.Addr.toNat) == p1.A)]]) (by kernel_rfl) hc ?_; clear hc h
            rintro _ w ⟨caq55, ccq56, caq57, ccq58, rfl, h⟩; refine ⟨_, rfl, ?_⟩
            clear hr a; intro a hr
            refine wpList_nil ?_
            refine then_normal ?_
            refine wp_seq ?_
            refine wp_region_lit ?_
            refine op_val (wn rfl) rfl rfl hr (v := .agg #[.int .i64 0, .bool ((at_ p0.Held p1.Addr.toNat) == p1.A), .int .i64 0]) (rlm (cs := [.int .i64 0, .bool ((at_ p0.Held p1.Addr.toNat) == p1.A), .int .i64 0]) rfl (by kernel_rfl) (by kernel_rfl) (by kernel_rfl) ⟨(h.pick 3).cell 0 rfl, (h.pick 3).cell 1 rfl, (h.pick 3).cell 2 rfl, trivial⟩) ?_; clear hr a; intro a hr
            replace h : Fit z (sepL (pts b6 (.cells #[.int .i64 0, .bool false, .int .i64 0] 39) :: ob62 B0 S53 caq55 ccq56 caq57 ccq58 :: ro2 caq55 ccq56 S53.Held :: ro90 caq57 ccq58 S53.Book :: pts b34 (.cells #[.int .i64 0, .bool ((at_ p0.Held p1.Addr.toNat) == p1.A), .int .i64 0] 39) :: pts b33 (.cells #[.int .i64 p0.Actor, .int .i64 p1.Kind, .int .i64 p1.Addr, .int .i64 p1.A, .int .i64 p1.B, .bool ((at_ p0.Held p1.Addr.toNat) == p1.A)] 90) :: ob57 b5 p1 :: L)) _ := h.sel 7 [6, 0, 1, 2, 3, 4, 5] (by kernel_rfl) (by kernel_rfl)
            refine op_stores (wn rfl) rfl hr rfl (by kernel_rfl) (by kernel_rfl) (vs := [.int .i64 0, .bool ((at_ p0.Held p1.Addr.toNat) == p1.A), .int .i64 0]) rfl rfl (by kernel_rfl) h (i := 0) (cs' := #[.int .i64 0, .bool ((at_ p0.Held p1.Addr.toNat) == p1.A), .int .i64 0]) rfl ?_; clear h; intro w h
            refine wpList_nil ?_
            replace h : Fit z (sepL (pts b6 (.cells #[.int .i64 0, .bool ((at_ p0.Held p1.Addr.toNat) == p1.A), .int .i64 0] 39) :: ob62 B0 S53 caq55 ccq56 caq57 ccq58 :: ro2 caq55 ccq56 S53.Held :: ro90 caq57 ccq58 S53.Book :: pts b34 (.cells #[.int .i64 0, .bool ((at_ p0.Held p1.Addr.toNat) == p1.A), .int .i64 0] 39) :: pts b33 (.cells #[.int .i64 p0.Actor, .int .i64 p1.Kind, .int .i64 p1.Addr, .int .i64 p1.A, .int .i64 p1.B, .bool ((at_ p0.Held p1.Addr.toNat) == p1.A)] 90) :: ob57 b5 p1 :: L)) _ := h
            refine then_normal ?_
            refine wp_ret ?_
            refine end_retC (cs := [.int .i64 0, .bool ((at_ p0.Held p1.Addr.toNat) == p1.A), .int .i64 0]) rfl hr (by kernel_rfl) (by kernel_rfl) (by kernel_rfl) ⟨h.cell 0 rfl, h.cell 1 rfl, h.cell 2 rfl, trivial⟩ ?_
            replace h : Fit z (sepL (ob62 B0 S53 caq55 ccq56 caq57 ccq58 :: ro2 caq55 ccq56 S53.Held :: ro90 caq57 ccq58 S53.Book :: L)) _ := h.sel 7 [1, 2, 3] (by kernel_rfl) (by kernel_rfl)
            replace H := ej2 H; obtain ⟨rfl, rfl⟩ := H
            exact ⟨caq55, ccq56, caq57, ccq58, rfl, h⟩
          ·
            replace H := ifF c51 H
            refine cond_ff hr (b := ((at_ p0.Held p1.Addr.toNat) == p1.A)) (beq_eq_false_iff_ne.mpr c51) ?_
            refine wp_skip ?_
            refine blk_normal ?_
            refine then_normal ?_
            refine wp_seq ?_
            refine wp_region_lit ?_
            refine ov hr (.pointer (some ⟨B0, 0, none⟩)) (by kernel_rfl) ?_; clear hr a; intro a hr
            refine op_val (wn rfl) rfl rfl hr (v := .agg #[.int .i64 p0.Actor, .int .i64 p1.Kind, .int .i64 p1.Addr, .int .i64 p1.A, .int .i64 p1.B, .bool ((at_ p0.Held p1.Addr.toNat) == p1.A)]) (rlm (cs := [.int .i64 p0.Actor, .int .i64 p1.Kind, .int .i64 p1.Addr, .int .i64 p1.A, .int .i64 p1.B, .bool ((at_ p0.Held p1.Addr.toNat) == p1.A)]) rfl (by kernel_rfl) (by kernel_rfl) (by kernel_rfl) ⟨(h.pick 1).cell 0 rfl, (h.pick 1).cell 1 rfl, (h.pick 1).cell 2 rfl, (h.pick 1).cell 3 rfl, (h.pick 1).cell 4 rfl, (h.pick 1).cell 5 rfl, trivial⟩) ?_; clear hr a; intro a hr
            replace H := bd1 H; obtain ⟨S59, e60, H⟩ := H
            replace h : Fit z (sepL (ob62 B0 p0 ca1 cc2 ca3 cc4 :: ro2 ca1 cc2 p0.Held :: ro90 ca3 cc4 p0.Book :: pts b34 (.cells #[.int .i64 0, .bool ((at_ p0.Held p1.Addr.toNat) == p1.A), .int .i64 0] 39) :: pts b33 (.cells #[.int .i64 p0.Actor, .int .i64 p1.Kind, .int .i64 p1.Addr, .int .i64 p1.A, .int .i64 p1.B, .bool ((at_ p0.Held p1.Addr.toNat) == p1.A)] 90) :: ob57 b5 p1 :: pts b6 (.cells #[.int .i64 0, .bool false, .int .i64 0] 39) :: L)) _ := h.sel 7 [2, 3, 4, 0, 1, 5, 6] (by kernel_rfl) (by kernel_rfl)
            have hc := plunderref2_Arena_note_ok (H := e60) (h := h)
            refine op_call (wn rfl) rfl rfl hr (f := 80) (args := #[.pointer (some ⟨B0, 0, none⟩), .agg #[.int .i64 p0.Actor, .int .i64 p1.Kind, .int .i64 p1.Addr, .int .i64 p1.A, .int .i64 p1.B, .bool ((at_ p0.Held p1.Addr.toNat) == p1.A)]]) (by kernel_rfl) hc ?_; clear hc h
            rintro _ w ⟨caq61, ccq62, caq63, ccq64, rfl, h⟩; refine ⟨_, rfl, ?_⟩
            clear hr a; intro a hr
            refine wpList_nil ?_
            refine then_normal ?_
            refine wp_seq ?_
            refine wp_region_lit ?_
            refine op_val (wn rfl) rfl rfl hr (v := .agg #[.int .i64 0, .bool ((at_ p0.Held p1.Addr.toNat) == p1.A), .int .i64 0]) (rlm (cs := [.int .i64 0, .bool ((at_ p0.Held p1.Addr.toNat) == p1.A), .int .i64 0]) rfl (by kernel_rfl) (by kernel_rfl) (by kernel_rfl) ⟨(h.pick 3).cell 0 rfl, (h.pick 3).cell 1 rfl, (h.pick 3).cell 2 rfl, trivial⟩) ?_; clear hr a; intro a hr
            replace h : Fit z (sepL (pts b6 (.cells #[.int .i64 0, .bool false, .int .i64 0] 39) :: ob62 B0 S59 caq61 ccq62 caq63 ccq64 :: ro2 caq61 ccq62 S59.Held :: ro90 caq63 ccq64 S59.Book :: pts b34 (.cells #[.int .i64 0, .bool ((at_ p0.Held p1.Addr.toNat) == p1.A), .int .i64 0] 39) :: pts b33 (.cells #[.int .i64 p0.Actor, .int .i64 p1.Kind, .int .i64 p1.Addr, .int .i64 p1.A, .int .i64 p1.B, .bool ((at_ p0.Held p1.Addr.toNat) == p1.A)] 90) :: ob57 b5 p1 :: L)) _ := h.sel 7 [6, 0, 1, 2, 3, 4, 5] (by kernel_rfl) (by kernel_rfl)
            refine op_stores (wn rfl) rfl hr rfl (by kernel_rfl) (by kernel_rfl) (vs := [.int .i64 0, .bool ((at_ p0.Held p1.Addr.toNat) == p1.A), .int .i64 0]) rfl rfl (by kernel_rfl) h (i := 0) (cs' := #[.int .i64 0, .bool ((at_ p0.Held p1.Addr.toNat) == p1.A), .int .i64 0]) rfl ?_; clear h; intro w h
            refine wpList_nil ?_
            replace h : Fit z (sepL (pts b6 (.cells #[.int .i64 0, .bool ((at_ p0.Held p1.Addr.toNat) == p1.A), .int .i64 0] 39) :: ob62 B0 S59 caq61 ccq62 caq63 ccq64 :: ro2 caq61 ccq62 S59.Held :: ro90 caq63 ccq64 S59.Book :: pts b34 (.cells #[.int .i64 0, .bool ((at_ p0.Held p1.Addr.toNat) == p1.A), .int .i64 0] 39) :: pts b33 (.cells #[.int .i64 p0.Actor, .int .i64 p1.Kind, .int .i64 p1.Addr, .int .i64 p1.A, .int .i64 p1.B, .bool ((at_ p0.Held p1.Addr.toNat) == p1.A)] 90) :: ob57 b5 p1 :: L)) _ := h
            refine then_normal ?_
            refine wp_ret ?_
            refine end_retC (cs := [.int .i64 0, .bool ((at_ p0.Held p1.Addr.toNat) == p1.A), .int .i64 0]) rfl hr (by kernel_rfl) (by kernel_rfl) (by kernel_rfl) ⟨h.cell 0 rfl, h.cell 1 rfl, h.cell 2 rfl, trivial⟩ ?_
            replace h : Fit z (sepL (ob62 B0 S59 caq61 ccq62 caq63 ccq64 :: ro2 caq61 ccq62 S59.Held :: ro90 caq63 ccq64 S59.Book :: L)) _ := h.sel 7 [1, 2, 3] (by kernel_rfl) (by kernel_rfl)
            replace H := ej2 H; obtain ⟨rfl, rfl⟩ := H
            exact ⟨caq61, ccq62, caq63, ccq64, rfl, h⟩
        ·
          replace H := ifF c50 H
          refine cond_ff hr (b := (p1.Kind == (2 : Int))) (beq_eq_false_iff_ne.mpr c50) ?_
          refine wp_seq ?_
          refine wp_region_lit ?_
          refine ov hr (.pointer (some ⟨b5, 3, none⟩)) (by kernel_rfl) ?_; clear hr a; intro a hr
          refine op_val (wn rfl) rfl rfl hr (v := .int .i64 p1.A) (rl rfl (by kernel_rfl) (by kernel_rfl) ((h.pick 5).cell 3 rfl)) ?_; clear hr a; intro a hr
          refine ov hr (.pointer (some ⟨b33, 3, none⟩)) (by kernel_rfl) ?_; clear hr a; intro a hr
          replace h : Fit z (sepL (pts b33 (.cells #[.int .i64 p0.Actor, .int .i64 p1.Kind, .int .i64 p1.Addr, .int .i64 0, .int .i64 0, .bool true] 90) :: pts b34 (.cells #[.int .i64 0, .bool true, .int .i64 0] 39) :: ob62 B0 p0 ca1 cc2 ca3 cc4 :: ro2 ca1 cc2 p0.Held :: ro90 ca3 cc4 p0.Book :: ob57 b5 p1 :: pts b6 (.cells #[.int .i64 0, .bool false, .int .i64 0] 39) :: L)) _ := h.sel 7 [1, 0, 2, 3, 4, 5, 6] (by kernel_rfl) (by kernel_rfl)
          refine op_store (wn rfl) rfl hr rfl (by kernel_rfl) (by kernel_rfl) (v := .int .i64 p1.A) rfl rfl (by kernel_rfl) h (i := 3) rfl ?_; clear h; intro w h
          refine wpList_nil ?_
          replace h : Fit z (sepL (pts b33 (.cells #[.int .i64 p0.Actor, .int .i64 p1.Kind, .int .i64 p1.Addr, .int .i64 p1.A, .int .i64 0, .bool true] 90) :: pts b34 (.cells #[.int .i64 0, .bool true, .int .i64 0] 39) :: ob62 B0 p0 ca1 cc2 ca3 cc4 :: ro2 ca1 cc2 p0.Held :: ro90 ca3 cc4 p0.Book :: ob57 b5 p1 :: pts b6 (.cells #[.int .i64 0, .bool false, .int .i64 0] 39) :: L)) _ := h
          refine then_normal ?_
          refine wp_seq ?_
          refine wp_region_lit ?_
          refine ovs [63, 64] [.int .i64 (at_ p0.Held p1.Addr.toNat), .pointer (some ⟨b5, 3, none⟩)] hr ⟨rfl, rfl⟩ (by kernel_rfl) ?_; clear hr a; intro a hr
          refine op_val (wn rfl) rfl rfl hr (v := .int .i64 p1.A) (rl rfl (by kernel_rfl) (by kernel_rfl) ((h.pick 5).cell 3 rfl)) ?_; clear hr a; intro a hr
          refine ovs [66, 67] [.int .i64 (wi ((at_ p0.Held p1.Addr.toNat) + p1.A)), .pointer (some ⟨b33, 4, none⟩)] hr ⟨rfl, rfl⟩ (by kernel_rfl) ?_; clear hr a; intro a hr
          refine op_store (wn rfl) rfl hr rfl (by kernel_rfl) (by kernel_rfl) (v := .int .i64 (wi ((at_ p0.Held p1.Addr.toNat) + p1.A))) rfl rfl (by kernel_rfl) h (i := 4) rfl ?_; clear h; intro w h
          refine wpList_nil ?_
          replace h : Fit z (sepL (pts b33 (.cells #[.int .i64 p0.Actor, .int .i64 p1.Kind, .int .i64 p1.Addr, .int .i64 p1.A, .int .i64 (wi ((at_ p0.Held p1.Addr.toNat) + p1.A)), .bool true] 90) :: pts b34 (.cells #[.int .i64 0, .bool true, .int .i64 0] 39) :: ob62 B0 p0 ca1 cc2 ca3 cc4 :: ro2 ca1 cc2 p0.Held :: ro90 ca3 cc4 p0.Book :: ob57 b5 p1 :: pts b6 (.cells #[.int .i64 0, .bool false, .int .i64 0] 39) :: L)) _ := h
          refine then_normal ?_
          refine wp_seq ?_
          refine wp_region_lit ?_
          refine ovs [68, 69] [.int .i64 (at_ p0.Held p1.Addr.toNat), .pointer (some ⟨b5, 3, none⟩)] hr ⟨rfl, rfl⟩ (by kernel_rfl) ?_; clear hr a; intro a hr
          refine op_val (wn rfl) rfl rfl hr (v := .int .i64 p1.A) (rl rfl (by kernel_rfl) (by kernel_rfl) ((h.pick 5).cell 3 rfl)) ?_; clear hr a; intro a hr
          refine ovs [71, 72] [.int .i64 (wi ((at_ p0.Held p1.Addr.toNat) + p1.A)), .pointer (some ⟨b34, 0, none⟩)] hr ⟨rfl, rfl⟩ (by kernel_rfl) ?_; clear hr a; intro a hr
          replace h : Fit z (sepL (pts b34 (.cells #[.int .i64 0, .bool true, .int .i64 0] 39) :: pts b33 (.cells #[.int .i64 p0.Actor, .int .i64 p1.Kind, .int .i64 p1.Addr, .int .i64 p1.A, .int .i64 (wi ((at_ p0.Held p1.Addr.toNat) + p1.A)), .bool true] 90) :: ob62 B0 p0 ca1 cc2 ca3 cc4 :: ro2 ca1 cc2 p0.Held :: ro90 ca3 cc4 p0.Book :: ob57 b5 p1 :: pts b6 (.cells #[.int .i64 0, .bool false, .int .i64 0] 39) :: L)) _ := h.sel 7 [1, 0, 2, 3, 4, 5, 6] (by kernel_rfl) (by kernel_rfl)
          refine op_store (wn rfl) rfl hr rfl (by kernel_rfl) (by kernel_rfl) (v := .int .i64 (wi ((at_ p0.Held p1.Addr.toNat) + p1.A))) rfl rfl (by kernel_rfl) h (i := 0) rfl ?_; clear h; intro w h
          refine wpList_nil ?_
          replace h : Fit z (sepL (pts b34 (.cells #[.int .i64 (wi ((at_ p0.Held p1.Addr.toNat) + p1.A)), .bool true, .int .i64 0] 39) :: pts b33 (.cells #[.int .i64 p0.Actor, .int .i64 p1.Kind, .int .i64 p1.Addr, .int .i64 p1.A, .int .i64 (wi ((at_ p0.Held p1.Addr.toNat) + p1.A)), .bool true] 90) :: ob62 B0 p0 ca1 cc2 ca3 cc4 :: ro2 ca1 cc2 p0.Held :: ro90 ca3 cc4 p0.Book :: ob57 b5 p1 :: pts b6 (.cells #[.int .i64 0, .bool false, .int .i64 0] 39) :: L)) _ := h
          refine then_normal ?_
          refine reg_E (fun w => heldC w B0 1 [.slice ca1 p0.Held.length cc2] ∧ heldC w b5 2 [.int .i64 p1.Addr] ∧ heldC w b5 3 [.int .i64 p1.A] ∧ True) [1, 2, 4, 7, 9] h (by kernel_rfl) ?_; intro w h
          change wpAnyE _ _ _ _ _ _ 12 (Array.replicate 12 false) a w
          have hgo : ∀ w w', CellsGo w w' → (heldC w B0 1 [.slice ca1 p0.Held.length cc2] ∧ heldC w b5 2 [.int .i64 p1.Addr] ∧ heldC w b5 3 [.int .i64 p1.A] ∧ True) → heldC w' B0 1 [.slice ca1 p0.Held.length cc2] ∧ heldC w' b5 2 [.int .i64 p1.Addr] ∧ heldC w' b5 3 [.int .i64 p1.A] ∧ True := fun w w' g hD => ⟨heldC_go _ _ _ _ _ g hD.1, heldC_go _ _ _ _ _ g hD.2.1, heldC_go _ _ _ _ _ g hD.2.2.1, trivial⟩
          refine ev 11 0 rfl (by kernel_rfl) (wn rfl) hr (.pointer (some ⟨B0, 0, none⟩)) (fun w => by kernel_rfl) ?_; clear hr a; intro a hr
          refine evD hgo ⟨⟨(h.pick 2).cell 1 rfl, trivial⟩, ⟨(h.pick 5).cell 2 rfl, trivial⟩, ⟨(h.pick 5).cell 3 rfl, trivial⟩, trivial⟩ 10 1 rfl (by kernel_rfl) (wn rfl) hr (.pointer (some ⟨B0, 0, none⟩)) (fun w => by kernel_rfl) ?_; clear hr a; intro a hr
          refine evD hgo ⟨⟨(h.pick 2).cell 1 rfl, trivial⟩, ⟨(h.pick 5).cell 2 rfl, trivial⟩, ⟨(h.pick 5).cell 3 rfl, trivial⟩, trivial⟩ 9 2 rfl (by kernel_rfl) (wn rfl) hr (.pointer (some ⟨B0, 1, none⟩)) (fun w => by kernel_rfl) ?_; clear hr a; intro a hr
          refine evD hgo ⟨⟨(h.pick 2).cell 1 rfl, trivial⟩, ⟨(h.pick 5).cell 2 rfl, trivial⟩, ⟨(h.pick 5).cell 3 rfl, trivial⟩, trivial⟩ 8 4 rfl (by kernel_rfl) (wn rfl) hr (.pointer (some ⟨b5, 2, none⟩)) (fun w => by kernel_rfl) ?_; clear hr a; intro a hr
          refine ev 7 6 rfl (by kernel_rfl) (wn rfl) hr (.int .i64 (at_ p0.Held p1.Addr.toNat)) (fun w => by kernel_rfl) ?_; clear hr a; intro a hr
          refine evD hgo ⟨⟨(h.pick 2).cell 1 rfl, trivial⟩, ⟨(h.pick 5).cell 2 rfl, trivial⟩, ⟨(h.pick 5).cell 3 rfl, trivial⟩, trivial⟩ 6 7 rfl (by kernel_rfl) (wn rfl) hr (.pointer (some ⟨b5, 3, none⟩)) (fun w => by kernel_rfl) ?_; clear hr a; intro a hr
          refine el [1, 2, 4, 7, 9] (b := B0) (off := 1) (cs := [.slice ca1 p0.Held.length cc2]) (fun _ hk => ⟨hk, fun w hD => hD.1⟩) 5 3 rfl (by kernel_rfl) (wn rfl) hr (.slice ca1 p0.Held.length cc2) ⟨(h.pick 2).cell 1 rfl, trivial⟩ (fun w hc => rl rfl (by kernel_rfl) (by kernel_rfl) hc.1) ?_; clear hr a; intro a hr
          refine el [1, 2, 4, 7, 9] (b := b5) (off := 2) (cs := [.int .i64 p1.Addr]) (fun _ hk => ⟨hk, fun w hD => hD.2.1⟩) 4 5 rfl (by kernel_rfl) (wn rfl) hr (.int .i64 p1.Addr) ⟨(h.pick 5).cell 2 rfl, trivial⟩ (fun w hc => rl rfl (by kernel_rfl) (by kernel_rfl) hc.1) ?_; clear hr a; intro a hr
          refine el [1, 2, 4, 7, 9] (b := b5) (off := 3) (cs := [.int .i64 p1.A]) (fun _ hk => ⟨hk, fun w hD => hD.2.2.1⟩) 3 8 rfl (by kernel_rfl) (wn rfl) hr (.int .i64 p1.A) ⟨(h.pick 5).cell 3 rfl, trivial⟩ (fun w hc => rl rfl (by kernel_rfl) (by kernel_rfl) hc.1) ?_; clear hr a; intro a hr
          refine evD hgo ⟨⟨(h.pick 2).cell 1 rfl, trivial⟩, ⟨(h.pick 5).cell 2 rfl, trivial⟩, ⟨(h.pick 5).cell 3 rfl, trivial⟩, trivial⟩ 2 9 rfl (by kernel_rfl) (wn rfl) hr (.int .i64 (wi ((at_ p0.Held p1.Addr.toNat) + p1.A))) (fun w => by kernel_rfl) ?_; clear hr a; intro a hr
          refine ev 1 10 rfl (by kernel_rfl) (wn rfl) hr (.pointer (some ⟨blk ca1, p1.Addr.toNat * 1, none⟩)) (fun w => ri_row (k := .i64) (E := 2) rfl (by kernel_rfl) (by kernel_rfl) (by kernel_rfl) (by kernel_rfl) (h.pick 3) c32) ?_; clear hr a; intro a hr
          refine e_one (fuel := 0) (i := 11) (by kernel_rfl) rfl ?_
          replace h : Fit z (sepL (ro2 ca1 cc2 p0.Held :: pts b34 (.cells #[.int .i64 (wi ((at_ p0.Held p1.Addr.toNat) + p1.A)), .bool true, .int .i64 0] 39) :: pts b33 (.cells #[.int .i64 p0.Actor, .int .i64 p1.Kind, .int .i64 p1.Addr, .int .i64 p1.A, .int .i64 (wi ((at_ p0.Held p1.Addr.toNat) + p1.A)), .bool true] 90) :: ob62 B0 p0 ca1 cc2 ca3 cc4 :: ro90 ca3 cc4 p0.Book :: ob57 b5 p1 :: pts b6 (.cells #[.int .i64 0, .bool false, .int .i64 0] 39) :: L)) _ := h.sel 7 [3, 0, 1, 2, 4, 5, 6] (by kernel_rfl) (by kernel_rfl)
          refine op_store_row (wn rfl) rfl hr rfl (by kernel_rfl) (by kernel_rfl) (v := .int .i64 (wi ((at_ p0.Held p1.Addr.toNat) + p1.A))) rfl rfl (by kernel_rfl) encZ_i64_ok h (i := p1.Addr.toNat) (f := 0) (p := (at_ p0.Held p1.Addr.toNat)) (q := (wi ((at_ p0.Held p1.Addr.toNat) + p1.A))) (at_ok c32) (by decide) rfl ?_; clear h; intro w h
          replace h : Fit z (sepL (rowOf 2 1 encZ_i64 (.slice ca1 p0.Held.length cc2) (p0.Held.set p1.Addr.toNat (wi ((at_ p0.Held p1.Addr.toNat) + p1.A))) :: pts b34 (.cells #[.int .i64 (wi ((at_ p0.Held p1.Addr.toNat) + p1.A)), .bool true, .int .i64 0] 39) :: pts b33 (.cells #[.int .i64 p0.Actor, .int .i64 p1.Kind, .int .i64 p1.Addr, .int .i64 p1.A, .int .i64 (wi ((at_ p0.Held p1.Addr.toNat) + p1.A)), .bool true] 90) :: ob62 B0 p0 ca1 cc2 ca3 cc4 :: ro90 ca3 cc4 p0.Book :: ob57 b5 p1 :: pts b6 (.cells #[.int .i64 0, .bool false, .int .i64 0] 39) :: L)) _ := h
          refine wpList_nil ?_; refine then_normal ?_
          refine ⟨fun hE => absurd hE (by decide), ?_⟩
          refine e_end (by kernel_rfl) ?_
          refine blk_normal ?_
          refine then_normal ?_
          refine wp_seq ?_
          refine wp_region_lit ?_
          refine ov hr (.pointer (some ⟨B0, 0, none⟩)) (by kernel_rfl) ?_; clear hr a; intro a hr
          refine op_val (wn rfl) rfl rfl hr (v := .agg #[.int .i64 p0.Actor, .int .i64 p1.Kind, .int .i64 p1.Addr, .int .i64 p1.A, .int .i64 (wi ((at_ p0.Held p1.Addr.toNat) + p1.A)), .bool true]) (rlm (cs := [.int .i64 p0.Actor, .int .i64 p1.Kind, .int .i64 p1.Addr, .int .i64 p1.A, .int .i64 (wi ((at_ p0.Held p1.Addr.toNat) + p1.A)), .bool true]) rfl (by kernel_rfl) (by kernel_rfl) (by kernel_rfl) ⟨(h.pick 2).cell 0 rfl, (h.pick 2).cell 1 rfl, (h.pick 2).cell 2 rfl, (h.pick 2).cell 3 rfl, (h.pick 2).cell 4 rfl, (h.pick 2).cell 5 rfl, trivial⟩) ?_; clear hr a; intro a hr
          have hn64 := h.row_n
          replace h : Fit z (sepL (ro2 ca1 cc2 (p0.Held.set p1.Addr.toNat (wi ((at_ p0.Held p1.Addr.toNat) + p1.A))) :: pts b34 (.cells #[.int .i64 (wi ((at_ p0.Held p1.Addr.toNat) + p1.A)), .bool true, .int .i64 0] 39) :: pts b33 (.cells #[.int .i64 p0.Actor, .int .i64 p1.Kind, .int .i64 p1.Addr, .int .i64 p1.A, .int .i64 (wi ((at_ p0.Held p1.Addr.toNat) + p1.A)), .bool true] 90) :: pts B0 (.cells #[.int .i64 p0.Most, .slice ca1 ((p0.Held.set p1.Addr.toNat (wi ((at_ p0.Held p1.Addr.toNat) + p1.A))).length) cc2, .bool p0.On, .int .i64 p0.Actor, .slice ca3 p0.Book.length cc4] 62) :: ro90 ca3 cc4 p0.Book :: ob57 b5 p1 :: pts b6 (.cells #[.int .i64 0, .bool false, .int .i64 0] 39) :: L)) w := (congrArg (fun q_ : Nat => Fit z (sepL (rowOf 2 1 encZ_i64 (.slice ca1 q_ cc2) (p0.Held.set p1.Addr.toNat (wi ((at_ p0.Held p1.Addr.toNat) + p1.A))) :: pts b34 (.cells #[.int .i64 (wi ((at_ p0.Held p1.Addr.toNat) + p1.A)), .bool true, .int .i64 0] 39) :: pts b33 (.cells #[.int .i64 p0.Actor, .int .i64 p1.Kind, .int .i64 p1.Addr, .int .i64 p1.A, .int .i64 (wi ((at_ p0.Held p1.Addr.toNat) + p1.A)), .bool true] 90) :: pts B0 (.cells #[.int .i64 p0.Most, .slice ca1 q_ cc2, .bool p0.On, .int .i64 p0.Actor, .slice ca3 p0.Book.length cc4] 62) :: ro90 ca3 cc4 p0.Book :: ob57 b5 p1 :: pts b6 (.cells #[.int .i64 0, .bool false, .int .i64 0] 39) :: L)) w) h.row_n).mp h
          replace H := bd1 H; obtain ⟨S66, e67, H⟩ := H
          replace h : Fit z (sepL (pts B0 (.cells #[.int .i64 p0.Most, .slice ca1 ((p0.Held.set p1.Addr.toNat (wi ((at_ p0.Held p1.Addr.toNat) + p1.A))).length) cc2, .bool p0.On, .int .i64 p0.Actor, .slice ca3 p0.Book.length cc4] 62) :: ro2 ca1 cc2 (p0.Held.set p1.Addr.toNat (wi ((at_ p0.Held p1.Addr.toNat) + p1.A))) :: ro90 ca3 cc4 p0.Book :: pts b34 (.cells #[.int .i64 (wi ((at_ p0.Held p1.Addr.toNat) + p1.A)), .bool true, .int .i64 0] 39) :: pts b33 (.cells #[.int .i64 p0.Actor, .int .i64 p1.Kind, .int .i64 p1.Addr, .int .i64 p1.A, .int .i64 (wi ((at_ p0.Held p1.Addr.toNat) + p1.A)), .bool true] 90) :: ob57 b5 p1 :: pts b6 (.cells #[.int .i64 0, .bool false, .int .i64 0] 39) :: L)) _ := h.sel 7 [3, 0, 4, 1, 2, 5, 6] (by kernel_rfl) (by kernel_rfl)
          have hc := plunderref2_Arena_note_ok (H := e67) (h := h)
          refine op_call (wn rfl) rfl rfl hr (f := 80) (args := #[.pointer (some ⟨B0, 0, none⟩), .agg #[.int .i64 p0.Actor, .int .i64 p1.Kind, .int .i64 p1.Addr, .int .i64 p1.A, .int .i64 (wi ((at_ p0.Held p1.Addr.toNat) + p1.A)), .bool true]]) (by kernel_rfl) hc ?_; clear hc h
          rintro _ w ⟨caq68, ccq69, caq70, ccq71, rfl, h⟩; refine ⟨_, rfl, ?_⟩
          clear hr a; intro a hr
          refine wpList_nil ?_
          refine then_normal ?_
          refine wp_seq ?_
          refine wp_region_lit ?_
          refine op_val (wn rfl) rfl rfl hr (v := .agg #[.int .i64 (wi ((at_ p0.Held p1.Addr.toNat) + p1.A)), .bool true, .int .i64 0]) (rlm (cs := [.int .i64 (wi ((at_ p0.Held p1.Addr.toNat) + p1.A)), .bool true, .int .i64 0]) rfl (by kernel_rfl) (by kernel_rfl) (by kernel_rfl) ⟨(h.pick 3).cell 0 rfl, (h.pick 3).cell 1 rfl, (h.pick 3).cell 2 rfl, trivial⟩) ?_; clear hr a; intro a hr
          replace h : Fit z (sepL (pts b6 (.cells #[.int .i64 0, .bool false, .int .i64 0] 39) :: ob62 B0 S66 caq68 ccq69 caq70 ccq71 :: ro2 caq68 ccq69 S66.Held :: ro90 caq70 ccq71 S66.Book :: pts b34 (.cells #[.int .i64 (wi ((at_ p0.Held p1.Addr.toNat) + p1.A)), .bool true, .int .i64 0] 39) :: pts b33 (.cells #[.int .i64 p0.Actor, .int .i64 p1.Kind, .int .i64 p1.Addr, .int .i64 p1.A, .int .i64 (wi ((at_ p0.Held p1.Addr.toNat) + p1.A)), .bool true] 90) :: ob57 b5 p1 :: L)) _ := h.sel 7 [6, 0, 1, 2, 3, 4, 5] (by kernel_rfl) (by kernel_rfl)
          refine op_stores (wn rfl) rfl hr rfl (by kernel_rfl) (by kernel_rfl) (vs := [.int .i64 (wi ((at_ p0.Held p1.Addr.toNat) + p1.A)), .bool true, .int .i64 0]) rfl rfl (by kernel_rfl) h (i := 0) (cs' := #[.int .i64 (wi ((at_ p0.Held p1.Addr.toNat) + p1.A)), .bool true, .int .i64 0]) rfl ?_; clear h; intro w h
          refine wpList_nil ?_
          replace h : Fit z (sepL (pts b6 (.cells #[.int .i64 (wi ((at_ p0.Held p1.Addr.toNat) + p1.A)), .bool true, .int .i64 0] 39) :: ob62 B0 S66 caq68 ccq69 caq70 ccq71 :: ro2 caq68 ccq69 S66.Held :: ro90 caq70 ccq71 S66.Book :: pts b34 (.cells #[.int .i64 (wi ((at_ p0.Held p1.Addr.toNat) + p1.A)), .bool true, .int .i64 0] 39) :: pts b33 (.cells #[.int .i64 p0.Actor, .int .i64 p1.Kind, .int .i64 p1.Addr, .int .i64 p1.A, .int .i64 (wi ((at_ p0.Held p1.Addr.toNat) + p1.A)), .bool true] 90) :: ob57 b5 p1 :: L)) _ := h
          refine then_normal ?_
          refine wp_ret ?_
          refine end_retC (cs := [.int .i64 (wi ((at_ p0.Held p1.Addr.toNat) + p1.A)), .bool true, .int .i64 0]) rfl hr (by kernel_rfl) (by kernel_rfl) (by kernel_rfl) ⟨h.cell 0 rfl, h.cell 1 rfl, h.cell 2 rfl, trivial⟩ ?_
          replace h : Fit z (sepL (ob62 B0 S66 caq68 ccq69 caq70 ccq71 :: ro2 caq68 ccq69 S66.Held :: ro90 caq70 ccq71 S66.Book :: L)) _ := h.sel 7 [1, 2, 3] (by kernel_rfl) (by kernel_rfl)
          replace H := ej2 H; obtain ⟨rfl, rfl⟩ := H
          exact ⟨caq68, ccq69, caq70, ccq71, rfl, h⟩

def plunderref2_Arena_Cells_l1 (K : Nat) (p0 : T_plunderref2_Arena) : Nat → (List Int) → Int → Option ((List Int))
  | 0, _, _ => none
  | k1 + 1, l7, g8 => (if g8 < ((p0.Held.length : Nat) : Int) then if inr_ g8 p0.Held.length then if (l7.length + 1) * 8 ≤ 140737488355328 then (plunderref2_Arena_Cells_l1 K p0 k1 (l7 ++ [(at_ p0.Held g8.toNat)]) (wi (g8 + (1 : Int)))) else none else none else some l7)
/-- (*plunder/plunderref2.Arena).Cells -/
def plunderref2_Arena_Cells (K : Nat) (p0 : T_plunderref2_Arena) : Option ((List Int)) :=
  (plunderref2_Arena_Cells_l1 K p0 K ([] : List Int) 0)
set_option maxRecDepth 100000 in
set_option maxHeartbeats 4000000 in
theorem plunderref2_Arena_Cells_ok {z w : World} {L : List HProp} {K : Nat} {p0 : T_plunderref2_Arena} {B0 : Nat} {ca1 : Option Addr} {cc2 : Nat} {ca3 : Option Addr} {cc4 : Nat} {r0 : List Int} (H : plunderref2_Arena_Cells K p0 = some r0) (h : Fit z (sepL (ob62 B0 p0 ca1 cc2 ca3 cc4 :: ro2 ca1 cc2 p0.Held :: ro90 ca3 cc4 p0.Book :: L)) w)  :
    Calls Try.prog 85 #[.pointer (some ⟨B0, 0, none⟩)] w fun e w => ∃ car0_1 : Option Addr, ∃ ccr0_2 : Nat, e = .returned (.slice car0_1 r0.length ccr0_2) ∧ Fit z (sepL (ob62 B0 p0 ca1 cc2 ca3 cc4 :: ro2 ca1 cc2 p0.Held :: ro90 ca3 cc4 p0.Book :: ro2 car0_1 ccr0_2 r0 :: L)) w := by
  unfold plunderref2_Arena_Cells at H
  refine enter Try.func85 rfl 25 rfl rfl [(0, .pointer (some ⟨B0, 0, none⟩))] ⟨rfl, trivial⟩ ?_
  intro j a hr
  refine wp_seq ?_
  refine wp_region_lit ?_
  refine ov hr (.slice none 0 0) (by kernel_rfl) ?_; clear hr a; intro a hr
  refine wpList_nil ?_
  refine then_normal ?_
  refine wp_seq ?_
  refine wp_region_lit ?_
  refine ov hr (.slice none 0 0) (by kernel_rfl) ?_; clear hr a; intro a hr
  refine wpList_nil ?_
  refine then_normal ?_
  refine wp_seq ?_
  refine wp_seq ?_
  refine wp_region_lit ?_
  refine ov hr (.int .i64 0) (by kernel_rfl) ?_; clear hr a; intro a hr
  refine wpList_nil ?_
  refine then_normal ?_
  refine wp_block ?_
  replace hr := hr.fold2 [(0, .pointer (some ⟨B0, 0, none⟩)), (3, .slice none (([] : List Int).length) 0), (4, .int .i64 0)] (by kernel_rfl); obtain ⟨j, hr⟩ := hr
  replace h : Fit z (sepL (rowOf 2 1 encZ_i64 (.slice none 0 0) ([] : List Int) :: ob62 B0 p0 ca1 cc2 ca3 cc4 :: ro2 ca1 cc2 p0.Held :: ro90 ca3 cc4 p0.Book :: L)) _ := h.row_nil
  replace h : Fit z (sepL (ob62 B0 p0 ca1 cc2 ca3 cc4 :: ro2 ca1 cc2 p0.Held :: ro90 ca3 cc4 p0.Book :: rowOf 2 1 encZ_i64 (.slice none (([] : List Int).length) 0) ([] : List Int) :: L)) _ := h.sel 4 [1, 2, 3, 0] (by kernel_rfl) (by kernel_rfl)
  refine loop_rule (β := Nat) id (fun m a w => ∃ ca5 : Option Addr, ∃ cc6 : Nat, ∃ l7 : List Int, ∃ g8 : Int, (plunderref2_Arena_Cells_l1 K p0 m l7 g8) = some r0 ∧ ∃ j, Rep 25 (lk [(0, .pointer (some ⟨B0, 0, none⟩)), (3, .slice ca5 l7.length cc6), (4, .int .i64 g8)] j) a ∧ Fit z (sepL (ob62 B0 p0 ca1 cc2 ca3 cc4 :: ro2 ca1 cc2 p0.Held :: ro90 ca3 cc4 p0.Book :: ro2 ca5 cc6 l7 :: L)) w) K ⟨none, 0, ([] : List Int), 0, H, j, hr, h⟩ ?_
  clear h hr a H; rintro k1 a w ⟨ca5, cc6, l7, g8, H, j, hr, h⟩
  cases k1 with
  | zero => exact absurd H (by simp [plunderref2_Arena_Cells_l1])
  | succ k1 =>
    rw [plunderref2_Arena_Cells_l1] at H
    refine wp_seq ?_
    refine wp_seq ?_
    refine wp_region_lit ?_
    refine ovs [5, 6, 7, 8] [.int .i64 g8, .pointer (some ⟨B0, 0, none⟩), .pointer (some ⟨B0, 0, none⟩), .pointer (some ⟨B0, 1, none⟩)] hr ⟨rfl, rfl⟩ (by kernel_rfl) ?_; clear hr a; intro a hr
    refine op_val (wn rfl) rfl rfl hr (v := .slice ca1 p0.Held.length cc2) (rl rfl (by kernel_rfl) (by kernel_rfl) (h.cell 1 rfl)) ?_; clear hr a; intro a hr
    refine ovs [10, 11] [.int .i64 ((p0.Held.length : Nat) : Int), .bool (decide (g8 < ((p0.Held.length : Nat) : Int)))] hr ⟨rfl, rfl⟩ (by kernel_rfl) ?_; clear hr a; intro a hr
    refine wpList_nil ?_
    refine then_normal ?_
    by_cases c9 : g8 < ((p0.Held.length : Nat) : Int)
    ·
      replace H := ifT c9 H
      refine cond_tt hr (b := (decide (g8 < ((p0.Held.length : Nat) : Int)))) (decide_eq_true c9) ?_
      refine wp_skip ?_
      refine then_normal ?_
      refine wp_seq ?_
      refine wp_block ?_
      refine wp_region_lit ?_
      refine ovs [14, 15, 16, 17] [.slice ca5 l7.length cc6, .pointer (some ⟨B0, 0, none⟩), .pointer (some ⟨B0, 0, none⟩), .pointer (some ⟨B0, 1, none⟩)] hr ⟨rfl, rfl⟩ (by kernel_rfl) ?_; clear hr a; intro a hr
      refine op_val (wn rfl) rfl rfl hr (v := .slice ca1 p0.Held.length cc2) (rl rfl (by kernel_rfl) (by kernel_rfl) (h.cell 1 rfl)) ?_; clear hr a; intro a hr
      replace H := gd H; obtain ⟨c10, H⟩ := H
      refine ov hr (.int .i64 g8) (by kernel_rfl) ?_; clear hr a; intro a hr
      refine op_val (wn rfl) rfl rfl hr (v := .pointer (some ⟨blk ca1, g8.toNat * 1, none⟩)) (ri_row (k := .i64) (E := 2) rfl (by kernel_rfl) (by kernel_rfl) (by kernel_rfl) (by kernel_rfl) (h.pick 1) c10) ?_; clear hr a; intro a hr
      refine op_val (wn rfl) rfl rfl hr (v := .int .i64 (at_ p0.Held g8.toNat)) (rl rfl (by kernel_rfl) (by kernel_rfl) ((h.pick 1).row_cell encZ_i64_ok (f := 0) (at_ok c10) rfl)) ?_; clear hr a; intro a hr
      refine op_new (wn rfl) rfl rfl hr h (vf := fun b => .slice (some ⟨b, 0, none⟩) 1 1) (cs := #[.int .i64 (at_ p0.Held g8.toNat)]) (T := 2) (by kernel_rfl) ?_; clear h hr a; intro b11 w a h hr
      replace h : Fit z (sepL (ro2 ca5 cc6 l7 :: pts b11 (.cells #[.int .i64 (at_ p0.Held g8.toNat)] 2) :: ob62 B0 p0 ca1 cc2 ca3 cc4 :: ro2 ca1 cc2 p0.Held :: ro90 ca3 cc4 p0.Book :: L)) _ := h.sel 5 [4, 0, 1, 2, 3] (by kernel_rfl) (by kernel_rfl)
      replace H := gd H; obtain ⟨c14, H⟩ := H
      refine op_append (n0 := l7.length) (c := 1) (bytes := 8) (wn rfl) rfl rfl hr rfl (by kernel_rfl) (by kernel_rfl) encZ_i64_ok (E := 2) (xs := l7) (by kernel_rfl) (by kernel_rfl) h (news := [(at_ p0.Held g8.toNat)]) (m := 1) rfl ((h.pick 1).news rfl) c14 rfl ?_; clear h hr a; intro ca12 cc13 w a h hr
      refine ov hr (.slice ca12 ((l7 ++ [(at_ p0.Held g8.toNat)]).length) cc13) (by kernel_rfl) ?_; clear hr a; intro a hr
      refine wpList_nil ?_
      replace h : Fit z (sepL (ro2 ca12 cc13 (l7 ++ [(at_ p0.Held g8.toNat)]) :: pts b11 (.cells #[.int .i64 (at_ p0.Held g8.toNat)] 2) :: ob62 B0 p0 ca1 cc2 ca3 cc4 :: ro2 ca1 cc2 p0.Held :: ro90 ca3 cc4 p0.Book :: L)) _ := h
      refine blk_normal ?_
      refine then_normal ?_
      refine wp_region_lit ?_
      refine ovs [12, 13, 4] [.int .i64 g8, .int .i64 (wi (g8 + (1 : Int))), .int .i64 (wi (g8 + (1 : Int)))] hr ⟨rfl, rfl⟩ (by kernel_rfl) ?_; clear hr a; intro a hr
      refine wpList_nil ?_
      refine then_normal ?_
      replace hr := hr.fold2 [(0, .pointer (some ⟨B0, 0, none⟩)), (3, .slice ca12 ((l7 ++ [(at_ p0.Held g8.toNat)]).length) cc13), (4, .int .i64 (wi (g8 + (1 : Int))))] (by kernel_rfl); obtain ⟨j, hr⟩ := hr
      replace h : Fit z (sepL (ob62 B0 p0 ca1 cc2 ca3 cc4 :: ro2 ca1 cc2 p0.Held :: ro90 ca3 cc4 p0.Book :: ro2 ca12 cc13 (l7 ++ [(at_ p0.Held g8.toNat)]) :: L)) _ := h.sel 5 [2, 3, 4, 0] (by kernel_rfl) (by kernel_rfl)
      exact ⟨_, ⟨ca12, cc13, (l7 ++ [(at_ p0.Held g8.toNat)]), (wi (g8 + (1 : Int))), H, j, hr, h⟩, Nat.lt_succ_self _⟩
    ·
      replace H := ifF c9 H
      refine cond_ff hr (b := (decide (g8 < ((p0.Held.length : Nat) : Int)))) (decide_eq_false c9) ?_
      refine wp_exit ?_
      refine then_exit ?_
      refine then_exit ?_
      refine blk_here ?_
      refine then_normal ?_
      refine wp_seq ?_
      refine wp_region_lit ?_
      refine ovs [24, 2] [.slice ca5 l7.length cc6, .slice ca5 l7.length cc6] hr ⟨rfl, rfl⟩ (by kernel_rfl) ?_; clear hr a; intro a hr
      refine wpList_nil ?_
      refine then_normal ?_
      refine wp_ret ?_
      refine end_ret1 (v := .slice ca5 l7.length cc6) rfl hr (by kernel_rfl) ?_
      replace H := ej1 H; subst H
      exact ⟨ca5, cc6, rfl, h⟩

def plunderref2_Arena_Log_l1 (K : Nat) (p0 : T_plunderref2_Arena) : Nat → (List T_api_Access) → Int → Option ((List T_api_Access))
  | 0, _, _ => none
  | k1 + 1, l7, g8 => (if g8 < ((p0.Book.length : Nat) : Int) then if inr_ g8 p0.Book.length then if (l7.length + 1) * 48 ≤ 140737488355328 then (plunderref2_Arena_Log_l1 K p0 k1 (l7 ++ [at_ p0.Book g8.toNat]) (wi (g8 + (1 : Int)))) else none else none else some l7)
/-- (*plunder/plunderref2.Arena).Log -/
def plunderref2_Arena_Log (K : Nat) (p0 : T_plunderref2_Arena) : Option ((List T_api_Access)) :=
  (plunderref2_Arena_Log_l1 K p0 K ([] : List T_api_Access) 0)
set_option maxRecDepth 100000 in
set_option maxHeartbeats 4000000 in
theorem plunderref2_Arena_Log_ok {z w : World} {L : List HProp} {K : Nat} {p0 : T_plunderref2_Arena} {B0 : Nat} {ca1 : Option Addr} {cc2 : Nat} {ca3 : Option Addr} {cc4 : Nat} {r0 : List T_api_Access} (H : plunderref2_Arena_Log K p0 = some r0) (h : Fit z (sepL (ob62 B0 p0 ca1 cc2 ca3 cc4 :: ro2 ca1 cc2 p0.Held :: ro90 ca3 cc4 p0.Book :: L)) w)  :
    Calls Try.prog 86 #[.pointer (some ⟨B0, 0, none⟩)] w fun e w => ∃ car0_1 : Option Addr, ∃ ccr0_2 : Nat, e = .returned (.slice car0_1 r0.length ccr0_2) ∧ Fit z (sepL (ob62 B0 p0 ca1 cc2 ca3 cc4 :: ro2 ca1 cc2 p0.Held :: ro90 ca3 cc4 p0.Book :: ro90 car0_1 ccr0_2 r0 :: L)) w := by
  unfold plunderref2_Arena_Log at H
  refine enter Try.func86 rfl 25 rfl rfl [(0, .pointer (some ⟨B0, 0, none⟩))] ⟨rfl, trivial⟩ ?_
  intro j a hr
  refine wp_seq ?_
  refine wp_region_lit ?_
  refine ov hr (.slice none 0 0) (by kernel_rfl) ?_; clear hr a; intro a hr
  refine wpList_nil ?_
  refine then_normal ?_
  refine wp_seq ?_
  refine wp_region_lit ?_
  refine ov hr (.slice none 0 0) (by kernel_rfl) ?_; clear hr a; intro a hr
  refine wpList_nil ?_
  refine then_normal ?_
  refine wp_seq ?_
  refine wp_seq ?_
  refine wp_region_lit ?_
  refine ov hr (.int .i64 0) (by kernel_rfl) ?_; clear hr a; intro a hr
  refine wpList_nil ?_
  refine then_normal ?_
  refine wp_block ?_
  replace hr := hr.fold2 [(0, .pointer (some ⟨B0, 0, none⟩)), (3, .slice none (([] : List T_api_Access).length) 0), (4, .int .i64 0)] (by kernel_rfl); obtain ⟨j, hr⟩ := hr
  replace h : Fit z (sepL (rowOf 90 6 enc_T_api_Access (.slice none 0 0) ([] : List T_api_Access) :: ob62 B0 p0 ca1 cc2 ca3 cc4 :: ro2 ca1 cc2 p0.Held :: ro90 ca3 cc4 p0.Book :: L)) _ := h.row_nil
  replace h : Fit z (sepL (ob62 B0 p0 ca1 cc2 ca3 cc4 :: ro2 ca1 cc2 p0.Held :: ro90 ca3 cc4 p0.Book :: rowOf 90 6 enc_T_api_Access (.slice none (([] : List T_api_Access).length) 0) ([] : List T_api_Access) :: L)) _ := h.sel 4 [1, 2, 3, 0] (by kernel_rfl) (by kernel_rfl)
  refine loop_rule (β := Nat) id (fun m a w => ∃ ca5 : Option Addr, ∃ cc6 : Nat, ∃ l7 : List T_api_Access, ∃ g8 : Int, (plunderref2_Arena_Log_l1 K p0 m l7 g8) = some r0 ∧ ∃ j, Rep 25 (lk [(0, .pointer (some ⟨B0, 0, none⟩)), (3, .slice ca5 l7.length cc6), (4, .int .i64 g8)] j) a ∧ Fit z (sepL (ob62 B0 p0 ca1 cc2 ca3 cc4 :: ro2 ca1 cc2 p0.Held :: ro90 ca3 cc4 p0.Book :: ro90 ca5 cc6 l7 :: L)) w) K ⟨none, 0, ([] : List T_api_Access), 0, H, j, hr, h⟩ ?_
  clear h hr a H; rintro k1 a w ⟨ca5, cc6, l7, g8, H, j, hr, h⟩
  cases k1 with
  | zero => exact absurd H (by simp [plunderref2_Arena_Log_l1])
  | succ k1 =>
    rw [plunderref2_Arena_Log_l1] at H
    refine wp_seq ?_
    refine wp_seq ?_
    refine wp_region_lit ?_
    refine ovs [5, 6, 7, 8] [.int .i64 g8, .pointer (some ⟨B0, 0, none⟩), .pointer (some ⟨B0, 0, none⟩), .pointer (some ⟨B0, 4, none⟩)] hr ⟨rfl, rfl⟩ (by kernel_rfl) ?_; clear hr a; intro a hr
    refine op_val (wn rfl) rfl rfl hr (v := .slice ca3 p0.Book.length cc4) (rl rfl (by kernel_rfl) (by kernel_rfl) (h.cell 4 rfl)) ?_; clear hr a; intro a hr
    refine ovs [10, 11] [.int .i64 ((p0.Book.length : Nat) : Int), .bool (decide (g8 < ((p0.Book.length : Nat) : Int)))] hr ⟨rfl, rfl⟩ (by kernel_rfl) ?_; clear hr a; intro a hr
    refine wpList_nil ?_
    refine then_normal ?_
    by_cases c9 : g8 < ((p0.Book.length : Nat) : Int)
    ·
      replace H := ifT c9 H
      refine cond_tt hr (b := (decide (g8 < ((p0.Book.length : Nat) : Int)))) (decide_eq_true c9) ?_
      refine wp_skip ?_
      refine then_normal ?_
      refine wp_seq ?_
      refine wp_block ?_
      refine wp_region_lit ?_
      refine ovs [14, 15, 16, 17] [.slice ca5 l7.length cc6, .pointer (some ⟨B0, 0, none⟩), .pointer (some ⟨B0, 0, none⟩), .pointer (some ⟨B0, 4, none⟩)] hr ⟨rfl, rfl⟩ (by kernel_rfl) ?_; clear hr a; intro a hr
      refine op_val (wn rfl) rfl rfl hr (v := .slice ca3 p0.Book.length cc4) (rl rfl (by kernel_rfl) (by kernel_rfl) (h.cell 4 rfl)) ?_; clear hr a; intro a hr
      replace H := gd H; obtain ⟨c10, H⟩ := H
      refine ov hr (.int .i64 g8) (by kernel_rfl) ?_; clear hr a; intro a hr
      refine op_val (wn rfl) rfl rfl hr (v := .pointer (some ⟨blk ca3, g8.toNat * 6, none⟩)) (ri_row (k := .i64) (E := 90) rfl (by kernel_rfl) (by kernel_rfl) (by kernel_rfl) (by kernel_rfl) (h.pick 2) c10) ?_; clear hr a; intro a hr
      refine op_val (wn rfl) rfl rfl hr (v := .agg #[.int .i64 ((at_ p0.Book g8.toNat).Who), .int .i64 ((at_ p0.Book g8.toNat).Kind), .int .i64 ((at_ p0.Book g8.toNat).Addr), .int .i64 ((at_ p0.Book g8.toNat).A), .int .i64 ((at_ p0.Book g8.toNat).B), .bool ((at_ p0.Book g8.toNat).OK)]) (rlm (cs := [.int .i64 ((at_ p0.Book g8.toNat).Who), .int .i64 ((at_ p0.Book g8.toNat).Kind), .int .i64 ((at_ p0.Book g8.toNat).Addr), .int .i64 ((at_ p0.Book g8.toNat).A), .int .i64 ((at_ p0.Book g8.toNat).B), .bool ((at_ p0.Book g8.toNat).OK)]) rfl (by kernel_rfl) (by kernel_rfl) (by kernel_rfl) ⟨(h.pick 2).row_cell enc_T_api_Access_ok (f := 0) (at_ok c10) rfl, (h.pick 2).row_cell enc_T_api_Access_ok (f := 1) (at_ok c10) rfl, (h.pick 2).row_cell enc_T_api_Access_ok (f := 2) (at_ok c10) rfl, (h.pick 2).row_cell enc_T_api_Access_ok (f := 3) (at_ok c10) rfl, (h.pick 2).row_cell enc_T_api_Access_ok (f := 4) (at_ok c10) rfl, (h.pick 2).row_cell enc_T_api_Access_ok (f := 5) (at_ok c10) rfl, trivial⟩) ?_; clear hr a; intro a hr
      refine op_new (wn rfl) rfl rfl hr h (vf := fun b => .slice (some ⟨b, 0, none⟩) 1 1) (cs := #[.int .i64 ((at_ p0.Book g8.toNat).Who), .int .i64 ((at_ p0.Book g8.toNat).Kind), .int .i64 ((at_ p0.Book g8.toNat).Addr), .int .i64 ((at_ p0.Book g8.toNat).A), .int .i64 ((at_ p0.Book g8.toNat).B), .bool ((at_ p0.Book g8.toNat).OK)]) (T := 90) (by kernel_rfl) ?_; clear h hr a; intro b11 w a h hr
      replace h : Fit z (sepL (ro90 ca5 cc6 l7 :: ob90 b11 (at_ p0.Book g8.toNat) :: ob62 B0 p0 ca1 cc2 ca3 cc4 :: ro2 ca1 cc2 p0.Held :: ro90 ca3 cc4 p0.Book :: L)) _ := h.sel 5 [4, 0, 1, 2, 3] (by kernel_rfl) (by kernel_rfl)
      replace H := gd H; obtain ⟨c14, H⟩ := H
      refine op_append (n0 := l7.length) (c := 1) (bytes := 48) (wn rfl) rfl rfl hr rfl (by kernel_rfl) (by kernel_rfl) enc_T_api_Access_ok (E := 90) (xs := l7) (by kernel_rfl) (by kernel_rfl) h (news := [at_ p0.Book g8.toNat]) (m := 1) rfl ((h.pick 1).news rfl) c14 rfl ?_; clear h hr a; intro ca12 cc13 w a h hr
      refine ov hr (.slice ca12 ((l7 ++ [at_ p0.Book g8.toNat]).length) cc13) (by kernel_rfl) ?_; clear hr a; intro a hr
      refine wpList_nil ?_
      replace h : Fit z (sepL (ro90 ca12 cc13 (l7 ++ [at_ p0.Book g8.toNat]) :: ob90 b11 (at_ p0.Book g8.toNat) :: ob62 B0 p0 ca1 cc2 ca3 cc4 :: ro2 ca1 cc2 p0.Held :: ro90 ca3 cc4 p0.Book :: L)) _ := h
      refine blk_normal ?_
      refine then_normal ?_
      refine wp_region_lit ?_
      refine ovs [12, 13, 4] [.int .i64 g8, .int .i64 (wi (g8 + (1 : Int))), .int .i64 (wi (g8 + (1 : Int)))] hr ⟨rfl, rfl⟩ (by kernel_rfl) ?_; clear hr a; intro a hr
      refine wpList_nil ?_
      refine then_normal ?_
      replace hr := hr.fold2 [(0, .pointer (some ⟨B0, 0, none⟩)), (3, .slice ca12 ((l7 ++ [at_ p0.Book g8.toNat]).length) cc13), (4, .int .i64 (wi (g8 + (1 : Int))))] (by kernel_rfl); obtain ⟨j, hr⟩ := hr
      replace h : Fit z (sepL (ob62 B0 p0 ca1 cc2 ca3 cc4 :: ro2 ca1 cc2 p0.Held :: ro90 ca3 cc4 p0.Book :: ro90 ca12 cc13 (l7 ++ [at_ p0.Book g8.toNat]) :: L)) _ := h.sel 5 [2, 3, 4, 0] (by kernel_rfl) (by kernel_rfl)
      exact ⟨_, ⟨ca12, cc13, (l7 ++ [at_ p0.Book g8.toNat]), (wi (g8 + (1 : Int))), H, j, hr, h⟩, Nat.lt_succ_self _⟩
    ·
      replace H := ifF c9 H
      refine cond_ff hr (b := (decide (g8 < ((p0.Book.length : Nat) : Int)))) (decide_eq_false c9) ?_
      refine wp_exit ?_
      refine then_exit ?_
      refine then_exit ?_
      refine blk_here ?_
      refine then_normal ?_
      refine wp_seq ?_
      refine wp_region_lit ?_
      refine ovs [24, 2] [.slice ca5 l7.length cc6, .slice ca5 l7.length cc6] hr ⟨rfl, rfl⟩ (by kernel_rfl) ?_; clear hr a; intro a hr
      refine wpList_nil ?_
      refine then_normal ?_
      refine wp_ret ?_
      refine end_ret1 (v := .slice ca5 l7.length cc6) rfl hr (by kernel_rfl) ?_
      replace H := ej1 H; subst H
      exact ⟨ca5, cc6, rfl, h⟩

def plunderref2_Play_l1 (K : Nat) (p1 : List T_api_Act) : Nat → (List T_api_Effect) → T_plunderref2_Arena → Int → Option ((List T_api_Effect) × T_plunderref2_Arena)
  | 0, _, _, _ => none
  | k1 + 1, l25, S26, g31 => (if g31 < ((p1.length : Nat) : Int) then if inr_ g31 p1.length then ob2 (plunderref2_Arena_Do K ({ S26 with Actor := (at_ p1 g31.toNat).Who }) (at_ p1 g31.toNat)) (fun r34 S35 => if (l25.length + 1) * 24 ≤ 140737488355328 then (plunderref2_Play_l1 K p1 k1 (l25 ++ [r34]) S35 (wi (g31 + (1 : Int)))) else none) else none else some (l25, S26))
/-- plunder/plunderref2.Play -/
def plunderref2_Play (K : Nat) (p0 : Int) (p1 : List T_api_Act) : Option (T_api_CellRun × Int) :=
  ob2 (plunderref2_New p0) (fun r3 r4 => (if r4 = (0 : Int) then (if ((p1.length : Nat) : Int) > (4096 : Int) then some ((⟨([] : List T_api_Effect), ([] : List Int), ([] : List T_api_Access)⟩ : T_api_CellRun), 2) else ob2 ((plunderref2_Play_l1 K p1 K ([] : List T_api_Effect) ({ r3 with On := true }) 0)) (fun l15 S16 => ob1 (plunderref2_Arena_Cells K S16) (fun r46 => ob1 (plunderref2_Arena_Log K S16) (fun r50 => some ((⟨l15, r46, r50⟩ : T_api_CellRun), 0))))) else some ((⟨([] : List T_api_Effect), ([] : List Int), ([] : List T_api_Access)⟩ : T_api_CellRun), r4)))
set_option maxRecDepth 100000 in
set_option maxHeartbeats 4000000 in
theorem plunderref2_Play_ok {z w : World} {L : List HProp} {K : Nat} {p0 : Int} {p1 : List T_api_Act} {va1 : Option Addr} {vc1 : Nat} {r0 : T_api_CellRun} {r1 : Int} (H : plunderref2_Play K p0 p1 = some (r0, r1)) (h : Fit z (sepL (L)) w) (hv1 : RdRow L 5 enc_T_api_Act va1 p1) :
    Calls Try.prog 36 #[.int .i64 p0, .slice va1 p1.length vc1] w fun e w => ∃ car0_1 : Option Addr, ∃ ccr0_2 : Nat, ∃ car0_3 : Option Addr, ∃ ccr0_4 : Nat, ∃ car0_5 : Option Addr, ∃ ccr0_6 : Nat, e = .returned (.tuple #[.agg #[.slice car0_1 r0.Effects.length ccr0_2, .slice car0_3 r0.Cells.length ccr0_4, .slice car0_5 r0.Log.length ccr0_6], .int .i64 r1]) ∧ Fit z (sepL (ro39 car0_1 ccr0_2 r0.Effects :: ro2 car0_3 ccr0_4 r0.Cells :: ro90 car0_5 ccr0_6 r0.Log :: L)) w := by
  unfold plunderref2_Play at H
  refine enter Try.func36 rfl 60 rfl rfl [(0, .int .i64 p0), (1, .slice va1 p1.length vc1)] ⟨rfl, rfl, trivial⟩ ?_
  intro j a hr
  refine wp_seq ?_
  refine wp_region_lit ?_
  refine op_new (wn rfl) rfl rfl hr h (vf := fun b => .pointer (some ⟨b, 0, none⟩)) (cs := #[.slice none 0 0, .slice none 0 0, .slice none 0 0]) (T := 70) (by kernel_rfl) ?_; clear h hr a; intro b1 w a h hr
  refine ov hr (.int .i64 0) (by kernel_rfl) ?_; clear hr a; intro a hr
  refine wpList_nil ?_
  refine then_normal ?_
  refine wp_seq ?_
  refine wp_region_lit ?_
  refine op_new (wn rfl) rfl rfl hr h (vf := fun b => .pointer (some ⟨b, 0, none⟩)) (cs := #[.slice none 0 0, .slice none 0 0, .slice none 0 0]) (T := 70) (by kernel_rfl) ?_; clear h hr a; intro b2 w a h hr
  refine wpList_nil ?_
  refine then_normal ?_
  refine wp_seq ?_
  refine wp_region_lit ?_
  replace H := bd2 H; obtain ⟨r3, r4, e5, H⟩ := H
  refine ov hr (.int .i64 p0) (by kernel_rfl) ?_; clear hr a; intro a hr
  have hc := plunderref2_New_ok (H := e5) (h := h)
  refine op_call (wn rfl) rfl rfl hr (f := 27) (args := #[.int .i64 p0]) (by kernel_rfl) hc ?_; clear hc h
  rintro _ w ⟨Bn6, car7, ccr8, car9, ccr10, rfl, h⟩; refine ⟨_, rfl, ?_⟩
  clear hr a; intro a hr
  refine ovs [11, 14, 15, 7, 8] [.tuple #[.pointer (some ⟨Bn6, 0, none⟩), .int .i64 r4], .pointer (some ⟨Bn6, 0, none⟩), .int .i64 r4, .pointer (some ⟨Bn6, 0, none⟩), .int .i64 r4] hr ⟨rfl, rfl⟩ (by kernel_rfl) ?_; clear hr a; intro a hr
  refine wpList_nil ?_
  refine then_normal ?_
  refine wp_seq ?_
  refine wp_seq ?_
  refine wp_region_lit ?_
  refine ovs [16, 17] [.int .i64 r4, .bool (r4 != (0 : Int))] hr ⟨rfl, rfl⟩ (by kernel_rfl) ?_; clear hr a; intro a hr
  refine wpList_nil ?_
  refine then_normal ?_
  by_cases c11 : r4 = (0 : Int)
  ·
    replace H := ifT c11 H
    refine cond_ff hr (b := (r4 != (0 : Int))) (bne_eq_false_iff_eq.mpr c11) ?_
    refine wp_skip ?_
    refine then_normal ?_
    refine wp_seq ?_
    refine wp_seq ?_
    refine wp_region_lit ?_
    refine ovs [20, 21, 22] [.slice va1 p1.length vc1, .int .i64 ((p1.length : Nat) : Int), .bool (decide (((p1.length : Nat) : Int) > (4096 : Int)))] hr ⟨rfl, rfl⟩ (by kernel_rfl) ?_; clear hr a; intro a hr
    refine wpList_nil ?_
    refine then_normal ?_
    by_cases c12 : ((p1.length : Nat) : Int) > (4096 : Int)
    ·
      replace H := ifT c12 H
      refine cond_tt hr (b := (decide (((p1.length : Nat) : Int) > (4096 : Int)))) (decide_eq_true c12) ?_
      refine wp_seq ?_
      refine wp_region_lit ?_
      refine op_val (wn rfl) rfl rfl hr (v := .agg #[.slice none 0 0, .slice none 0 0, .slice none 0 0]) (rlm (cs := [.slice none 0 0, .slice none 0 0, .slice none 0 0]) rfl (by kernel_rfl) (by kernel_rfl) (by kernel_rfl) ⟨(h.pick 3).cell 0 rfl, (h.pick 3).cell 1 rfl, (h.pick 3).cell 2 rfl, trivial⟩) ?_; clear hr a; intro a hr
      replace h : Fit z (sepL (pts b1 (.cells #[.slice none 0 0, .slice none 0 0, .slice none 0 0] 70) :: ob62 Bn6 r3 car7 ccr8 car9 ccr10 :: ro2 car7 ccr8 r3.Held :: ro90 car9 ccr10 r3.Book :: pts b2 (.cells #[.slice none 0 0, .slice none 0 0, .slice none 0 0] 70) :: L)) _ := h.sel 5 [4, 0, 1, 2, 3] (by kernel_rfl) (by kernel_rfl)
      refine op_stores (wn rfl) rfl hr rfl (by kernel_rfl) (by kernel_rfl) (vs := [.slice none 0 0, .slice none 0 0, .slice none 0 0]) rfl rfl (by kernel_rfl) h (i := 0) (cs' := #[.slice none 0 0, .slice none 0 0, .slice none 0 0]) rfl ?_; clear h; intro w h
      refine ov hr (.int .i64 2) (by kernel_rfl) ?_; clear hr a; intro a hr
      refine wpList_nil ?_
      replace h : Fit z (sepL (pts b1 (.cells #[.slice none 0 0, .slice none 0 0, .slice none 0 0] 70) :: ob62 Bn6 r3 car7 ccr8 car9 ccr10 :: ro2 car7 ccr8 r3.Held :: ro90 car9 ccr10 r3.Book :: pts b2 (.cells #[.slice none 0 0, .slice none 0 0, .slice none 0 0] 70) :: L)) _ := h
      refine then_normal ?_
      refine wp_ret ?_
      refine then_ret ?_
      refine end_retCT (cs := [.slice none 0 0, .slice none 0 0, .slice none 0 0]) (v := .int .i64 2) rfl hr (by kernel_rfl) (by kernel_rfl) (by kernel_rfl) (by kernel_rfl) ⟨h.cell 0 rfl, h.cell 1 rfl, h.cell 2 rfl, trivial⟩ ?_
      replace h : Fit z (sepL (rowOf 39 3 enc_T_api_Effect (.slice none 0 0) ([] : List T_api_Effect) :: pts b1 (.cells #[.slice none 0 0, .slice none 0 0, .slice none 0 0] 70) :: ob62 Bn6 r3 car7 ccr8 car9 ccr10 :: ro2 car7 ccr8 r3.Held :: ro90 car9 ccr10 r3.Book :: pts b2 (.cells #[.slice none 0 0, .slice none 0 0, .slice none 0 0] 70) :: L)) _ := h.row_nil
      replace h : Fit z (sepL (rowOf 2 1 encZ_i64 (.slice none 0 0) ([] : List Int) :: rowOf 39 3 enc_T_api_Effect (.slice none 0 0) ([] : List T_api_Effect) :: pts b1 (.cells #[.slice none 0 0, .slice none 0 0, .slice none 0 0] 70) :: ob62 Bn6 r3 car7 ccr8 car9 ccr10 :: ro2 car7 ccr8 r3.Held :: ro90 car9 ccr10 r3.Book :: pts b2 (.cells #[.slice none 0 0, .slice none 0 0, .slice none 0 0] 70) :: L)) _ := h.row_nil
      replace h : Fit z (sepL (rowOf 90 6 enc_T_api_Access (.slice none 0 0) ([] : List T_api_Access) :: rowOf 2 1 encZ_i64 (.slice none 0 0) ([] : List Int) :: rowOf 39 3 enc_T_api_Effect (.slice none 0 0) ([] : List T_api_Effect) :: pts b1 (.cells #[.slice none 0 0, .slice none 0 0, .slice none 0 0] 70) :: ob62 Bn6 r3 car7 ccr8 car9 ccr10 :: ro2 car7 ccr8 r3.Held :: ro90 car9 ccr10 r3.Book :: pts b2 (.cells #[.slice none 0 0, .slice none 0 0, .slice none 0 0] 70) :: L)) _ := h.row_nil
      replace h : Fit z (sepL (rowOf 39 3 enc_T_api_Effect (.slice none 0 0) ([] : List T_api_Effect) :: rowOf 2 1 encZ_i64 (.slice none 0 0) ([] : List Int) :: rowOf 90 6 enc_T_api_Access (.slice none 0 0) ([] : List T_api_Access) :: L)) _ := h.sel 8 [2, 1, 0] (by kernel_rfl) (by kernel_rfl)
      replace H := ej2 H; obtain ⟨rfl, rfl⟩ := H
      exact ⟨none, 0, none, 0, none, 0, rfl, h⟩
    ·
      replace H := ifF c12 H
      refine cond_ff hr (b := (decide (((p1.length : Nat) : Int) > (4096 : Int)))) (decide_eq_false c12) ?_
      refine wp_skip ?_
      refine then_normal ?_
      refine wp_seq ?_
      refine wp_region_lit ?_
      refine ovs [24, 25, 26] [.pointer (some ⟨Bn6, 0, none⟩), .pointer (some ⟨Bn6, 0, none⟩), .pointer (some ⟨Bn6, 2, none⟩)] hr ⟨rfl, rfl⟩ (by kernel_rfl) ?_; clear hr a; intro a hr
      refine op_store (wn rfl) rfl hr rfl (by kernel_rfl) (by kernel_rfl) (v := .bool true) rfl rfl (by kernel_rfl) h (i := 2) rfl ?_; clear h; intro w h
      refine wpList_nil ?_
      replace h : Fit z (sepL (pts Bn6 (.cells #[.int .i64 r3.Most, .slice car7 r3.Held.length ccr8, .bool true, .int .i64 r3.Actor, .slice car9 r3.Book.length ccr10] 62) :: ro2 car7 ccr8 r3.Held :: ro90 car9 ccr10 r3.Book :: pts b2 (.cells #[.slice none 0 0, .slice none 0 0, .slice none 0 0] 70) :: pts b1 (.cells #[.slice none 0 0, .slice none 0 0, .slice none 0 0] 70) :: L)) _ := h
      refine then_normal ?_
      replace H := kd2 H; obtain ⟨o22, H, hK21⟩ := H
      refine cut_rule (β := Unit) (fun _ a w => ∃ ca13 : Option Addr, ∃ cc14 : Nat, ∃ ca17 : Option Addr, ∃ cc18 : Nat, ∃ ca19 : Option Addr, ∃ cc20 : Nat, ∃ l15 : List T_api_Effect, ∃ S16 : T_plunderref2_Arena, (l15, S16) = o22 ∧ ∃ j, Rep 60 (lk [(4, .pointer (some ⟨b1, 0, none⟩)), (6, .pointer (some ⟨b2, 0, none⟩)), (7, .pointer (some ⟨Bn6, 0, none⟩))] j) a ∧ Fit z (sepL (pts b1 (.cells #[.slice none 0 0, .slice none 0 0, .slice none 0 0] 70) :: pts b2 (.cells #[.slice ca13 l15.length cc14, .slice none 0 0, .slice none 0 0] 70) :: ro39 ca13 cc14 l15 :: ob62 Bn6 S16 ca17 cc18 ca19 cc20 :: ro2 ca17 cc18 S16.Held :: ro90 ca19 cc20 S16.Book :: L)) w) ?_ ?_
      ·
        refine wp_seq ?_
        refine wp_region_lit ?_
        refine ov hr (.int .i64 0) (by kernel_rfl) ?_; clear hr a; intro a hr
        refine wpList_nil ?_
        refine then_normal ?_
        refine wp_block ?_
        replace hr := hr.fold2 [(1, .slice va1 p1.length vc1), (4, .pointer (some ⟨b1, 0, none⟩)), (6, .pointer (some ⟨b2, 0, none⟩)), (7, .pointer (some ⟨Bn6, 0, none⟩)), (9, .int .i64 0)] (by kernel_rfl); obtain ⟨j, hr⟩ := hr
        replace h : Fit z (sepL (rowOf 39 3 enc_T_api_Effect (.slice none 0 0) ([] : List T_api_Effect) :: pts Bn6 (.cells #[.int .i64 r3.Most, .slice car7 r3.Held.length ccr8, .bool true, .int .i64 r3.Actor, .slice car9 r3.Book.length ccr10] 62) :: ro2 car7 ccr8 r3.Held :: ro90 car9 ccr10 r3.Book :: pts b2 (.cells #[.slice none 0 0, .slice none 0 0, .slice none 0 0] 70) :: pts b1 (.cells #[.slice none 0 0, .slice none 0 0, .slice none 0 0] 70) :: L)) _ := h.row_nil
        replace h : Fit z (sepL (pts b1 (.cells #[.slice none 0 0, .slice none 0 0, .slice none 0 0] 70) :: pts b2 (.cells #[.slice none (([] : List T_api_Effect).length) 0, .slice none 0 0, .slice none 0 0] 70) :: rowOf 39 3 enc_T_api_Effect (.slice none (([] : List T_api_Effect).length) 0) ([] : List T_api_Effect) :: ob62 Bn6 ({ r3 with On := true }) car7 ccr8 car9 ccr10 :: rowOf 2 1 encZ_i64 (.slice car7 (({ r3 with On := true }).Held.length) ccr8) (({ r3 with On := true }).Held) :: rowOf 90 6 enc_T_api_Access (.slice car9 (({ r3 with On := true }).Book.length) ccr10) (({ r3 with On := true }).Book) :: L)) _ := h.sel 6 [5, 4, 0, 1, 2, 3] (by kernel_rfl) (by kernel_rfl)
        refine loop_rule (β := Nat) id (fun m a w => ∃ ca23 : Option Addr, ∃ cc24 : Nat, ∃ ca27 : Option Addr, ∃ cc28 : Nat, ∃ ca29 : Option Addr, ∃ cc30 : Nat, ∃ l25 : List T_api_Effect, ∃ S26 : T_plunderref2_Arena, ∃ g31 : Int, (plunderref2_Play_l1 K p1 m l25 S26 g31) = some o22 ∧ ∃ j, Rep 60 (lk [(1, .slice va1 p1.length vc1), (4, .pointer (some ⟨b1, 0, none⟩)), (6, .pointer (some ⟨b2, 0, none⟩)), (7, .pointer (some ⟨Bn6, 0, none⟩)), (9, .int .i64 g31)] j) a ∧ Fit z (sepL (pts b1 (.cells #[.slice none 0 0, .slice none 0 0, .slice none 0 0] 70) :: pts b2 (.cells #[.slice ca23 l25.length cc24, .slice none 0 0, .slice none 0 0] 70) :: ro39 ca23 cc24 l25 :: ob62 Bn6 S26 ca27 cc28 ca29 cc30 :: ro2 ca27 cc28 S26.Held :: ro90 ca29 cc30 S26.Book :: L)) w) K ⟨none, 0, car7, ccr8, car9, ccr10, ([] : List T_api_Effect), ({ r3 with On := true }), 0, H, j, hr, h⟩ ?_
        clear h hr a H; rintro k1 a w ⟨ca23, cc24, ca27, cc28, ca29, cc30, l25, S26, g31, H, j, hr, h⟩
        cases k1 with
        | zero => exact absurd H (by simp [plunderref2_Play_l1])
        | succ k1 =>
          rw [plunderref2_Play_l1] at H
          refine wp_seq ?_
          refine wp_seq ?_
          refine wp_region_lit ?_
          refine ovs [27, 28, 29, 30] [.int .i64 g31, .slice va1 p1.length vc1, .int .i64 ((p1.length : Nat) : Int), .bool (decide (g31 < ((p1.length : Nat) : Int)))] hr ⟨rfl, rfl⟩ (by kernel_rfl) ?_; clear hr a; intro a hr
          refine wpList_nil ?_
          refine then_normal ?_
          by_cases c32 : g31 < ((p1.length : Nat) : Int)
          ·
            replace H := ifT c32 H
            refine cond_tt hr (b := (decide (g31 < ((p1.length : Nat) : Int)))) (decide_eq_true c32) ?_
            refine wp_skip ?_
            refine then_normal ?_
            refine wp_seq ?_
            refine wp_block ?_
            refine wp_seq ?_
            refine wp_region_lit ?_
            replace H := gd H; obtain ⟨c33, H⟩ := H
            refine ovs [33, 34, 35] [.pointer (some ⟨Bn6, 0, none⟩), .slice va1 p1.length vc1, .int .i64 g31] hr ⟨rfl, rfl⟩ (by kernel_rfl) ?_; clear hr a; intro a hr
            refine op_val (wn rfl) rfl rfl hr (v := .pointer (some ⟨blk va1, offs va1 + g31.toNat * 5, none⟩)) (ri_rd (k := .i64) (E := 57) (cc := vc1) rfl (by kernel_rfl) (by kernel_rfl) rfl (by kernel_rfl) (by kernel_rfl) hv1 c33) ?_; clear hr a; intro a hr
            refine ov hr (.pointer (some ⟨blk va1, offs va1 + g31.toNat * 5, none⟩)) (by kernel_rfl) ?_; clear hr a; intro a hr
            refine op_val (wn rfl) rfl rfl hr (v := .int .i64 ((at_ p1 g31.toNat).Who)) (rl rfl (by kernel_rfl) (by kernel_rfl) (hv1.cell c33 (h.dn 6) 0 rfl)) ?_; clear hr a; intro a hr
            refine ovs [39, 40] [.pointer (some ⟨Bn6, 0, none⟩), .pointer (some ⟨Bn6, 3, none⟩)] hr ⟨rfl, rfl⟩ (by kernel_rfl) ?_; clear hr a; intro a hr
            replace h : Fit z (sepL (ob62 Bn6 S26 ca27 cc28 ca29 cc30 :: pts b1 (.cells #[.slice none 0 0, .slice none 0 0, .slice none 0 0] 70) :: pts b2 (.cells #[.slice ca23 l25.length cc24, .slice none 0 0, .slice none 0 0] 70) :: ro39 ca23 cc24 l25 :: ro2 ca27 cc28 S26.Held :: ro90 ca29 cc30 S26.Book :: L)) _ := h.sel 6 [3, 0, 1, 2, 4, 5] (by kernel_rfl) (by kernel_rfl)
            refine op_store (wn rfl) rfl hr rfl (by kernel_rfl) (by kernel_rfl) (v := .int .i64 ((at_ p1 g31.toNat).Who)) rfl rfl (by kernel_rfl) h (i := 3) rfl ?_; clear h; intro w h
            refine wpList_nil ?_
            replace h : Fit z (sepL (pts Bn6 (.cells #[.int .i64 S26.Most, .slice ca27 S26.Held.length cc28, .bool S26.On, .int .i64 ((at_ p1 g31.toNat).Who), .slice ca29 S26.Book.length cc30] 62) :: pts b1 (.cells #[.slice none 0 0, .slice none 0 0, .slice none 0 0] 70) :: pts b2 (.cells #[.slice ca23 l25.length cc24, .slice none 0 0, .slice none 0 0] 70) :: ro39 ca23 cc24 l25 :: ro2 ca27 cc28 S26.Held :: ro90 ca29 cc30 S26.Book :: L)) _ := h
            refine then_normal ?_
            refine wp_seq ?_
            refine wp_region_lit ?_
            refine ovs [41, 42, 43] [.pointer (some ⟨Bn6, 0, none⟩), .slice va1 p1.length vc1, .int .i64 g31] hr ⟨rfl, rfl⟩ (by kernel_rfl) ?_; clear hr a; intro a hr
            refine op_val (wn rfl) rfl rfl hr (v := .pointer (some ⟨blk va1, offs va1 + g31.toNat * 5, none⟩)) (ri_rd (k := .i64) (E := 57) (cc := vc1) rfl (by kernel_rfl) (by kernel_rfl) rfl (by kernel_rfl) (by kernel_rfl) hv1 c33) ?_; clear hr a; intro a hr
            refine op_val (wn rfl) rfl rfl hr (v := .agg #[.int .i64 ((at_ p1 g31.toNat).Who), .int .i64 ((at_ p1 g31.toNat).Kind), .int .i64 ((at_ p1 g31.toNat).Addr), .int .i64 ((at_ p1 g31.toNat).A), .int .i64 ((at_ p1 g31.toNat).B)]) (rlm (cs := [.int .i64 ((at_ p1 g31.toNat).Who), .int .i64 ((at_ p1 g31.toNat).Kind), .int .i64 ((at_ p1 g31.toNat).Addr), .int .i64 ((at_ p1 g31.toNat).A), .int .i64 ((at_ p1 g31.toNat).B)]) rfl (by kernel_rfl) (by kernel_rfl) (by kernel_rfl) ⟨hv1.cell c33 (h.dn 6) 0 rfl, hv1.cell c33 (h.dn 6) 1 rfl, hv1.cell c33 (h.dn 6) 2 rfl, hv1.cell c33 (h.dn 6) 3 rfl, hv1.cell c33 (h.dn 6) 4 rfl, trivial⟩) ?_; clear hr a; intro a hr
            replace H := bd2 H; obtain ⟨r34, S35, e36, H⟩ := H
            replace h : Fit z (sepL (pts Bn6 (.cells #[.int .i64 S26.Most, .slice ca27 S26.Held.length cc28, .bool S26.On, .int .i64 ((at_ p1 g31.toNat).Who), .slice ca29 S26.Book.length cc30] 62) :: ro2 ca27 cc28 S26.Held :: ro90 ca29 cc30 S26.Book :: pts b1 (.cells #[.slice none 0 0, .slice none 0 0, .slice none 0 0] 70) :: pts b2 (.cells #[.slice ca23 l25.length cc24, .slice none 0 0, .slice none 0 0] 70) :: ro39 ca23 cc24 l25 :: L)) _ := h.sel 6 [0, 4, 5, 1, 2, 3] (by kernel_rfl) (by kernel_rfl)
            have hc := plunderref2_Arena_Do_ok (H := e36) (h := h)
            refine op_call (wn rfl) rfl rfl hr (f := 30) (args := #[.pointer (some ⟨Bn6, 0, none⟩), .agg #[.int .i64 ((at_ p1 g31.toNat).Who), .int .i64 ((at_ p1 g31.toNat).Kind), .int .i64 ((at_ p1 g31.toNat).Addr), .int .i64 ((at_ p1 g31.toNat).A), .int .i64 ((at_ p1 g31.toNat).B)]]) (by kernel_rfl) hc ?_; clear hc h
            rintro _ w ⟨caq37, ccq38, caq39, ccq40, rfl, h⟩; refine ⟨_, rfl, ?_⟩
            clear hr a; intro a hr
            refine op_new (wn rfl) rfl rfl hr h (vf := fun b => .pointer (some ⟨b, 0, none⟩)) (cs := #[.int .i64 0, .bool false, .int .i64 0]) (T := 39) (by kernel_rfl) ?_; clear h hr a; intro b41 w a h hr
            refine op_stores (wn rfl) rfl hr rfl (by kernel_rfl) (by kernel_rfl) (vs := [.int .i64 r34.V, .bool r34.OK, .int .i64 r34.Err]) rfl rfl (by kernel_rfl) h (i := 0) (cs' := #[.int .i64 r34.V, .bool r34.OK, .int .i64 r34.Err]) rfl ?_; clear h; intro w h
            refine wpList_nil ?_
            replace h : Fit z (sepL (ob39 b41 r34 :: ob62 Bn6 S35 caq37 ccq38 caq39 ccq40 :: ro2 caq37 ccq38 S35.Held :: ro90 caq39 ccq40 S35.Book :: pts b1 (.cells #[.slice none 0 0, .slice none 0 0, .slice none 0 0] 70) :: pts b2 (.cells #[.slice ca23 l25.length cc24, .slice none 0 0, .slice none 0 0] 70) :: ro39 ca23 cc24 l25 :: L)) _ := h
            refine then_normal ?_
            refine wp_region_lit ?_
            refine ov hr (.pointer (some ⟨b2, 0, none⟩)) (by kernel_rfl) ?_; clear hr a; intro a hr
            refine op_val (wn rfl) rfl rfl hr (v := .slice ca23 l25.length cc24) (rl rfl (by kernel_rfl) (by kernel_rfl) ((h.pick 5).cell 0 rfl)) ?_; clear hr a; intro a hr
            refine op_val (wn rfl) rfl rfl hr (v := .agg #[.int .i64 r34.V, .bool r34.OK, .int .i64 r34.Err]) (rlm (cs := [.int .i64 r34.V, .bool r34.OK, .int .i64 r34.Err]) rfl (by kernel_rfl) (by kernel_rfl) (by kernel_rfl) ⟨h.cell 0 rfl, h.cell 1 rfl, h.cell 2 rfl, trivial⟩) ?_; clear hr a; intro a hr
            refine op_new (wn rfl) rfl rfl hr h (vf := fun b => .slice (some ⟨b, 0, none⟩) 1 1) (cs := #[.int .i64 r34.V, .bool r34.OK, .int .i64 r34.Err]) (T := 39) (by kernel_rfl) ?_; clear h hr a; intro b42 w a h hr
            replace h : Fit z (sepL (ro39 ca23 cc24 l25 :: ob39 b42 r34 :: ob39 b41 r34 :: ob62 Bn6 S35 caq37 ccq38 caq39 ccq40 :: ro2 caq37 ccq38 S35.Held :: ro90 caq39 ccq40 S35.Book :: pts b1 (.cells #[.slice none 0 0, .slice none 0 0, .slice none 0 0] 70) :: pts b2 (.cells #[.slice ca23 l25.length cc24, .slice none 0 0, .slice none 0 0] 70) :: L)) _ := h.sel 8 [7, 0, 1, 2, 3, 4, 5, 6] (by kernel_rfl) (by kernel_rfl)
            replace H := gd H; obtain ⟨c45, H⟩ := H
            refine op_append (n0 := l25.length) (c := 1) (bytes := 24) (wn rfl) rfl rfl hr rfl (by kernel_rfl) (by kernel_rfl) enc_T_api_Effect_ok (E := 39) (xs := l25) (by kernel_rfl) (by kernel_rfl) h (news := [r34]) (m := 1) rfl ((h.pick 1).news rfl) c45 rfl ?_; clear h hr a; intro ca43 cc44 w a h hr
            refine ov hr (.pointer (some ⟨b2, 0, none⟩)) (by kernel_rfl) ?_; clear hr a; intro a hr
            replace h : Fit z (sepL (pts b2 (.cells #[.slice ca23 l25.length cc24, .slice none 0 0, .slice none 0 0] 70) :: ro39 ca43 cc44 (l25 ++ [r34]) :: ob39 b42 r34 :: ob39 b41 r34 :: ob62 Bn6 S35 caq37 ccq38 caq39 ccq40 :: ro2 caq37 ccq38 S35.Held :: ro90 caq39 ccq40 S35.Book :: pts b1 (.cells #[.slice none 0 0, .slice none 0 0, .slice none 0 0] 70) :: L)) _ := h.sel 8 [7, 0, 1, 2, 3, 4, 5, 6] (by kernel_rfl) (by kernel_rfl)
            refine op_store (wn rfl) rfl hr rfl (by kernel_rfl) (by kernel_rfl) (v := .slice ca43 ((l25 ++ [r34]).length) cc44) rfl rfl (by kernel_rfl) h (i := 0) rfl ?_; clear h; intro w h
            refine wpList_nil ?_
            replace h : Fit z (sepL (pts b2 (.cells #[.slice ca43 ((l25 ++ [r34]).length) cc44, .slice none 0 0, .slice none 0 0] 70) :: ro39 ca43 cc44 (l25 ++ [r34]) :: ob39 b42 r34 :: ob39 b41 r34 :: ob62 Bn6 S35 caq37 ccq38 caq39 ccq40 :: ro2 caq37 ccq38 S35.Held :: ro90 caq39 ccq40 S35.Book :: pts b1 (.cells #[.slice none 0 0, .slice none 0 0, .slice none 0 0] 70) :: L)) _ := h
            refine blk_normal ?_
            refine then_normal ?_
            refine wp_region_lit ?_
            refine ovs [31, 32, 9] [.int .i64 g31, .int .i64 (wi (g31 + (1 : Int))), .int .i64 (wi (g31 + (1 : Int)))] hr ⟨rfl, rfl⟩ (by kernel_rfl) ?_; clear hr a; intro a hr
            refine wpList_nil ?_
            refine then_normal ?_
            replace hr := hr.fold2 [(1, .slice va1 p1.length vc1), (4, .pointer (some ⟨b1, 0, none⟩)), (6, .pointer (some ⟨b2, 0, none⟩)), (7, .pointer (some ⟨Bn6, 0, none⟩)), (9, .int .i64 (wi (g31 + (1 : Int))))] (by kernel_rfl); obtain ⟨j, hr⟩ := hr
            replace h : Fit z (sepL (pts b1 (.cells #[.slice none 0 0, .slice none 0 0, .slice none 0 0] 70) :: pts b2 (.cells #[.slice ca43 ((l25 ++ [r34]).length) cc44, .slice none 0 0, .slice none 0 0] 70) :: ro39 ca43 cc44 (l25 ++ [r34]) :: ob62 Bn6 S35 caq37 ccq38 caq39 ccq40 :: ro2 caq37 ccq38 S35.Held :: ro90 caq39 ccq40 S35.Book :: L)) _ := h.sel 8 [7, 0, 1, 4, 5, 6] (by kernel_rfl) (by kernel_rfl)
            exact ⟨_, ⟨ca43, cc44, caq37, ccq38, caq39, ccq40, (l25 ++ [r34]), S35, (wi (g31 + (1 : Int))), H, j, hr, h⟩, Nat.lt_succ_self _⟩
          ·
            replace H := ifF c32 H
            refine cond_ff hr (b := (decide (g31 < ((p1.length : Nat) : Int)))) (decide_eq_false c32) ?_
            refine wp_exit ?_
            refine then_exit ?_
            refine then_exit ?_
            refine blk_here ?_
            refine then_normal ?_
            replace hr := hr.fold2 [(4, .pointer (some ⟨b1, 0, none⟩)), (6, .pointer (some ⟨b2, 0, none⟩)), (7, .pointer (some ⟨Bn6, 0, none⟩))] (by kernel_rfl); obtain ⟨j, hr⟩ := hr
            exact ⟨(), ca23, cc24, ca27, cc28, ca29, cc30, l25, S26, sinj H, j, hr, h⟩
      clear h hr a; rintro _ a w ⟨ca13, cc14, ca17, cc18, ca19, cc20, l15, S16, rfl, j, hr, h⟩
      replace H := kk2 hK21
      refine wp_seq ?_
      refine wp_region_lit ?_
      replace H := bd1 H; obtain ⟨r46, e47, H⟩ := H
      refine ov hr (.pointer (some ⟨Bn6, 0, none⟩)) (by kernel_rfl) ?_; clear hr a; intro a hr
      replace h : Fit z (sepL (ob62 Bn6 S16 ca17 cc18 ca19 cc20 :: ro2 ca17 cc18 S16.Held :: ro90 ca19 cc20 S16.Book :: pts b1 (.cells #[.slice none 0 0, .slice none 0 0, .slice none 0 0] 70) :: pts b2 (.cells #[.slice ca13 l15.length cc14, .slice none 0 0, .slice none 0 0] 70) :: ro39 ca13 cc14 l15 :: L)) _ := h.sel 6 [3, 4, 5, 0, 1, 2] (by kernel_rfl) (by kernel_rfl)
      have hc := plunderref2_Arena_Cells_ok (H := e47) (h := h)
      refine op_call (wn rfl) rfl rfl hr (f := 85) (args := #[.pointer (some ⟨Bn6, 0, none⟩)]) (by kernel_rfl) hc ?_; clear hc h
      rintro _ w ⟨car48, ccr49, rfl, h⟩; refine ⟨_, rfl, ?_⟩
      clear hr a; intro a hr
      refine ov hr (.pointer (some ⟨b2, 1, none⟩)) (by kernel_rfl) ?_; clear hr a; intro a hr
      replace h : Fit z (sepL (pts b2 (.cells #[.slice ca13 l15.length cc14, .slice none 0 0, .slice none 0 0] 70) :: ob62 Bn6 S16 ca17 cc18 ca19 cc20 :: ro2 ca17 cc18 S16.Held :: ro90 ca19 cc20 S16.Book :: ro2 car48 ccr49 r46 :: pts b1 (.cells #[.slice none 0 0, .slice none 0 0, .slice none 0 0] 70) :: ro39 ca13 cc14 l15 :: L)) _ := h.sel 7 [5, 0, 1, 2, 3, 4, 6] (by kernel_rfl) (by kernel_rfl)
      refine op_store (wn rfl) rfl hr rfl (by kernel_rfl) (by kernel_rfl) (v := .slice car48 r46.length ccr49) rfl rfl (by kernel_rfl) h (i := 1) rfl ?_; clear h; intro w h
      refine wpList_nil ?_
      replace h : Fit z (sepL (pts b2 (.cells #[.slice ca13 l15.length cc14, .slice car48 r46.length ccr49, .slice none 0 0] 70) :: ob62 Bn6 S16 ca17 cc18 ca19 cc20 :: ro2 ca17 cc18 S16.Held :: ro90 ca19 cc20 S16.Book :: ro2 car48 ccr49 r46 :: pts b1 (.cells #[.slice none 0 0, .slice none 0 0, .slice none 0 0] 70) :: ro39 ca13 cc14 l15 :: L)) _ := h
      refine then_normal ?_
      refine wp_seq ?_
      refine wp_region_lit ?_
      replace H := bd1 H; obtain ⟨r50, e51, H⟩ := H
      refine ov hr (.pointer (some ⟨Bn6, 0, none⟩)) (by kernel_rfl) ?_; clear hr a; intro a hr
      replace h : Fit z (sepL (ob62 Bn6 S16 ca17 cc18 ca19 cc20 :: ro2 ca17 cc18 S16.Held :: ro90 ca19 cc20 S16.Book :: pts b2 (.cells #[.slice ca13 l15.length cc14, .slice car48 r46.length ccr49, .slice none 0 0] 70) :: ro2 car48 ccr49 r46 :: pts b1 (.cells #[.slice none 0 0, .slice none 0 0, .slice none 0 0] 70) :: ro39 ca13 cc14 l15 :: L)) _ := h.sel 7 [1, 2, 3, 0, 4, 5, 6] (by kernel_rfl) (by kernel_rfl)
      have hc := plunderref2_Arena_Log_ok (H := e51) (h := h)
      refine op_call (wn rfl) rfl rfl hr (f := 86) (args := #[.pointer (some ⟨Bn6, 0, none⟩)]) (by kernel_rfl) hc ?_; clear hc h
      rintro _ w ⟨car52, ccr53, rfl, h⟩; refine ⟨_, rfl, ?_⟩
      clear hr a; intro a hr
      refine ov hr (.pointer (some ⟨b2, 2, none⟩)) (by kernel_rfl) ?_; clear hr a; intro a hr
      replace h : Fit z (sepL (pts b2 (.cells #[.slice ca13 l15.length cc14, .slice car48 r46.length ccr49, .slice none 0 0] 70) :: ob62 Bn6 S16 ca17 cc18 ca19 cc20 :: ro2 ca17 cc18 S16.Held :: ro90 ca19 cc20 S16.Book :: ro90 car52 ccr53 r50 :: ro2 car48 ccr49 r46 :: pts b1 (.cells #[.slice none 0 0, .slice none 0 0, .slice none 0 0] 70) :: ro39 ca13 cc14 l15 :: L)) _ := h.sel 8 [4, 0, 1, 2, 3, 5, 6, 7] (by kernel_rfl) (by kernel_rfl)
      refine op_store (wn rfl) rfl hr rfl (by kernel_rfl) (by kernel_rfl) (v := .slice car52 r50.length ccr53) rfl rfl (by kernel_rfl) h (i := 2) rfl ?_; clear h; intro w h
      refine wpList_nil ?_
      replace h : Fit z (sepL (pts b2 (.cells #[.slice ca13 l15.length cc14, .slice car48 r46.length ccr49, .slice car52 r50.length ccr53] 70) :: ob62 Bn6 S16 ca17 cc18 ca19 cc20 :: ro2 ca17 cc18 S16.Held :: ro90 ca19 cc20 S16.Book :: ro90 car52 ccr53 r50 :: ro2 car48 ccr49 r46 :: pts b1 (.cells #[.slice none 0 0, .slice none 0 0, .slice none 0 0] 70) :: ro39 ca13 cc14 l15 :: L)) _ := h
      refine then_normal ?_
      refine wp_seq ?_
      refine wp_region_lit ?_
      refine op_val (wn rfl) rfl rfl hr (v := .agg #[.slice ca13 l15.length cc14, .slice car48 r46.length ccr49, .slice car52 r50.length ccr53]) (rlm (cs := [.slice ca13 l15.length cc14, .slice car48 r46.length ccr49, .slice car52 r50.length ccr53]) rfl (by kernel_rfl) (by kernel_rfl) (by kernel_rfl) ⟨h.cell 0 rfl, h.cell 1 rfl, h.cell 2 rfl, trivial⟩) ?_; clear hr a; intro a hr
      replace h : Fit z (sepL (pts b1 (.cells #[.slice none 0 0, .slice none 0 0, .slice none 0 0] 70) :: pts b2 (.cells #[.slice ca13 l15.length cc14, .slice car48 r46.length ccr49, .slice car52 r50.length ccr53] 70) :: ob62 Bn6 S16 ca17 cc18 ca19 cc20 :: ro2 ca17 cc18 S16.Held :: ro90 ca19 cc20 S16.Book :: ro90 car52 ccr53 r50 :: ro2 car48 ccr49 r46 :: ro39 ca13 cc14 l15 :: L)) _ := h.sel 8 [6, 0, 1, 2, 3, 4, 5, 7] (by kernel_rfl) (by kernel_rfl)
      refine op_stores (wn rfl) rfl hr rfl (by kernel_rfl) (by kernel_rfl) (vs := [.slice ca13 l15.length cc14, .slice car48 r46.length ccr49, .slice car52 r50.length ccr53]) rfl rfl (by kernel_rfl) h (i := 0) (cs' := #[.slice ca13 l15.length cc14, .slice car48 r46.length ccr49, .slice car52 r50.length ccr53]) rfl ?_; clear h; intro w h
      refine ov hr (.int .i64 0) (by kernel_rfl) ?_; clear hr a; intro a hr
      refine wpList_nil ?_
      replace h : Fit z (sepL (pts b1 (.cells #[.slice ca13 l15.length cc14, .slice car48 r46.length ccr49, .slice car52 r50.length ccr53] 70) :: pts b2 (.cells #[.slice ca13 l15.length cc14, .slice car48 r46.length ccr49, .slice car52 r50.length ccr53] 70) :: ob62 Bn6 S16 ca17 cc18 ca19 cc20 :: ro2 ca17 cc18 S16.Held :: ro90 ca19 cc20 S16.Book :: ro90 car52 ccr53 r50 :: ro2 car48 ccr49 r46 :: ro39 ca13 cc14 l15 :: L)) _ := h
      refine then_normal ?_
      refine wp_ret ?_
      refine end_retCT (cs := [.slice ca13 l15.length cc14, .slice car48 r46.length ccr49, .slice car52 r50.length ccr53]) (v := .int .i64 0) rfl hr (by kernel_rfl) (by kernel_rfl) (by kernel_rfl) (by kernel_rfl) ⟨h.cell 0 rfl, h.cell 1 rfl, h.cell 2 rfl, trivial⟩ ?_
      replace h : Fit z (sepL (ro39 ca13 cc14 l15 :: ro2 car48 ccr49 r46 :: ro90 car52 ccr53 r50 :: L)) _ := h.sel 8 [7, 6, 5] (by kernel_rfl) (by kernel_rfl)
      replace H := ej2 H; obtain ⟨rfl, rfl⟩ := H
      exact ⟨ca13, cc14, car48, ccr49, car52, ccr53, rfl, h⟩
  ·
    replace H := ifF c11 H
    refine cond_tt hr (b := (r4 != (0 : Int))) (bne_iff_ne.mpr c11) ?_
    refine wp_seq ?_
    refine wp_region_lit ?_
    refine op_val (wn rfl) rfl rfl hr (v := .agg #[.slice none 0 0, .slice none 0 0, .slice none 0 0]) (rlm (cs := [.slice none 0 0, .slice none 0 0, .slice none 0 0]) rfl (by kernel_rfl) (by kernel_rfl) (by kernel_rfl) ⟨(h.pick 3).cell 0 rfl, (h.pick 3).cell 1 rfl, (h.pick 3).cell 2 rfl, trivial⟩) ?_; clear hr a; intro a hr
    refine ov hr (.int .i64 r4) (by kernel_rfl) ?_; clear hr a; intro a hr
    replace h : Fit z (sepL (pts b1 (.cells #[.slice none 0 0, .slice none 0 0, .slice none 0 0] 70) :: ob62 Bn6 r3 car7 ccr8 car9 ccr10 :: ro2 car7 ccr8 r3.Held :: ro90 car9 ccr10 r3.Book :: pts b2 (.cells #[.slice none 0 0, .slice none 0 0, .slice none 0 0] 70) :: L)) _ := h.sel 5 [4, 0, 1, 2, 3] (by kernel_rfl) (by kernel_rfl)
    refine op_stores (wn rfl) rfl hr rfl (by kernel_rfl) (by kernel_rfl) (vs := [.slice none 0 0, .slice none 0 0, .slice none 0 0]) rfl rfl (by kernel_rfl) h (i := 0) (cs' := #[.slice none 0 0, .slice none 0 0, .slice none 0 0]) rfl ?_; clear h; intro w h
    refine ov hr (.int .i64 r4) (by kernel_rfl) ?_; clear hr a; intro a hr
    refine wpList_nil ?_
    replace h : Fit z (sepL (pts b1 (.cells #[.slice none 0 0, .slice none 0 0, .slice none 0 0] 70) :: ob62 Bn6 r3 car7 ccr8 car9 ccr10 :: ro2 car7 ccr8 r3.Held :: ro90 car9 ccr10 r3.Book :: pts b2 (.cells #[.slice none 0 0, .slice none 0 0, .slice none 0 0] 70) :: L)) _ := h
    refine then_normal ?_
    refine wp_ret ?_
    refine then_ret ?_
    refine end_retCT (cs := [.slice none 0 0, .slice none 0 0, .slice none 0 0]) (v := .int .i64 r4) rfl hr (by kernel_rfl) (by kernel_rfl) (by kernel_rfl) (by kernel_rfl) ⟨h.cell 0 rfl, h.cell 1 rfl, h.cell 2 rfl, trivial⟩ ?_
    replace h : Fit z (sepL (rowOf 39 3 enc_T_api_Effect (.slice none 0 0) ([] : List T_api_Effect) :: pts b1 (.cells #[.slice none 0 0, .slice none 0 0, .slice none 0 0] 70) :: ob62 Bn6 r3 car7 ccr8 car9 ccr10 :: ro2 car7 ccr8 r3.Held :: ro90 car9 ccr10 r3.Book :: pts b2 (.cells #[.slice none 0 0, .slice none 0 0, .slice none 0 0] 70) :: L)) _ := h.row_nil
    replace h : Fit z (sepL (rowOf 2 1 encZ_i64 (.slice none 0 0) ([] : List Int) :: rowOf 39 3 enc_T_api_Effect (.slice none 0 0) ([] : List T_api_Effect) :: pts b1 (.cells #[.slice none 0 0, .slice none 0 0, .slice none 0 0] 70) :: ob62 Bn6 r3 car7 ccr8 car9 ccr10 :: ro2 car7 ccr8 r3.Held :: ro90 car9 ccr10 r3.Book :: pts b2 (.cells #[.slice none 0 0, .slice none 0 0, .slice none 0 0] 70) :: L)) _ := h.row_nil
    replace h : Fit z (sepL (rowOf 90 6 enc_T_api_Access (.slice none 0 0) ([] : List T_api_Access) :: rowOf 2 1 encZ_i64 (.slice none 0 0) ([] : List Int) :: rowOf 39 3 enc_T_api_Effect (.slice none 0 0) ([] : List T_api_Effect) :: pts b1 (.cells #[.slice none 0 0, .slice none 0 0, .slice none 0 0] 70) :: ob62 Bn6 r3 car7 ccr8 car9 ccr10 :: ro2 car7 ccr8 r3.Held :: ro90 car9 ccr10 r3.Book :: pts b2 (.cells #[.slice none 0 0, .slice none 0 0, .slice none 0 0] 70) :: L)) _ := h.row_nil
    replace h : Fit z (sepL (rowOf 39 3 enc_T_api_Effect (.slice none 0 0) ([] : List T_api_Effect) :: rowOf 2 1 encZ_i64 (.slice none 0 0) ([] : List Int) :: rowOf 90 6 enc_T_api_Access (.slice none 0 0) ([] : List T_api_Access) :: L)) _ := h.sel 8 [2, 1, 0] (by kernel_rfl) (by kernel_rfl)
    replace H := ej2 H; obtain ⟨rfl, rfl⟩ := H
    exact ⟨none, 0, none, 0, none, 0, rfl, h⟩

/-- plunder/plunderlaw2.mark -/
def plunderlaw2_mark (p0 : Int) : Option (T_api_Act) :=
  some (⟨wi ((-7 : Int) - p0), wi ((77 : Int) + p0), -9, 5, 6⟩ : T_api_Act)
set_option maxRecDepth 100000 in
set_option maxHeartbeats 4000000 in
theorem plunderlaw2_mark_ok {z w : World} {L : List HProp} {p0 : Int} {r0 : T_api_Act} (H : plunderlaw2_mark p0 = some r0) (h : Fit z (sepL (L)) w)  :
    Calls Try.prog 87 #[.int .i64 p0] w fun e w => e = .returned (.agg #[.int .i64 r0.Who, .int .i64 r0.Kind, .int .i64 r0.Addr, .int .i64 r0.A, .int .i64 r0.B]) ∧ Fit z (sepL (L)) w := by
  unfold plunderlaw2_mark at H
  refine enter Try.func87 rfl 8 rfl rfl [(0, .int .i64 p0)] ⟨rfl, trivial⟩ ?_
  intro j a hr
  refine wp_seq ?_
  refine wp_region_lit ?_
  refine op_new (wn rfl) rfl rfl hr h (vf := fun b => .pointer (some ⟨b, 0, none⟩)) (cs := #[.int .i64 0, .int .i64 0, .int .i64 0, .int .i64 0, .int .i64 0]) (T := 57) (by kernel_rfl) ?_; clear h hr a; intro b1 w a h hr
  refine wpList_nil ?_
  refine then_normal ?_
  refine wp_seq ?_
  refine wp_region_lit ?_
  refine ovs [3, 4, 5, 6, 7] [.int .i64 p0, .int .i64 (wi ((-7 : Int) - p0)), .int .i64 p0, .int .i64 (wi ((77 : Int) + p0)), .agg #[.int .i64 (wi ((-7 : Int) - p0)), .int .i64 (wi ((77 : Int) + p0)), .int .i64 (-9), .int .i64 5, .int .i64 6]] hr ⟨rfl, rfl⟩ (by kernel_rfl) ?_; clear hr a; intro a hr
  refine op_stores (wn rfl) rfl hr rfl (by kernel_rfl) (by kernel_rfl) (vs := [.int .i64 (wi ((-7 : Int) - p0)), .int .i64 (wi ((77 : Int) + p0)), .int .i64 (-9), .int .i64 5, .int .i64 6]) rfl rfl (by kernel_rfl) h (i := 0) (cs' := #[.int .i64 (wi ((-7 : Int) - p0)), .int .i64 (wi ((77 : Int) + p0)), .int .i64 (-9), .int .i64 5, .int .i64 6]) rfl ?_; clear h; intro w h
  refine wpList_nil ?_
  replace h : Fit z (sepL (pts b1 (.cells #[.int .i64 (wi ((-7 : Int) - p0)), .int .i64 (wi ((77 : Int) + p0)), .int .i64 (-9), .int .i64 5, .int .i64 6] 57) :: L)) _ := h
  refine then_normal ?_
  refine wp_ret ?_
  refine end_retC (cs := [.int .i64 (wi ((-7 : Int) - p0)), .int .i64 (wi ((77 : Int) + p0)), .int .i64 (-9), .int .i64 5, .int .i64 6]) rfl hr (by kernel_rfl) (by kernel_rfl) (by kernel_rfl) ⟨h.cell 0 rfl, h.cell 1 rfl, h.cell 2 rfl, h.cell 3 rfl, h.cell 4 rfl, trivial⟩ ?_
  replace h : Fit z (sepL (L)) _ := h.sel 1 [] (by kernel_rfl) (by kernel_rfl)
  replace H := ej1 H; subst H
  exact ⟨rfl, h⟩

def plunderlaw2_handed_l1 (K : Nat) (p0 : List T_api_Act) : Nat → (List T_api_Act) → Int → Option ((List T_api_Act))
  | 0, _, _ => none
  | k1 + 1, l6, g7 => (if g7 < ((p0.length : Nat) : Int) then if inr_ g7 p0.length then if inr_ g7 l6.length then (plunderlaw2_handed_l1 K p0 k1 (l6.set g7.toNat (at_ p0 g7.toNat)) (wi (g7 + (1 : Int)))) else none else none else some l6)
/-- plunder/plunderlaw2.handed -/
def plunderlaw2_handed (K : Nat) (p0 : List T_api_Act) : Option ((List T_api_Act)) :=
  if 0 ≤ (wi (((p0.length : Nat) : Int) + (2 : Int))) ∧ (wi (((p0.length : Nat) : Int) + (2 : Int))) * 40 ≤ 140737488355328 then ob1 ((plunderlaw2_handed_l1 K p0 K (List.replicate ((wi (((p0.length : Nat) : Int) + (2 : Int))).toNat) (⟨0, 0, 0, 0, 0⟩ : T_api_Act)) 0)) (fun l3 => ob1 (plunderlaw2_mark 0) (fun r11 => if inr_ ((p0.length : Nat) : Int) l3.length then ob1 (plunderlaw2_mark 1) (fun r14 => if inr_ (wi (((p0.length : Nat) : Int) + (1 : Int))) (l3.set (((p0.length : Nat) : Int).toNat) r11).length then some ((l3.set (((p0.length : Nat) : Int).toNat) r11).set ((wi (((p0.length : Nat) : Int) + (1 : Int))).toNat) r14) else none) else none)) else none
set_option maxRecDepth 100000 in
set_option maxHeartbeats 4000000 in
theorem plunderlaw2_handed_ok {z w : World} {L : List HProp} {K : Nat} {p0 : List T_api_Act} {va0 : Option Addr} {vc0 : Nat} {r0 : List T_api_Act} (H : plunderlaw2_handed K p0 = some r0) (h : Fit z (sepL (L)) w) (hv0 : RdRow L 5 enc_T_api_Act va0 p0) :
    Calls Try.prog 37 #[.slice va0 p0.length vc0] w fun e w => ∃ car0_1 : Option Addr, ∃ ccr0_2 : Nat, e = .returned (.slice car0_1 r0.length ccr0_2) ∧ Fit z (sepL (ro57 car0_1 ccr0_2 r0 :: L)) w := by
  unfold plunderlaw2_handed at H
  refine enter Try.func37 rfl 34 rfl rfl [(0, .slice va0 p0.length vc0)] ⟨rfl, trivial⟩ ?_
  intro j a hr
  refine wp_seq ?_
  refine wp_region_lit ?_
  refine ov hr (.slice none 0 0) (by kernel_rfl) ?_; clear hr a; intro a hr
  refine wpList_nil ?_
  refine then_normal ?_
  refine wp_seq ?_
  refine wp_region_lit ?_
  replace H := gd H; obtain ⟨c1, H⟩ := H
  refine ovs [5, 6, 7] [.slice va0 p0.length vc0, .int .i64 ((p0.length : Nat) : Int), .int .i64 (wi (((p0.length : Nat) : Int) + (2 : Int)))] hr ⟨rfl, rfl⟩ (by kernel_rfl) ?_; clear hr a; intro a hr
  refine op_make_row (i := (wi (((p0.length : Nat) : Int) + (2 : Int)))) (bytes := 40) (zc := #[.int .i64 0, .int .i64 0, .int .i64 0, .int .i64 0, .int .i64 0]) (⟨0, 0, 0, 0, 0⟩ : T_api_Act) (wn rfl) rfl rfl hr rfl (by kernel_rfl) (by kernel_rfl) c1 enc_T_api_Act_ok (E := 57) (by kernel_rfl) (by kernel_rfl) rfl rfl h ?_; clear h hr a; intro ca2 w a h hr
  refine ov hr (.slice ca2 ((List.replicate ((wi (((p0.length : Nat) : Int) + (2 : Int))).toNat) (⟨0, 0, 0, 0, 0⟩ : T_api_Act)).length) ((wi (((p0.length : Nat) : Int) + (2 : Int))).toNat)) (by kernel_rfl) ?_; clear hr a; intro a hr
  refine wpList_nil ?_
  replace h : Fit z (sepL (ro57 ca2 ((wi (((p0.length : Nat) : Int) + (2 : Int))).toNat) (List.replicate ((wi (((p0.length : Nat) : Int) + (2 : Int))).toNat) (⟨0, 0, 0, 0, 0⟩ : T_api_Act)) :: L)) _ := h
  refine then_normal ?_
  replace H := kd1 H; obtain ⟨o5, H, hK4⟩ := H
  refine cut_rule (β := Unit) (fun _ a w => ∃ l3 : List T_api_Act, l3 = o5 ∧ ∃ j, Rep 34 (lk [(0, .slice va0 p0.length vc0), (3, .slice ca2 ((List.replicate ((wi (((p0.length : Nat) : Int) + (2 : Int))).toNat) (⟨0, 0, 0, 0, 0⟩ : T_api_Act)).length) ((wi (((p0.length : Nat) : Int) + (2 : Int))).toNat))] j) a ∧ Fit z (sepL (rowOf 57 5 enc_T_api_Act (.slice ca2 ((List.replicate ((wi (((p0.length : Nat) : Int) + (2 : Int))).toNat) (⟨0, 0, 0, 0, 0⟩ : T_api_Act)).length) ((wi (((p0.length : Nat) : Int) + (2 : Int))).toNat)) l3 :: L)) w) ?_ ?_
  ·
    refine wp_seq ?_
    refine wp_region_lit ?_
    refine ov hr (.int .i64 0) (by kernel_rfl) ?_; clear hr a; intro a hr
    refine wpList_nil ?_
    refine then_normal ?_
    refine wp_block ?_
    replace hr := hr.fold2 [(0, .slice va0 p0.length vc0), (3, .slice ca2 ((List.replicate ((wi (((p0.length : Nat) : Int) + (2 : Int))).toNat) (⟨0, 0, 0, 0, 0⟩ : T_api_Act)).length) ((wi (((p0.length : Nat) : Int) + (2 : Int))).toNat)), (4, .int .i64 0)] (by kernel_rfl); obtain ⟨j, hr⟩ := hr
    refine loop_rule (β := Nat) id (fun m a w => ∃ l6 : List T_api_Act, ∃ g7 : Int, (plunderlaw2_handed_l1 K p0 m l6 g7) = some o5 ∧ ∃ j, Rep 34 (lk [(0, .slice va0 p0.length vc0), (3, .slice ca2 ((List.replicate ((wi (((p0.length : Nat) : Int) + (2 : Int))).toNat) (⟨0, 0, 0, 0, 0⟩ : T_api_Act)).length) ((wi (((p0.length : Nat) : Int) + (2 : Int))).toNat)), (4, .int .i64 g7)] j) a ∧ Fit z (sepL (rowOf 57 5 enc_T_api_Act (.slice ca2 ((List.replicate ((wi (((p0.length : Nat) : Int) + (2 : Int))).toNat) (⟨0, 0, 0, 0, 0⟩ : T_api_Act)).length) ((wi (((p0.length : Nat) : Int) + (2 : Int))).toNat)) l6 :: L)) w) K ⟨(List.replicate ((wi (((p0.length : Nat) : Int) + (2 : Int))).toNat) (⟨0, 0, 0, 0, 0⟩ : T_api_Act)), 0, H, j, hr, h⟩ ?_
    clear h hr a H; rintro k1 a w ⟨l6, g7, H, j, hr, h⟩
    cases k1 with
    | zero => exact absurd H (by simp [plunderlaw2_handed_l1])
    | succ k1 =>
      rw [plunderlaw2_handed_l1] at H
      refine wp_seq ?_
      refine wp_seq ?_
      refine wp_region_lit ?_
      refine ovs [9, 10, 11, 12] [.int .i64 g7, .slice va0 p0.length vc0, .int .i64 ((p0.length : Nat) : Int), .bool (decide (g7 < ((p0.length : Nat) : Int)))] hr ⟨rfl, rfl⟩ (by kernel_rfl) ?_; clear hr a; intro a hr
      refine wpList_nil ?_
      refine then_normal ?_
      by_cases c8 : g7 < ((p0.length : Nat) : Int)
      ·
        replace H := ifT c8 H
        refine cond_tt hr (b := (decide (g7 < ((p0.length : Nat) : Int)))) (decide_eq_true c8) ?_
        refine wp_skip ?_
        refine then_normal ?_
        refine wp_seq ?_
        refine wp_block ?_
        refine wp_region_lit ?_
        replace H := gd H; obtain ⟨c9, H⟩ := H
        refine ovs [15, 16, 17, 18] [.slice ca2 ((List.replicate ((wi (((p0.length : Nat) : Int) + (2 : Int))).toNat) (⟨0, 0, 0, 0, 0⟩ : T_api_Act)).length) ((wi (((p0.length : Nat) : Int) + (2 : Int))).toNat), .int .i64 g7, .slice va0 p0.length vc0, .int .i64 g7] hr ⟨rfl, rfl⟩ (by kernel_rfl) ?_; clear hr a; intro a hr
        refine op_val (wn rfl) rfl rfl hr (v := .pointer (some ⟨blk va0, offs va0 + g7.toNat * 5, none⟩)) (ri_rd (k := .i64) (E := 57) (cc := vc0) rfl (by kernel_rfl) (by kernel_rfl) rfl (by kernel_rfl) (by kernel_rfl) hv0 c9) ?_; clear hr a; intro a hr
        refine op_val (wn rfl) rfl rfl hr (v := .agg #[.int .i64 ((at_ p0 g7.toNat).Who), .int .i64 ((at_ p0 g7.toNat).Kind), .int .i64 ((at_ p0 g7.toNat).Addr), .int .i64 ((at_ p0 g7.toNat).A), .int .i64 ((at_ p0 g7.toNat).B)]) (rlm (cs := [.int .i64 ((at_ p0 g7.toNat).Who), .int .i64 ((at_ p0 g7.toNat).Kind), .int .i64 ((at_ p0 g7.toNat).Addr), .int .i64 ((at_ p0 g7.toNat).A), .int .i64 ((at_ p0 g7.toNat).B)]) rfl (by kernel_rfl) (by kernel_rfl) (by kernel_rfl) ⟨hv0.cell c9 (h.dn 1) 0 rfl, hv0.cell c9 (h.dn 1) 1 rfl, hv0.cell c9 (h.dn 1) 2 rfl, hv0.cell c9 (h.dn 1) 3 rfl, hv0.cell c9 (h.dn 1) 4 rfl, trivial⟩) ?_; clear hr a; intro a hr
        replace H := gd H; obtain ⟨c10, H⟩ := H
        refine op_val (wn rfl) rfl rfl hr (v := .pointer (some ⟨blk ca2, g7.toNat * 5, none⟩)) (ri_row (k := .i64) (E := 57) rfl (by kernel_rfl) (by kernel_rfl) (by kernel_rfl) (by kernel_rfl) h c10) ?_; clear hr a; intro a hr
        refine op_stores_row (wn rfl) rfl hr rfl (by kernel_rfl) (by kernel_rfl) (vs := [.int .i64 ((at_ p0 g7.toNat).Who), .int .i64 ((at_ p0 g7.toNat).Kind), .int .i64 ((at_ p0 g7.toNat).Addr), .int .i64 ((at_ p0 g7.toNat).A), .int .i64 ((at_ p0 g7.toNat).B)]) rfl (by kernel_rfl) enc_T_api_Act_ok h (i := g7.toNat) (q := (at_ p0 g7.toNat)) (at_okL c10) rfl ?_; clear h; intro w h
        replace h : Fit z (sepL (rowOf 57 5 enc_T_api_Act (.slice ca2 ((List.replicate ((wi (((p0.length : Nat) : Int) + (2 : Int))).toNat) (⟨0, 0, 0, 0, 0⟩ : T_api_Act)).length) ((wi (((p0.length : Nat) : Int) + (2 : Int))).toNat)) (l6.set g7.toNat (at_ p0 g7.toNat)) :: L)) _ := h
        refine wpList_nil ?_
        refine blk_normal ?_
        refine then_normal ?_
        refine wp_region_lit ?_
        refine ovs [13, 14, 4] [.int .i64 g7, .int .i64 (wi (g7 + (1 : Int))), .int .i64 (wi (g7 + (1 : Int)))] hr ⟨rfl, rfl⟩ (by kernel_rfl) ?_; clear hr a; intro a hr
        refine wpList_nil ?_
        refine then_normal ?_
        replace hr := hr.fold2 [(0, .slice va0 p0.length vc0), (3, .slice ca2 ((List.replicate ((wi (((p0.length : Nat) : Int) + (2 : Int))).toNat) (⟨0, 0, 0, 0, 0⟩ : T_api_Act)).length) ((wi (((p0.length : Nat) : Int) + (2 : Int))).toNat)), (4, .int .i64 (wi (g7 + (1 : Int))))] (by kernel_rfl); obtain ⟨j, hr⟩ := hr
        exact ⟨_, ⟨(l6.set g7.toNat (at_ p0 g7.toNat)), (wi (g7 + (1 : Int))), H, j, hr, h⟩, Nat.lt_succ_self _⟩
      ·
        replace H := ifF c8 H
        refine cond_ff hr (b := (decide (g7 < ((p0.length : Nat) : Int)))) (decide_eq_false c8) ?_
        refine wp_exit ?_
        refine then_exit ?_
        refine then_exit ?_
        refine blk_here ?_
        refine then_normal ?_
        replace hr := hr.fold2 [(0, .slice va0 p0.length vc0), (3, .slice ca2 ((List.replicate ((wi (((p0.length : Nat) : Int) + (2 : Int))).toNat) (⟨0, 0, 0, 0, 0⟩ : T_api_Act)).length) ((wi (((p0.length : Nat) : Int) + (2 : Int))).toNat))] (by kernel_rfl); obtain ⟨j, hr⟩ := hr
        exact ⟨(), l6, sinj H, j, hr, h⟩
  clear h hr a; rintro _ a w ⟨l3, rfl, j, hr, h⟩
  replace H := kk1 hK4
  refine wp_seq ?_
  refine wp_region_lit ?_
  replace H := bd1 H; obtain ⟨r11, e12, H⟩ := H
  refine ovs [22, 23, 24] [.slice ca2 ((List.replicate ((wi (((p0.length : Nat) : Int) + (2 : Int))).toNat) (⟨0, 0, 0, 0, 0⟩ : T_api_Act)).length) ((wi (((p0.length : Nat) : Int) + (2 : Int))).toNat), .slice va0 p0.length vc0, .int .i64 ((p0.length : Nat) : Int)] hr ⟨rfl, rfl⟩ (by kernel_rfl) ?_; clear hr a; intro a hr
  have hc := plunderlaw2_mark_ok (H := e12) (h := h)
  refine op_call (wn rfl) rfl rfl hr (f := 87) (args := #[.int .i64 0]) (by kernel_rfl) hc ?_; clear hc h
  rintro _ w ⟨rfl, h⟩; refine ⟨_, rfl, ?_⟩
  clear hr a; intro a hr
  replace H := gd H; obtain ⟨c13, H⟩ := H
  refine op_val (wn rfl) rfl rfl hr (v := .pointer (some ⟨blk ca2, (((p0.length : Nat) : Int).toNat) * 5, none⟩)) (ri_row (k := .i64) (E := 57) rfl (by kernel_rfl) (by kernel_rfl) (by kernel_rfl) (by kernel_rfl) h c13) ?_; clear hr a; intro a hr
  refine op_stores_row (wn rfl) rfl hr rfl (by kernel_rfl) (by kernel_rfl) (vs := [.int .i64 r11.Who, .int .i64 r11.Kind, .int .i64 r11.Addr, .int .i64 r11.A, .int .i64 r11.B]) rfl (by kernel_rfl) enc_T_api_Act_ok h (i := (((p0.length : Nat) : Int).toNat)) (q := r11) (at_okL c13) rfl ?_; clear h; intro w h
  replace h : Fit z (sepL (rowOf 57 5 enc_T_api_Act (.slice ca2 ((List.replicate ((wi (((p0.length : Nat) : Int) + (2 : Int))).toNat) (⟨0, 0, 0, 0, 0⟩ : T_api_Act)).length) ((wi (((p0.length : Nat) : Int) + (2 : Int))).toNat)) (l3.set (((p0.length : Nat) : Int).toNat) r11) :: L)) _ := h
  refine wpList_nil ?_
  refine then_normal ?_
  refine wp_seq ?_
  refine wp_region_lit ?_
  replace H := bd1 H; obtain ⟨r14, e15, H⟩ := H
  refine ovs [27, 28, 29, 30] [.slice ca2 ((List.replicate ((wi (((p0.length : Nat) : Int) + (2 : Int))).toNat) (⟨0, 0, 0, 0, 0⟩ : T_api_Act)).length) ((wi (((p0.length : Nat) : Int) + (2 : Int))).toNat), .slice va0 p0.length vc0, .int .i64 ((p0.length : Nat) : Int), .int .i64 (wi (((p0.length : Nat) : Int) + (1 : Int)))] hr ⟨rfl, rfl⟩ (by kernel_rfl) ?_; clear hr a; intro a hr
  have hc := plunderlaw2_mark_ok (H := e15) (h := h)
  refine op_call (wn rfl) rfl rfl hr (f := 87) (args := #[.int .i64 1]) (by kernel_rfl) hc ?_; clear hc h
  rintro _ w ⟨rfl, h⟩; refine ⟨_, rfl, ?_⟩
  clear hr a; intro a hr
  replace H := gd H; obtain ⟨c16, H⟩ := H
  refine op_val (wn rfl) rfl rfl hr (v := .pointer (some ⟨blk ca2, ((wi (((p0.length : Nat) : Int) + (1 : Int))).toNat) * 5, none⟩)) (ri_row (k := .i64) (E := 57) rfl (by kernel_rfl) (by kernel_rfl) (by kernel_rfl) (by kernel_rfl) h c16) ?_; clear hr a; intro a hr
  refine op_stores_row (wn rfl) rfl hr rfl (by kernel_rfl) (by kernel_rfl) (vs := [.int .i64 r14.Who, .int .i64 r14.Kind, .int .i64 r14.Addr, .int .i64 r14.A, .int .i64 r14.B]) rfl (by kernel_rfl) enc_T_api_Act_ok h (i := ((wi (((p0.length : Nat) : Int) + (1 : Int))).toNat)) (q := r14) (at_okL c16) rfl ?_; clear h; intro w h
  replace h : Fit z (sepL (rowOf 57 5 enc_T_api_Act (.slice ca2 ((List.replicate ((wi (((p0.length : Nat) : Int) + (2 : Int))).toNat) (⟨0, 0, 0, 0, 0⟩ : T_api_Act)).length) ((wi (((p0.length : Nat) : Int) + (2 : Int))).toNat)) ((l3.set (((p0.length : Nat) : Int).toNat) r11).set ((wi (((p0.length : Nat) : Int) + (1 : Int))).toNat) r14) :: L)) _ := h
  refine wpList_nil ?_
  refine then_normal ?_
  refine wp_seq ?_
  refine wp_region_lit ?_
  refine ovs [33, 2] [.slice ca2 ((List.replicate ((wi (((p0.length : Nat) : Int) + (2 : Int))).toNat) (⟨0, 0, 0, 0, 0⟩ : T_api_Act)).length) ((wi (((p0.length : Nat) : Int) + (2 : Int))).toNat), .slice ca2 ((List.replicate ((wi (((p0.length : Nat) : Int) + (2 : Int))).toNat) (⟨0, 0, 0, 0, 0⟩ : T_api_Act)).length) ((wi (((p0.length : Nat) : Int) + (2 : Int))).toNat)] hr ⟨rfl, rfl⟩ (by kernel_rfl) ?_; clear hr a; intro a hr
  refine wpList_nil ?_
  refine then_normal ?_
  refine wp_ret ?_
  refine end_ret1 (v := .slice ca2 ((List.replicate ((wi (((p0.length : Nat) : Int) + (2 : Int))).toNat) (⟨0, 0, 0, 0, 0⟩ : T_api_Act)).length) ((wi (((p0.length : Nat) : Int) + (2 : Int))).toNat)) rfl hr (by kernel_rfl) ?_
  have hn16 := h.row_n
  replace h : Fit z (sepL (ro57 ca2 ((wi (((p0.length : Nat) : Int) + (2 : Int))).toNat) ((l3.set (((p0.length : Nat) : Int).toNat) r11).set ((wi (((p0.length : Nat) : Int) + (1 : Int))).toNat) r14) :: L)) w := (congrArg (fun q_ : Nat => Fit z (sepL (rowOf 57 5 enc_T_api_Act (.slice ca2 q_ ((wi (((p0.length : Nat) : Int) + (2 : Int))).toNat)) ((l3.set (((p0.length : Nat) : Int).toNat) r11).set ((wi (((p0.length : Nat) : Int) + (1 : Int))).toNat) r14) :: L)) w) h.row_n).mp h
  replace H := ej1 H; subst H
  exact ⟨ca2, ((wi (((p0.length : Nat) : Int) + (2 : Int))).toNat), (by simp only [hn16]), h⟩


end Go.Proofs.Ytacgigkonoegiaa.Mo
