/- what the functions compute, as plain Lean functions, and that they do -/
import Derived.Test.YtnghahgfcaolbaaFn0
namespace Go.Proofs.Ytnghahgfcaolbaa.Mo
open Go Go.RowKit Go.Proofs.Ytnghahgfcaolbaa.SL Go.Proofs.Ytnghahgfcaolbaa.GX
set_option linter.unusedVariables false
set_option linter.unusedSimpArgs false

/-- plunder/frames.New -/
def frames_New (p1 : Int) : Option (T_frames_Table × Int) :=
  some ((⟨0, 0⟩ : T_frames_Table), 1)
set_option maxRecDepth 100000 in
set_option maxHeartbeats 4000000 in
theorem frames_New_ok {z w : World} {L : List HProp} {p1 : Int} {r0 : T_frames_Table} {r1 : Int} (H : frames_New p1 = some (r0, r1)) (h : Fit z (sepL (L)) w)  :
    Calls Try.prog 19 #[.nilIface, .int .i64 p1] w fun e w => e = .returned (.tuple #[.agg #[.int .i64 r0.Base, .int .i64 r0.Frames], .int .i64 r1]) ∧ Fit z (sepL (L)) w := by
  unfold frames_New at H
  refine enter Try.func19 rfl 53 rfl rfl [(0, .nilIface), (1, .int .i64 p1)] ⟨rfl, rfl, trivial⟩ ?_
  intro j a hr
  refine wp_seq ?_
  refine wp_region_lit ?_
  refine op_new (wn rfl) rfl rfl hr h (vf := fun b => .pointer (some ⟨b, 0, none⟩)) (cs := #[.int .i64 0, .int .i64 0]) (T := 39) (by kernel_rfl) ?_; clear h hr a; intro b1 w a h hr
  refine ov hr (.int .i64 0) (by kernel_rfl) ?_; clear hr a; intro a hr
  refine wpList_nil ?_
  refine then_normal ?_
  refine wp_seq ?_
  refine wp_seq ?_
  refine wp_region_lit ?_
  refine ovs [11, 12] [.nilIface, .bool true] hr ⟨rfl, rfl⟩ (by kernel_rfl) ?_; clear hr a; intro a hr
  refine wpList_nil ?_
  refine then_normal ?_
  refine cond_tt hr (b := true) rfl ?_
  refine wp_seq ?_
  refine wp_region_lit ?_
  refine ov hr (.agg #[.int .i64 0, .int .i64 0]) (by kernel_rfl) ?_; clear hr a; intro a hr
  refine op_stores (wn rfl) rfl hr rfl (by kernel_rfl) (by kernel_rfl) (vs := [.int .i64 0, .int .i64 0]) rfl rfl (by kernel_rfl) h (i := 0) (cs' := #[.int .i64 0, .int .i64 0]) rfl ?_; clear h; intro w h
  refine ov hr (.int .i64 1) (by kernel_rfl) ?_; clear hr a; intro a hr
  refine wpList_nil ?_
  replace h : Fit z (sepL (pts b1 (.cells #[.int .i64 0, .int .i64 0] 39) :: L)) _ := h
  refine then_normal ?_
  refine wp_ret ?_
  refine then_ret ?_
  refine end_retCT (cs := [.int .i64 0, .int .i64 0]) (v := .int .i64 1) rfl hr (by kernel_rfl) (by kernel_rfl) (by kernel_rfl) (by kernel_rfl) ⟨h.cell 0 rfl, h.cell 1 rfl, trivial⟩ ?_
  replace h : Fit z (sepL (L)) _ := h.sel 1 [] (by kernel_rfl) (by kernel_rfl)
  replace H := ej2 H; obtain ⟨rfl, rfl⟩ := H
  exact ⟨rfl, h⟩

/-- plunder/frames.Answer -/
def frames_Answer (p0 : T_frames_Op) : Option (Int × Int) :=
  (if p0 = (⟨0, 0, 0, 0, 0, 0, 0, 0, 0⟩ : T_frames_Op) then some (1, 0) else (if p0.head_stands > (0 : Int) then some (0, 0) else some (p0.head_code, p0.head_v)))
set_option maxRecDepth 100000 in
set_option maxHeartbeats 4000000 in
theorem frames_Answer_ok {z w : World} {L : List HProp} {p0 : T_frames_Op} {r0 : Int} {r1 : Int} (H : frames_Answer p0 = some (r0, r1)) (h : Fit z (sepL (L)) w)  :
    Calls Try.prog 26 #[.agg #[.int .i64 p0.head_t_Base, .int .i64 p0.head_t_Frames, .int .i64 p0.head_frame, .int .i64 p0.head_stands, .int .i64 p0.head_code, .int .i64 p0.head_v, .int .i64 p0.kind, .int .i64 p0.slot, .int .i64 p0.give]] w fun e w => e = .returned (.tuple #[.int .i64 r0, .int .i64 r1]) ∧ Fit z (sepL (L)) w := by
  unfold frames_Answer at H
  refine enter Try.func26 rfl 17 rfl rfl [(0, .agg #[.int .i64 p0.head_t_Base, .int .i64 p0.head_t_Frames, .int .i64 p0.head_frame, .int .i64 p0.head_stands, .int .i64 p0.head_code, .int .i64 p0.head_v, .int .i64 p0.kind, .int .i64 p0.slot, .int .i64 p0.give])] ⟨rfl, trivial⟩ ?_
  intro j a hr
  refine wp_seq ?_
  refine wp_region_lit ?_
  refine op_new (wn rfl) rfl rfl hr h (vf := fun b => .pointer (some ⟨b, 0, none⟩)) (cs := #[.int .i64 p0.head_t_Base, .int .i64 p0.head_t_Frames, .int .i64 p0.head_frame, .int .i64 p0.head_stands, .int .i64 p0.head_code, .int .i64 p0.head_v, .int .i64 p0.kind, .int .i64 p0.slot, .int .i64 p0.give]) (T := 50) (by kernel_rfl) ?_; clear h hr a; intro b1 w a h hr
  refine ovs [2, 3] [.int .i64 0, .int .i64 0] hr ⟨rfl, rfl⟩ (by kernel_rfl) ?_; clear hr a; intro a hr
  refine wpList_nil ?_
  refine then_normal ?_
  refine wp_seq ?_
  refine wp_seq ?_
  refine wp_region_lit ?_
  refine op_val (wn rfl) rfl rfl hr (v := .agg #[.int .i64 p0.head_t_Base, .int .i64 p0.head_t_Frames, .int .i64 p0.head_frame, .int .i64 p0.head_stands, .int .i64 p0.head_code, .int .i64 p0.head_v, .int .i64 p0.kind, .int .i64 p0.slot, .int .i64 p0.give]) (rlm (cs := [.int .i64 p0.head_t_Base, .int .i64 p0.head_t_Frames, .int .i64 p0.head_frame, .int .i64 p0.head_stands, .int .i64 p0.head_code, .int .i64 p0.head_v, .int .i64 p0.kind, .int .i64 p0.slot, .int .i64 p0.give]) rfl (by kernel_rfl) (by kernel_rfl) (by kernel_rfl) ⟨h.cell 0 rfl, h.cell 1 rfl, h.cell 2 rfl, h.cell 3 rfl, h.cell 4 rfl, h.cell 5 rfl, h.cell 6 rfl, h.cell 7 rfl, h.cell 8 rfl, trivial⟩) ?_; clear hr a; intro a hr
  refine ov hr (.agg #[.int .i64 0, .int .i64 0, .int .i64 0, .int .i64 0, .int .i64 0, .int .i64 0, .int .i64 0, .int .i64 0, .int .i64 0]) (by kernel_rfl) ?_; clear hr a; intro a hr
  refine op_val (wn rfl) rfl rfl hr (v := .bool (decide (p0 = (⟨0, 0, 0, 0, 0, 0, 0, 0, 0⟩ : T_frames_Op)))) (rb (reqd rfl (by kernel_rfl) (by kernel_rfl) (by kernel_rfl) (by kernel_rfl) (by kernel_rfl) (by kernel_rfl)) (eq_T_frames_Op p0 (⟨0, 0, 0, 0, 0, 0, 0, 0, 0⟩ : T_frames_Op))) ?_; clear hr a; intro a hr
  refine wpList_nil ?_
  refine then_normal ?_
  by_cases c2 : p0 = (⟨0, 0, 0, 0, 0, 0, 0, 0, 0⟩ : T_frames_Op)
  ·
    replace H := ifT c2 H
    refine cond_tt hr (b := (decide (p0 = (⟨0, 0, 0, 0, 0, 0, 0, 0, 0⟩ : T_frames_Op)))) (decide_eq_true c2) ?_
    refine wp_seq ?_
    refine wp_region_lit ?_
    refine ovs [2, 3] [.int .i64 1, .int .i64 0] hr ⟨rfl, rfl⟩ (by kernel_rfl) ?_; clear hr a; intro a hr
    refine wpList_nil ?_
    refine then_normal ?_
    refine wp_ret ?_
    refine then_ret ?_
    refine end_ret2 (v := .int .i64 1) (v' := .int .i64 0) rfl hr (by kernel_rfl) (by kernel_rfl) ?_
    replace h : Fit z (sepL (L)) _ := h.sel 1 [] (by kernel_rfl) (by kernel_rfl)
    replace H := ej2 H; obtain ⟨rfl, rfl⟩ := H
    exact ⟨rfl, h⟩
  ·
    replace H := ifF c2 H
    refine cond_ff hr (b := (decide (p0 = (⟨0, 0, 0, 0, 0, 0, 0, 0, 0⟩ : T_frames_Op)))) (decide_eq_false c2) ?_
    refine wp_skip ?_
    refine then_normal ?_
    refine wp_seq ?_
    refine wp_seq ?_
    refine wp_region_lit ?_
    refine ovs [7, 8] [.pointer (some ⟨b1, 0, none⟩), .pointer (some ⟨b1, 3, none⟩)] hr ⟨rfl, rfl⟩ (by kernel_rfl) ?_; clear hr a; intro a hr
    refine op_val (wn rfl) rfl rfl hr (v := .int .i64 p0.head_stands) (rl rfl (by kernel_rfl) (by kernel_rfl) (h.cell 3 rfl)) ?_; clear hr a; intro a hr
    refine ov hr (.bool (decide (p0.head_stands > (0 : Int)))) (by kernel_rfl) ?_; clear hr a; intro a hr
    refine wpList_nil ?_
    refine then_normal ?_
    by_cases c3 : p0.head_stands > (0 : Int)
    ·
      replace H := ifT c3 H
      refine cond_tt hr (b := (decide (p0.head_stands > (0 : Int)))) (decide_eq_true c3) ?_
      refine wp_seq ?_
      refine wp_region_lit ?_
      refine ovs [2, 3] [.int .i64 0, .int .i64 0] hr ⟨rfl, rfl⟩ (by kernel_rfl) ?_; clear hr a; intro a hr
      refine wpList_nil ?_
      refine then_normal ?_
      refine wp_ret ?_
      refine then_ret ?_
      refine end_ret2 (v := .int .i64 0) (v' := .int .i64 0) rfl hr (by kernel_rfl) (by kernel_rfl) ?_
      replace h : Fit z (sepL (L)) _ := h.sel 1 [] (by kernel_rfl) (by kernel_rfl)
      replace H := ej2 H; obtain ⟨rfl, rfl⟩ := H
      exact ⟨rfl, h⟩
    ·
      replace H := ifF c3 H
      refine cond_ff hr (b := (decide (p0.head_stands > (0 : Int)))) (decide_eq_false c3) ?_
      refine wp_skip ?_
      refine then_normal ?_
      refine wp_seq ?_
      refine reg_E (fun w => heldC w b1 4 [.int .i64 p0.head_code] ∧ heldC w b1 5 [.int .i64 p0.head_v] ∧ True) [0, 1, 3, 4] h (by kernel_rfl) ?_; intro w h
      change wpAnyE _ _ _ _ _ _ 8 (Array.replicate 8 false) a w
      have hgo : ∀ w w', CellsGo w w' → (heldC w b1 4 [.int .i64 p0.head_code] ∧ heldC w b1 5 [.int .i64 p0.head_v] ∧ True) → heldC w' b1 4 [.int .i64 p0.head_code] ∧ heldC w' b1 5 [.int .i64 p0.head_v] ∧ True := fun w w' g hD => ⟨heldC_go _ _ _ _ _ g hD.1, heldC_go _ _ _ _ _ g hD.2.1, trivial⟩
      refine evD hgo ⟨⟨h.cell 4 rfl, trivial⟩, ⟨h.cell 5 rfl, trivial⟩, trivial⟩ 7 0 rfl (by kernel_rfl) (wn rfl) hr (.pointer (some ⟨b1, 0, none⟩)) (fun w => by kernel_rfl) ?_; clear hr a; intro a hr
      refine evD hgo ⟨⟨h.cell 4 rfl, trivial⟩, ⟨h.cell 5 rfl, trivial⟩, trivial⟩ 6 1 rfl (by kernel_rfl) (wn rfl) hr (.pointer (some ⟨b1, 4, none⟩)) (fun w => by kernel_rfl) ?_; clear hr a; intro a hr
      refine evD hgo ⟨⟨h.cell 4 rfl, trivial⟩, ⟨h.cell 5 rfl, trivial⟩, trivial⟩ 5 3 rfl (by kernel_rfl) (wn rfl) hr (.pointer (some ⟨b1, 0, none⟩)) (fun w => by kernel_rfl) ?_; clear hr a; intro a hr
      refine evD hgo ⟨⟨h.cell 4 rfl, trivial⟩, ⟨h.cell 5 rfl, trivial⟩, trivial⟩ 4 4 rfl (by kernel_rfl) (wn rfl) hr (.pointer (some ⟨b1, 5, none⟩)) (fun w => by kernel_rfl) ?_; clear hr a; intro a hr
      refine el [0, 1, 3, 4] (b := b1) (off := 4) (cs := [.int .i64 p0.head_code]) (fun _ hk => ⟨hk, fun w hD => hD.1⟩) 3 2 rfl (by kernel_rfl) (wn rfl) hr (.int .i64 p0.head_code) ⟨h.cell 4 rfl, trivial⟩ (fun w hc => rl rfl (by kernel_rfl) (by kernel_rfl) hc.1) ?_; clear hr a; intro a hr
      refine ev 2 6 rfl (by kernel_rfl) (wn rfl) hr (.int .i64 p0.head_code) (fun w => by kernel_rfl) ?_; clear hr a; intro a hr
      refine el [0, 1, 3, 4] (b := b1) (off := 5) (cs := [.int .i64 p0.head_v]) (fun _ hk => ⟨hk, fun w hD => hD.2.1⟩) 1 5 rfl (by kernel_rfl) (wn rfl) hr (.int .i64 p0.head_v) ⟨h.cell 5 rfl, trivial⟩ (fun w hc => rl rfl (by kernel_rfl) (by kernel_rfl) hc.1) ?_; clear hr a; intro a hr
      refine ev 0 7 rfl (by kernel_rfl) (wn rfl) hr (.int .i64 p0.head_v) (fun w => by kernel_rfl) ?_; clear hr a; intro a hr
      refine e_end (by kernel_rfl) ?_
      refine then_normal ?_
      refine wp_ret ?_
      refine end_ret2 (v := .int .i64 p0.head_code) (v' := .int .i64 p0.head_v) rfl hr (by kernel_rfl) (by kernel_rfl) ?_
      replace h : Fit z (sepL (L)) _ := h.sel 1 [] (by kernel_rfl) (by kernel_rfl)
      replace H := ej2 H; obtain ⟨rfl, rfl⟩ := H
      exact ⟨rfl, h⟩

/-- (plunder/frames.Table).has -/
def frames_Table__has (p0 : T_frames_Table) (p1 : Int) : Option (Bool) :=
  (if p0.Base ≥ (0 : Int) then (if p0.Frames ≥ (1 : Int) then (if p0.Frames ≤ (4096 : Int) then (if p1 ≥ (0 : Int) then some (decide (p1 < p0.Frames)) else some false) else some false) else some false) else some false)
set_option maxRecDepth 100000 in
set_option maxHeartbeats 4000000 in
theorem frames_Table__has_ok {z w : World} {L : List HProp} {p0 : T_frames_Table} {p1 : Int} {r0 : Bool} (H : frames_Table__has p0 p1 = some r0) (h : Fit z (sepL (L)) w)  :
    Calls Try.prog 80 #[.agg #[.int .i64 p0.Base, .int .i64 p0.Frames], .int .i64 p1] w fun e w => e = .returned (.bool r0) ∧ Fit z (sepL (L)) w := by
  unfold frames_Table__has at H
  refine enter Try.func80 rfl 28 rfl rfl [(0, .agg #[.int .i64 p0.Base, .int .i64 p0.Frames]), (1, .int .i64 p1)] ⟨rfl, rfl, trivial⟩ ?_
  intro j a hr
  refine wp_seq ?_
  refine wp_region_lit ?_
  refine op_new (wn rfl) rfl rfl hr h (vf := fun b => .pointer (some ⟨b, 0, none⟩)) (cs := #[.int .i64 p0.Base, .int .i64 p0.Frames]) (T := 39) (by kernel_rfl) ?_; clear h hr a; intro b1 w a h hr
  refine ov hr (.bool false) (by kernel_rfl) ?_; clear hr a; intro a hr
  refine wpList_nil ?_
  refine then_normal ?_
  refine wp_seq ?_
  refine wp_region_lit ?_
  refine ov hr (.pointer (some ⟨b1, 0, none⟩)) (by kernel_rfl) ?_; clear hr a; intro a hr
  refine op_val (wn rfl) rfl rfl hr (v := .int .i64 p0.Base) (rl rfl (by kernel_rfl) (by kernel_rfl) (h.cell 0 rfl)) ?_; clear hr a; intro a hr
  refine ovs [7, 8] [.bool (decide (p0.Base ≥ (0 : Int))), .bool (decide (p0.Base ≥ (0 : Int)))] hr ⟨rfl, rfl⟩ (by kernel_rfl) ?_; clear hr a; intro a hr
  by_cases c2 : p0.Base ≥ (0 : Int)
  ·
    replace H := ifT c2 H
    refine op_val ((wg hr rfl rfl rfl (b' := (decide (p0.Base ≥ (0 : Int)))) (by kernel_rfl)).trans (by rw [show (decide (p0.Base ≥ (0 : Int))) = true from (decide_eq_true c2)]; rfl)) rfl rfl hr (v := .pointer (some ⟨b1, 1, none⟩)) (by kernel_rfl) ?_; clear hr a; intro a hr
    refine op_val ((wg hr rfl rfl rfl (b' := (decide (p0.Base ≥ (0 : Int)))) (by kernel_rfl)).trans (by rw [show (decide (p0.Base ≥ (0 : Int))) = true from (decide_eq_true c2)]; rfl)) rfl rfl hr (v := .int .i64 p0.Frames) (rl rfl (by kernel_rfl) (by kernel_rfl) (h.cell 1 rfl)) ?_; clear hr a; intro a hr
    refine op_val ((wg hr rfl rfl rfl (b' := (decide (p0.Base ≥ (0 : Int)))) (by kernel_rfl)).trans (by rw [show (decide (p0.Base ≥ (0 : Int))) = true from (decide_eq_true c2)]; rfl)) rfl rfl hr (v := .bool (decide (p0.Frames ≥ (1 : Int)))) (by kernel_rfl) ?_; clear hr a; intro a hr
    refine op_val (wn rfl) rfl rfl hr (v := .bool (decide (p0.Frames ≥ (1 : Int)))) (rp_t (b := (decide (p0.Base ≥ (0 : Int)))) rfl (by kernel_rfl) (decide_eq_true c2) (by kernel_rfl)) ?_; clear hr a; intro a hr
    refine ov hr (.bool (decide (p0.Frames ≥ (1 : Int)))) (by kernel_rfl) ?_; clear hr a; intro a hr
    by_cases c3 : p0.Frames ≥ (1 : Int)
    ·
      replace H := ifT c3 H
      refine op_val ((wg hr rfl rfl rfl (b' := (decide (p0.Frames ≥ (1 : Int)))) (by kernel_rfl)).trans (by rw [show (decide (p0.Frames ≥ (1 : Int))) = true from (decide_eq_true c3)]; rfl)) rfl rfl hr (v := .pointer (some ⟨b1, 1, none⟩)) (by kernel_rfl) ?_; clear hr a; intro a hr
      refine op_val ((wg hr rfl rfl rfl (b' := (decide (p0.Frames ≥ (1 : Int)))) (by kernel_rfl)).trans (by rw [show (decide (p0.Frames ≥ (1 : Int))) = true from (decide_eq_true c3)]; rfl)) rfl rfl hr (v := .int .i64 p0.Frames) (rl rfl (by kernel_rfl) (by kernel_rfl) (h.cell 1 rfl)) ?_; clear hr a; intro a hr
      refine op_val ((wg hr rfl rfl rfl (b' := (decide (p0.Frames ≥ (1 : Int)))) (by kernel_rfl)).trans (by rw [show (decide (p0.Frames ≥ (1 : Int))) = true from (decide_eq_true c3)]; rfl)) rfl rfl hr (v := .bool (decide (p0.Frames ≤ (4096 : Int)))) (by kernel_rfl) ?_; clear hr a; intro a hr
      refine op_val (wn rfl) rfl rfl hr (v := .bool (decide (p0.Frames ≤ (4096 : Int)))) (rp_t (b := (decide (p0.Frames ≥ (1 : Int)))) rfl (by kernel_rfl) (decide_eq_true c3) (by kernel_rfl)) ?_; clear hr a; intro a hr
      refine ov hr (.bool (decide (p0.Frames ≤ (4096 : Int)))) (by kernel_rfl) ?_; clear hr a; intro a hr
      by_cases c4 : p0.Frames ≤ (4096 : Int)
      ·
        replace H := ifT c4 H
        refine op_val ((wg hr rfl rfl rfl (b' := (decide (p0.Frames ≤ (4096 : Int)))) (by kernel_rfl)).trans (by rw [show (decide (p0.Frames ≤ (4096 : Int))) = true from (decide_eq_true c4)]; rfl)) rfl rfl hr (v := .int .i64 p1) (by kernel_rfl) ?_; clear hr a; intro a hr
        refine op_val ((wg hr rfl rfl rfl (b' := (decide (p0.Frames ≤ (4096 : Int)))) (by kernel_rfl)).trans (by rw [show (decide (p0.Frames ≤ (4096 : Int))) = true from (decide_eq_true c4)]; rfl)) rfl rfl hr (v := .bool (decide (p1 ≥ (0 : Int)))) (by kernel_rfl) ?_; clear hr a; intro a hr
        refine op_val (wn rfl) rfl rfl hr (v := .bool (decide (p1 ≥ (0 : Int)))) (rp_t (b := (decide (p0.Frames ≤ (4096 : Int)))) rfl (by kernel_rfl) (decide_eq_true c4) (by kernel_rfl)) ?_; clear hr a; intro a hr
        refine ov hr (.bool (decide (p1 ≥ (0 : Int)))) (by kernel_rfl) ?_; clear hr a; intro a hr
        by_cases c5 : p1 ≥ (0 : Int)
        ·
          replace H := ifT c5 H
          refine op_val ((wg hr rfl rfl rfl (b' := (decide (p1 ≥ (0 : Int)))) (by kernel_rfl)).trans (by rw [show (decide (p1 ≥ (0 : Int))) = true from (decide_eq_true c5)]; rfl)) rfl rfl hr (v := .int .i64 p1) (by kernel_rfl) ?_; clear hr a; intro a hr
          refine op_val ((wg hr rfl rfl rfl (b' := (decide (p1 ≥ (0 : Int)))) (by kernel_rfl)).trans (by rw [show (decide (p1 ≥ (0 : Int))) = true from (decide_eq_true c5)]; rfl)) rfl rfl hr (v := .pointer (some ⟨b1, 1, none⟩)) (by kernel_rfl) ?_; clear hr a; intro a hr
          refine op_val ((wg hr rfl rfl rfl (b' := (decide (p1 ≥ (0 : Int)))) (by kernel_rfl)).trans (by rw [show (decide (p1 ≥ (0 : Int))) = true from (decide_eq_true c5)]; rfl)) rfl rfl hr (v := .int .i64 p0.Frames) (rl rfl (by kernel_rfl) (by kernel_rfl) (h.cell 1 rfl)) ?_; clear hr a; intro a hr
          refine op_val ((wg hr rfl rfl rfl (b' := (decide (p1 ≥ (0 : Int)))) (by kernel_rfl)).trans (by rw [show (decide (p1 ≥ (0 : Int))) = true from (decide_eq_true c5)]; rfl)) rfl rfl hr (v := .bool (decide (p1 < p0.Frames))) (by kernel_rfl) ?_; clear hr a; intro a hr
          refine op_val (wn rfl) rfl rfl hr (v := .bool (decide (p1 < p0.Frames))) (rp_t (b := (decide (p1 ≥ (0 : Int)))) rfl (by kernel_rfl) (decide_eq_true c5) (by kernel_rfl)) ?_; clear hr a; intro a hr
          refine ov hr (.bool (decide (p1 < p0.Frames))) (by kernel_rfl) ?_; clear hr a; intro a hr
          refine wpList_nil ?_
          refine then_normal ?_
          refine wp_ret ?_
          refine end_ret1 (v := .bool (decide (p1 < p0.Frames))) rfl hr (by kernel_rfl) ?_
          replace h : Fit z (sepL (L)) _ := h.sel 1 [] (by kernel_rfl) (by kernel_rfl)
          replace H := ej1 H; subst H
          exact ⟨rfl, h⟩
        ·
          replace H := ifF c5 H
          refine op_off ((wg hr rfl rfl rfl (b' := (decide (p1 ≥ (0 : Int)))) (by kernel_rfl)).trans (by rw [show (decide (p1 ≥ (0 : Int))) = false from (decide_eq_false c5)]; rfl)) rfl rfl hr ?_; clear hr a; intro a hr
          refine op_off ((wg hr rfl rfl rfl (b' := (decide (p1 ≥ (0 : Int)))) (by kernel_rfl)).trans (by rw [show (decide (p1 ≥ (0 : Int))) = false from (decide_eq_false c5)]; rfl)) rfl rfl hr ?_; clear hr a; intro a hr
          refine op_off ((wg hr rfl rfl rfl (b' := (decide (p1 ≥ (0 : Int)))) (by kernel_rfl)).trans (by rw [show (decide (p1 ≥ (0 : Int))) = false from (decide_eq_false c5)]; rfl)) rfl rfl hr ?_; clear hr a; intro a hr
          refine op_off ((wg hr rfl rfl rfl (b' := (decide (p1 ≥ (0 : Int)))) (by kernel_rfl)).trans (by rw [show (decide (p1 ≥ (0 : Int))) = false from (decide_eq_false c5)]; rfl)) rfl rfl hr ?_; clear hr a; intro a hr
          refine op_val (wn rfl) rfl rfl hr (v := .bool false) (rp_f (b := (decide (p1 ≥ (0 : Int)))) rfl (by kernel_rfl) (decide_eq_false c5) (by kernel_rfl)) ?_; clear hr a; intro a hr
          refine ov hr (.bool false) (by kernel_rfl) ?_; clear hr a; intro a hr
          refine wpList_nil ?_
          refine then_normal ?_
          refine wp_ret ?_
          refine end_ret1 (v := .bool false) rfl hr (by kernel_rfl) ?_
          replace h : Fit z (sepL (L)) _ := h.sel 1 [] (by kernel_rfl) (by kernel_rfl)
          replace H := ej1 H; subst H
          exact ⟨rfl, h⟩
      ·
        replace H := ifF c4 H
        refine op_off ((wg hr rfl rfl rfl (b' := (decide (p0.Frames ≤ (4096 : Int)))) (by kernel_rfl)).trans (by rw [show (decide (p0.Frames ≤ (4096 : Int))) = false from (decide_eq_false c4)]; rfl)) rfl rfl hr ?_; clear hr a; intro a hr
        refine op_off ((wg hr rfl rfl rfl (b' := (decide (p0.Frames ≤ (4096 : Int)))) (by kernel_rfl)).trans (by rw [show (decide (p0.Frames ≤ (4096 : Int))) = false from (decide_eq_false c4)]; rfl)) rfl rfl hr ?_; clear hr a; intro a hr
        refine op_val (wn rfl) rfl rfl hr (v := .bool false) (rp_f (b := (decide (p0.Frames ≤ (4096 : Int)))) rfl (by kernel_rfl) (decide_eq_false c4) (by kernel_rfl)) ?_; clear hr a; intro a hr
        refine ov hr (.bool false) (by kernel_rfl) ?_; clear hr a; intro a hr
        refine op_off ((wg hr rfl rfl rfl (b' := false) (by kernel_rfl)).trans rfl) rfl rfl hr ?_; clear hr a; intro a hr
        refine op_off ((wg hr rfl rfl rfl (b' := false) (by kernel_rfl)).trans rfl) rfl rfl hr ?_; clear hr a; intro a hr
        refine op_off ((wg hr rfl rfl rfl (b' := false) (by kernel_rfl)).trans rfl) rfl rfl hr ?_; clear hr a; intro a hr
        refine op_off ((wg hr rfl rfl rfl (b' := false) (by kernel_rfl)).trans rfl) rfl rfl hr ?_; clear hr a; intro a hr
        refine ovs [27, 4] [.bool false, .bool false] hr ⟨rfl, rfl⟩ (by kernel_rfl) ?_; clear hr a; intro a hr
        refine wpList_nil ?_
        refine then_normal ?_
        refine wp_ret ?_
        refine end_ret1 (v := .bool false) rfl hr (by kernel_rfl) ?_
        replace h : Fit z (sepL (L)) _ := h.sel 1 [] (by kernel_rfl) (by kernel_rfl)
        replace H := ej1 H; subst H
        exact ⟨rfl, h⟩
    ·
      replace H := ifF c3 H
      refine op_off ((wg hr rfl rfl rfl (b' := (decide (p0.Frames ≥ (1 : Int)))) (by kernel_rfl)).trans (by rw [show (decide (p0.Frames ≥ (1 : Int))) = false from (decide_eq_false c3)]; rfl)) rfl rfl hr ?_; clear hr a; intro a hr
      refine op_off ((wg hr rfl rfl rfl (b' := (decide (p0.Frames ≥ (1 : Int)))) (by kernel_rfl)).trans (by rw [show (decide (p0.Frames ≥ (1 : Int))) = false from (decide_eq_false c3)]; rfl)) rfl rfl hr ?_; clear hr a; intro a hr
      refine op_off ((wg hr rfl rfl rfl (b' := (decide (p0.Frames ≥ (1 : Int)))) (by kernel_rfl)).trans (by rw [show (decide (p0.Frames ≥ (1 : Int))) = false from (decide_eq_false c3)]; rfl)) rfl rfl hr ?_; clear hr a; intro a hr
      refine op_val (wn rfl) rfl rfl hr (v := .bool false) (rp_f (b := (decide (p0.Frames ≥ (1 : Int)))) rfl (by kernel_rfl) (decide_eq_false c3) (by kernel_rfl)) ?_; clear hr a; intro a hr
      refine ov hr (.bool false) (by kernel_rfl) ?_; clear hr a; intro a hr
      refine op_off ((wg hr rfl rfl rfl (b' := false) (by kernel_rfl)).trans rfl) rfl rfl hr ?_; clear hr a; intro a hr
      refine op_off ((wg hr rfl rfl rfl (b' := false) (by kernel_rfl)).trans rfl) rfl rfl hr ?_; clear hr a; intro a hr
      refine ovs [21, 22] [.bool false, .bool false] hr ⟨rfl, rfl⟩ (by kernel_rfl) ?_; clear hr a; intro a hr
      refine op_off ((wg hr rfl rfl rfl (b' := false) (by kernel_rfl)).trans rfl) rfl rfl hr ?_; clear hr a; intro a hr
      refine op_off ((wg hr rfl rfl rfl (b' := false) (by kernel_rfl)).trans rfl) rfl rfl hr ?_; clear hr a; intro a hr
      refine op_off ((wg hr rfl rfl rfl (b' := false) (by kernel_rfl)).trans rfl) rfl rfl hr ?_; clear hr a; intro a hr
      refine op_off ((wg hr rfl rfl rfl (b' := false) (by kernel_rfl)).trans rfl) rfl rfl hr ?_; clear hr a; intro a hr
      refine ovs [27, 4] [.bool false, .bool false] hr ⟨rfl, rfl⟩ (by kernel_rfl) ?_; clear hr a; intro a hr
      refine wpList_nil ?_
      refine then_normal ?_
      refine wp_ret ?_
      refine end_ret1 (v := .bool false) rfl hr (by kernel_rfl) ?_
      replace h : Fit z (sepL (L)) _ := h.sel 1 [] (by kernel_rfl) (by kernel_rfl)
      replace H := ej1 H; subst H
      exact ⟨rfl, h⟩
  ·
    replace H := ifF c2 H
    refine op_off ((wg hr rfl rfl rfl (b' := (decide (p0.Base ≥ (0 : Int)))) (by kernel_rfl)).trans (by rw [show (decide (p0.Base ≥ (0 : Int))) = false from (decide_eq_false c2)]; rfl)) rfl rfl hr ?_; clear hr a; intro a hr
    refine op_off ((wg hr rfl rfl rfl (b' := (decide (p0.Base ≥ (0 : Int)))) (by kernel_rfl)).trans (by rw [show (decide (p0.Base ≥ (0 : Int))) = false from (decide_eq_false c2)]; rfl)) rfl rfl hr ?_; clear hr a; intro a hr
    refine op_off ((wg hr rfl rfl rfl (b' := (decide (p0.Base ≥ (0 : Int)))) (by kernel_rfl)).trans (by rw [show (decide (p0.Base ≥ (0 : Int))) = false from (decide_eq_false c2)]; rfl)) rfl rfl hr ?_; clear hr a; intro a hr
    refine op_val (wn rfl) rfl rfl hr (v := .bool false) (rp_f (b := (decide (p0.Base ≥ (0 : Int)))) rfl (by kernel_rfl) (decide_eq_false c2) (by kernel_rfl)) ?_; clear hr a; intro a hr
    refine ov hr (.bool false) (by kernel_rfl) ?_; clear hr a; intro a hr
    refine op_off ((wg hr rfl rfl rfl (b' := false) (by kernel_rfl)).trans rfl) rfl rfl hr ?_; clear hr a; intro a hr
    refine op_off ((wg hr rfl rfl rfl (b' := false) (by kernel_rfl)).trans rfl) rfl rfl hr ?_; clear hr a; intro a hr
    refine op_off ((wg hr rfl rfl rfl (b' := false) (by kernel_rfl)).trans rfl) rfl rfl hr ?_; clear hr a; intro a hr
    refine ovs [17, 18] [.bool false, .bool false] hr ⟨rfl, rfl⟩ (by kernel_rfl) ?_; clear hr a; intro a hr
    refine op_off ((wg hr rfl rfl rfl (b' := false) (by kernel_rfl)).trans rfl) rfl rfl hr ?_; clear hr a; intro a hr
    refine op_off ((wg hr rfl rfl rfl (b' := false) (by kernel_rfl)).trans rfl) rfl rfl hr ?_; clear hr a; intro a hr
    refine ovs [21, 22] [.bool false, .bool false] hr ⟨rfl, rfl⟩ (by kernel_rfl) ?_; clear hr a; intro a hr
    refine op_off ((wg hr rfl rfl rfl (b' := false) (by kernel_rfl)).trans rfl) rfl rfl hr ?_; clear hr a; intro a hr
    refine op_off ((wg hr rfl rfl rfl (b' := false) (by kernel_rfl)).trans rfl) rfl rfl hr ?_; clear hr a; intro a hr
    refine op_off ((wg hr rfl rfl rfl (b' := false) (by kernel_rfl)).trans rfl) rfl rfl hr ?_; clear hr a; intro a hr
    refine op_off ((wg hr rfl rfl rfl (b' := false) (by kernel_rfl)).trans rfl) rfl rfl hr ?_; clear hr a; intro a hr
    refine ovs [27, 4] [.bool false, .bool false] hr ⟨rfl, rfl⟩ (by kernel_rfl) ?_; clear hr a; intro a hr
    refine wpList_nil ?_
    refine then_normal ?_
    refine wp_ret ?_
    refine end_ret1 (v := .bool false) rfl hr (by kernel_rfl) ?_
    replace h : Fit z (sepL (L)) _ := h.sel 1 [] (by kernel_rfl) (by kernel_rfl)
    replace H := ej1 H; subst H
    exact ⟨rfl, h⟩

/-- plunder/frames.begin -/
def frames_begin (p0 : Int) (p1 : T_frames_Table) (p2 : Int) (p3 : Int) (p4 : Int) : Option (T_frames_Op) :=
  ob1 (frames_Table__has p1 p2) (fun r3 => (if r3 = true then (if p3 < (0 : Int) then some (⟨0, 0, 0, 0, 0, 0, 0, 0, 0⟩ : T_frames_Op) else (if p3 ≥ (8 : Int) then some (⟨0, 0, 0, 0, 0, 0, 0, 0, 0⟩ : T_frames_Op) else some (⟨p1.Base, p1.Frames, p2, 1, 0, 0, p0, p3, p4⟩ : T_frames_Op))) else some (⟨0, 0, 0, 0, 0, 0, 0, 0, 0⟩ : T_frames_Op)))
set_option maxRecDepth 100000 in
set_option maxHeartbeats 4000000 in
theorem frames_begin_ok {z w : World} {L : List HProp} {p0 : Int} {p1 : T_frames_Table} {p2 : Int} {p3 : Int} {p4 : Int} {r0 : T_frames_Op} (H : frames_begin p0 p1 p2 p3 p4 = some r0) (h : Fit z (sepL (L)) w)  :
    Calls Try.prog 55 #[.int .i64 p0, .agg #[.int .i64 p1.Base, .int .i64 p1.Frames], .int .i64 p2, .int .i64 p3, .int .i64 p4] w fun e w => e = .returned (.agg #[.int .i64 r0.head_t_Base, .int .i64 r0.head_t_Frames, .int .i64 r0.head_frame, .int .i64 r0.head_stands, .int .i64 r0.head_code, .int .i64 r0.head_v, .int .i64 r0.kind, .int .i64 r0.slot, .int .i64 r0.give]) ∧ Fit z (sepL (L)) w := by
  unfold frames_begin at H
  refine enter Try.func55 rfl 31 rfl rfl [(0, .int .i64 p0), (1, .agg #[.int .i64 p1.Base, .int .i64 p1.Frames]), (2, .int .i64 p2), (3, .int .i64 p3), (4, .int .i64 p4)] ⟨rfl, rfl, rfl, rfl, rfl, trivial⟩ ?_
  intro j a hr
  refine wp_seq ?_
  refine wp_region_lit ?_
  refine op_new (wn rfl) rfl rfl hr h (vf := fun b => .pointer (some ⟨b, 0, none⟩)) (cs := #[.int .i64 p1.Base, .int .i64 p1.Frames]) (T := 39) (by kernel_rfl) ?_; clear h hr a; intro b1 w a h hr
  refine op_new (wn rfl) rfl rfl hr h (vf := fun b => .pointer (some ⟨b, 0, none⟩)) (cs := #[.int .i64 0, .int .i64 0, .int .i64 0, .int .i64 0, .int .i64 0, .int .i64 0, .int .i64 0, .int .i64 0, .int .i64 0]) (T := 50) (by kernel_rfl) ?_; clear h hr a; intro b2 w a h hr
  refine wpList_nil ?_
  refine then_normal ?_
  refine wp_seq ?_
  refine wp_seq ?_
  refine wp_region_lit ?_
  refine op_val (wn rfl) rfl rfl hr (v := .agg #[.int .i64 p1.Base, .int .i64 p1.Frames]) (rlm (cs := [.int .i64 p1.Base, .int .i64 p1.Frames]) rfl (by kernel_rfl) (by kernel_rfl) (by kernel_rfl) ⟨(h.pick 1).cell 0 rfl, (h.pick 1).cell 1 rfl, trivial⟩) ?_; clear hr a; intro a hr
  replace H := bd1 H; obtain ⟨r3, e4, H⟩ := H
  refine ov hr (.int .i64 p2) (by kernel_rfl) ?_; clear hr a; intro a hr
  have hc := frames_Table__has_ok (H := e4) (h := h)
  refine op_call (wn rfl) rfl rfl hr (f := 80) (args := #[.agg #[.int .i64 p1.Base, .int .i64 p1.Frames], .int .i64 p2]) (by kernel_rfl) hc ?_; clear hc h
  rintro _ w ⟨rfl, h⟩; refine ⟨_, rfl, ?_⟩
  clear hr a; intro a hr
  refine ovs [14, 15] [.bool (!r3), .bool (!r3)] hr ⟨rfl, rfl⟩ (by kernel_rfl) ?_; clear hr a; intro a hr
  by_cases c5 : r3 = true
  ·
    replace H := ifT c5 H
    refine op_val ((wg hr rfl rfl rfl (b' := (!r3)) (by kernel_rfl)).trans (by rw [show (!r3) = false from (by rw [show r3 = true from (c5)]; rfl)]; rfl)) rfl rfl hr (v := .int .i64 p3) (by kernel_rfl) ?_; clear hr a; intro a hr
    refine op_val ((wg hr rfl rfl rfl (b' := (!r3)) (by kernel_rfl)).trans (by rw [show (!r3) = false from (by rw [show r3 = true from (c5)]; rfl)]; rfl)) rfl rfl hr (v := .bool (decide (p3 < (0 : Int)))) (by kernel_rfl) ?_; clear hr a; intro a hr
    refine op_val (wn rfl) rfl rfl hr (v := .bool (decide (p3 < (0 : Int)))) (rp_f (b := (!r3)) rfl (by kernel_rfl) (by rw [show r3 = true from (c5)]; rfl) (by kernel_rfl)) ?_; clear hr a; intro a hr
    refine ov hr (.bool (decide (p3 < (0 : Int)))) (by kernel_rfl) ?_; clear hr a; intro a hr
    by_cases c6 : p3 < (0 : Int)
    ·
      replace H := ifT c6 H
      refine op_off ((wg hr rfl rfl rfl (b' := (decide (p3 < (0 : Int)))) (by kernel_rfl)).trans (by rw [show (decide (p3 < (0 : Int))) = true from (decide_eq_true c6)]; rfl)) rfl rfl hr ?_; clear hr a; intro a hr
      refine op_off ((wg hr rfl rfl rfl (b' := (decide (p3 < (0 : Int)))) (by kernel_rfl)).trans (by rw [show (decide (p3 < (0 : Int))) = true from (decide_eq_true c6)]; rfl)) rfl rfl hr ?_; clear hr a; intro a hr
      refine op_val (wn rfl) rfl rfl hr (v := .bool true) (rp_t (b := (decide (p3 < (0 : Int)))) rfl (by kernel_rfl) (decide_eq_true c6) (by kernel_rfl)) ?_; clear hr a; intro a hr
      refine wpList_nil ?_
      refine then_normal ?_
      refine cond_tt hr (b := true) rfl ?_
      refine wp_seq ?_
      refine wp_region_lit ?_
      refine ov hr (.agg #[.int .i64 0, .int .i64 0, .int .i64 0, .int .i64 0, .int .i64 0, .int .i64 0, .int .i64 0, .int .i64 0, .int .i64 0]) (by kernel_rfl) ?_; clear hr a; intro a hr
      refine op_stores (wn rfl) rfl hr rfl (by kernel_rfl) (by kernel_rfl) (vs := [.int .i64 0, .int .i64 0, .int .i64 0, .int .i64 0, .int .i64 0, .int .i64 0, .int .i64 0, .int .i64 0, .int .i64 0]) rfl rfl (by kernel_rfl) h (i := 0) (cs' := #[.int .i64 0, .int .i64 0, .int .i64 0, .int .i64 0, .int .i64 0, .int .i64 0, .int .i64 0, .int .i64 0, .int .i64 0]) rfl ?_; clear h; intro w h
      refine wpList_nil ?_
      replace h : Fit z (sepL (pts b2 (.cells #[.int .i64 0, .int .i64 0, .int .i64 0, .int .i64 0, .int .i64 0, .int .i64 0, .int .i64 0, .int .i64 0, .int .i64 0] 50) :: ob39 b1 p1 :: L)) _ := h
      refine then_normal ?_
      refine wp_ret ?_
      refine then_ret ?_
      refine end_retC (cs := [.int .i64 0, .int .i64 0, .int .i64 0, .int .i64 0, .int .i64 0, .int .i64 0, .int .i64 0, .int .i64 0, .int .i64 0]) rfl hr (by kernel_rfl) (by kernel_rfl) (by kernel_rfl) ⟨h.cell 0 rfl, h.cell 1 rfl, h.cell 2 rfl, h.cell 3 rfl, h.cell 4 rfl, h.cell 5 rfl, h.cell 6 rfl, h.cell 7 rfl, h.cell 8 rfl, trivial⟩ ?_
      replace h : Fit z (sepL (L)) _ := h.sel 2 [] (by kernel_rfl) (by kernel_rfl)
      replace H := ej1 H; subst H
      exact ⟨rfl, h⟩
    ·
      replace H := ifF c6 H
      refine op_val ((wg hr rfl rfl rfl (b' := (decide (p3 < (0 : Int)))) (by kernel_rfl)).trans (by rw [show (decide (p3 < (0 : Int))) = false from (decide_eq_false c6)]; rfl)) rfl rfl hr (v := .int .i64 p3) (by kernel_rfl) ?_; clear hr a; intro a hr
      refine op_val ((wg hr rfl rfl rfl (b' := (decide (p3 < (0 : Int)))) (by kernel_rfl)).trans (by rw [show (decide (p3 < (0 : Int))) = false from (decide_eq_false c6)]; rfl)) rfl rfl hr (v := .bool (decide (p3 ≥ (8 : Int)))) (by kernel_rfl) ?_; clear hr a; intro a hr
      refine op_val (wn rfl) rfl rfl hr (v := .bool (decide (p3 ≥ (8 : Int)))) (rp_f (b := (decide (p3 < (0 : Int)))) rfl (by kernel_rfl) (decide_eq_false c6) (by kernel_rfl)) ?_; clear hr a; intro a hr
      refine wpList_nil ?_
      refine then_normal ?_
      by_cases c7 : p3 ≥ (8 : Int)
      ·
        replace H := ifT c7 H
        refine cond_tt hr (b := (decide (p3 ≥ (8 : Int)))) (decide_eq_true c7) ?_
        refine wp_seq ?_
        refine wp_region_lit ?_
        refine ov hr (.agg #[.int .i64 0, .int .i64 0, .int .i64 0, .int .i64 0, .int .i64 0, .int .i64 0, .int .i64 0, .int .i64 0, .int .i64 0]) (by kernel_rfl) ?_; clear hr a; intro a hr
        refine op_stores (wn rfl) rfl hr rfl (by kernel_rfl) (by kernel_rfl) (vs := [.int .i64 0, .int .i64 0, .int .i64 0, .int .i64 0, .int .i64 0, .int .i64 0, .int .i64 0, .int .i64 0, .int .i64 0]) rfl rfl (by kernel_rfl) h (i := 0) (cs' := #[.int .i64 0, .int .i64 0, .int .i64 0, .int .i64 0, .int .i64 0, .int .i64 0, .int .i64 0, .int .i64 0, .int .i64 0]) rfl ?_; clear h; intro w h
        refine wpList_nil ?_
        replace h : Fit z (sepL (pts b2 (.cells #[.int .i64 0, .int .i64 0, .int .i64 0, .int .i64 0, .int .i64 0, .int .i64 0, .int .i64 0, .int .i64 0, .int .i64 0] 50) :: ob39 b1 p1 :: L)) _ := h
        refine then_normal ?_
        refine wp_ret ?_
        refine then_ret ?_
        refine end_retC (cs := [.int .i64 0, .int .i64 0, .int .i64 0, .int .i64 0, .int .i64 0, .int .i64 0, .int .i64 0, .int .i64 0, .int .i64 0]) rfl hr (by kernel_rfl) (by kernel_rfl) (by kernel_rfl) ⟨h.cell 0 rfl, h.cell 1 rfl, h.cell 2 rfl, h.cell 3 rfl, h.cell 4 rfl, h.cell 5 rfl, h.cell 6 rfl, h.cell 7 rfl, h.cell 8 rfl, trivial⟩ ?_
        replace h : Fit z (sepL (L)) _ := h.sel 2 [] (by kernel_rfl) (by kernel_rfl)
        replace H := ej1 H; subst H
        exact ⟨rfl, h⟩
      ·
        replace H := ifF c7 H
        refine cond_ff hr (b := (decide (p3 ≥ (8 : Int)))) (decide_eq_false c7) ?_
        refine wp_skip ?_
        refine then_normal ?_
        refine wp_seq ?_
        refine wp_region_lit ?_
        refine op_val (wn rfl) rfl rfl hr (v := .agg #[.int .i64 p1.Base, .int .i64 p1.Frames]) (rlm (cs := [.int .i64 p1.Base, .int .i64 p1.Frames]) rfl (by kernel_rfl) (by kernel_rfl) (by kernel_rfl) ⟨(h.pick 1).cell 0 rfl, (h.pick 1).cell 1 rfl, trivial⟩) ?_; clear hr a; intro a hr
        refine ovs [25, 26, 27, 28, 29, 30] [.int .i64 p2, .agg #[.int .i64 p1.Base, .int .i64 p1.Frames, .int .i64 p2, .int .i64 1, .int .i64 0, .int .i64 0], .int .i64 p0, .int .i64 p3, .int .i64 p4, .agg #[.int .i64 p1.Base, .int .i64 p1.Frames, .int .i64 p2, .int .i64 1, .int .i64 0, .int .i64 0, .int .i64 p0, .int .i64 p3, .int .i64 p4]] hr ⟨rfl, rfl⟩ (by kernel_rfl) ?_; clear hr a; intro a hr
        refine op_stores (wn rfl) rfl hr rfl (by kernel_rfl) (by kernel_rfl) (vs := [.int .i64 p1.Base, .int .i64 p1.Frames, .int .i64 p2, .int .i64 1, .int .i64 0, .int .i64 0, .int .i64 p0, .int .i64 p3, .int .i64 p4]) rfl rfl (by kernel_rfl) h (i := 0) (cs' := #[.int .i64 p1.Base, .int .i64 p1.Frames, .int .i64 p2, .int .i64 1, .int .i64 0, .int .i64 0, .int .i64 p0, .int .i64 p3, .int .i64 p4]) rfl ?_; clear h; intro w h
        refine wpList_nil ?_
        replace h : Fit z (sepL (pts b2 (.cells #[.int .i64 p1.Base, .int .i64 p1.Frames, .int .i64 p2, .int .i64 1, .int .i64 0, .int .i64 0, .int .i64 p0, .int .i64 p3, .int .i64 p4] 50) :: ob39 b1 p1 :: L)) _ := h
        refine then_normal ?_
        refine wp_ret ?_
        refine end_retC (cs := [.int .i64 p1.Base, .int .i64 p1.Frames, .int .i64 p2, .int .i64 1, .int .i64 0, .int .i64 0, .int .i64 p0, .int .i64 p3, .int .i64 p4]) rfl hr (by kernel_rfl) (by kernel_rfl) (by kernel_rfl) ⟨h.cell 0 rfl, h.cell 1 rfl, h.cell 2 rfl, h.cell 3 rfl, h.cell 4 rfl, h.cell 5 rfl, h.cell 6 rfl, h.cell 7 rfl, h.cell 8 rfl, trivial⟩ ?_
        replace h : Fit z (sepL (L)) _ := h.sel 2 [] (by kernel_rfl) (by kernel_rfl)
        replace H := ej1 H; subst H
        exact ⟨rfl, h⟩
  ·
    replace H := ifF c5 H
    refine op_off ((wg hr rfl rfl rfl (b' := (!r3)) (by kernel_rfl)).trans (by rw [show (!r3) = true from (by rw [show r3 = false from (bF c5)]; rfl)]; rfl)) rfl rfl hr ?_; clear hr a; intro a hr
    refine op_off ((wg hr rfl rfl rfl (b' := (!r3)) (by kernel_rfl)).trans (by rw [show (!r3) = true from (by rw [show r3 = false from (bF c5)]; rfl)]; rfl)) rfl rfl hr ?_; clear hr a; intro a hr
    refine op_val (wn rfl) rfl rfl hr (v := .bool true) (rp_t (b := (!r3)) rfl (by kernel_rfl) (by rw [show r3 = false from (bF c5)]; rfl) (by kernel_rfl)) ?_; clear hr a; intro a hr
    refine ov hr (.bool true) (by kernel_rfl) ?_; clear hr a; intro a hr
    refine op_off ((wg hr rfl rfl rfl (b' := true) (by kernel_rfl)).trans rfl) rfl rfl hr ?_; clear hr a; intro a hr
    refine op_off ((wg hr rfl rfl rfl (b' := true) (by kernel_rfl)).trans rfl) rfl rfl hr ?_; clear hr a; intro a hr
    refine ov hr (.bool true) (by kernel_rfl) ?_; clear hr a; intro a hr
    refine wpList_nil ?_
    refine then_normal ?_
    refine cond_tt hr (b := true) rfl ?_
    refine wp_seq ?_
    refine wp_region_lit ?_
    refine ov hr (.agg #[.int .i64 0, .int .i64 0, .int .i64 0, .int .i64 0, .int .i64 0, .int .i64 0, .int .i64 0, .int .i64 0, .int .i64 0]) (by kernel_rfl) ?_; clear hr a; intro a hr
    refine op_stores (wn rfl) rfl hr rfl (by kernel_rfl) (by kernel_rfl) (vs := [.int .i64 0, .int .i64 0, .int .i64 0, .int .i64 0, .int .i64 0, .int .i64 0, .int .i64 0, .int .i64 0, .int .i64 0]) rfl rfl (by kernel_rfl) h (i := 0) (cs' := #[.int .i64 0, .int .i64 0, .int .i64 0, .int .i64 0, .int .i64 0, .int .i64 0, .int .i64 0, .int .i64 0, .int .i64 0]) rfl ?_; clear h; intro w h
    refine wpList_nil ?_
    replace h : Fit z (sepL (pts b2 (.cells #[.int .i64 0, .int .i64 0, .int .i64 0, .int .i64 0, .int .i64 0, .int .i64 0, .int .i64 0, .int .i64 0, .int .i64 0] 50) :: ob39 b1 p1 :: L)) _ := h
    refine then_normal ?_
    refine wp_ret ?_
    refine then_ret ?_
    refine end_retC (cs := [.int .i64 0, .int .i64 0, .int .i64 0, .int .i64 0, .int .i64 0, .int .i64 0, .int .i64 0, .int .i64 0, .int .i64 0]) rfl hr (by kernel_rfl) (by kernel_rfl) (by kernel_rfl) ⟨h.cell 0 rfl, h.cell 1 rfl, h.cell 2 rfl, h.cell 3 rfl, h.cell 4 rfl, h.cell 5 rfl, h.cell 6 rfl, h.cell 7 rfl, h.cell 8 rfl, trivial⟩ ?_
    replace h : Fit z (sepL (L)) _ := h.sel 2 [] (by kernel_rfl) (by kernel_rfl)
    replace H := ej1 H; subst H
    exact ⟨rfl, h⟩

/-- plunder/frames.Alloc -/
def frames_Alloc (p0 : T_frames_Table) : Option (T_frames_Op) :=
  ob1 (frames_begin 0 p0 0 0 0) (fun r3 => some r3)
set_option maxRecDepth 100000 in
set_option maxHeartbeats 4000000 in
theorem frames_Alloc_ok {z w : World} {L : List HProp} {p0 : T_frames_Table} {r0 : T_frames_Op} (H : frames_Alloc p0 = some r0) (h : Fit z (sepL (L)) w)  :
    Calls Try.prog 27 #[.agg #[.int .i64 p0.Base, .int .i64 p0.Frames]] w fun e w => e = .returned (.agg #[.int .i64 r0.head_t_Base, .int .i64 r0.head_t_Frames, .int .i64 r0.head_frame, .int .i64 r0.head_stands, .int .i64 r0.head_code, .int .i64 r0.head_v, .int .i64 r0.kind, .int .i64 r0.slot, .int .i64 r0.give]) ∧ Fit z (sepL (L)) w := by
  unfold frames_Alloc at H
  refine enter Try.func27 rfl 5 rfl rfl [(0, .agg #[.int .i64 p0.Base, .int .i64 p0.Frames])] ⟨rfl, trivial⟩ ?_
  intro j a hr
  refine wp_seq ?_
  refine wp_region_lit ?_
  refine op_new (wn rfl) rfl rfl hr h (vf := fun b => .pointer (some ⟨b, 0, none⟩)) (cs := #[.int .i64 p0.Base, .int .i64 p0.Frames]) (T := 39) (by kernel_rfl) ?_; clear h hr a; intro b1 w a h hr
  refine op_new (wn rfl) rfl rfl hr h (vf := fun b => .pointer (some ⟨b, 0, none⟩)) (cs := #[.int .i64 0, .int .i64 0, .int .i64 0, .int .i64 0, .int .i64 0, .int .i64 0, .int .i64 0, .int .i64 0, .int .i64 0]) (T := 50) (by kernel_rfl) ?_; clear h hr a; intro b2 w a h hr
  refine wpList_nil ?_
  refine then_normal ?_
  refine wp_seq ?_
  refine wp_region_lit ?_
  refine op_val (wn rfl) rfl rfl hr (v := .agg #[.int .i64 p0.Base, .int .i64 p0.Frames]) (rlm (cs := [.int .i64 p0.Base, .int .i64 p0.Frames]) rfl (by kernel_rfl) (by kernel_rfl) (by kernel_rfl) ⟨(h.pick 1).cell 0 rfl, (h.pick 1).cell 1 rfl, trivial⟩) ?_; clear hr a; intro a hr
  replace H := bd1 H; obtain ⟨r3, e4, H⟩ := H
  have hc := frames_begin_ok (H := e4) (h := h)
  refine op_call (wn rfl) rfl rfl hr (f := 55) (args := #[.int .i64 0, .agg #[.int .i64 p0.Base, .int .i64 p0.Frames], .int .i64 0, .int .i64 0, .int .i64 0]) (by kernel_rfl) hc ?_; clear hc h
  rintro _ w ⟨rfl, h⟩; refine ⟨_, rfl, ?_⟩
  clear hr a; intro a hr
  refine op_stores (wn rfl) rfl hr rfl (by kernel_rfl) (by kernel_rfl) (vs := [.int .i64 r3.head_t_Base, .int .i64 r3.head_t_Frames, .int .i64 r3.head_frame, .int .i64 r3.head_stands, .int .i64 r3.head_code, .int .i64 r3.head_v, .int .i64 r3.kind, .int .i64 r3.slot, .int .i64 r3.give]) rfl rfl (by kernel_rfl) h (i := 0) (cs' := #[.int .i64 r3.head_t_Base, .int .i64 r3.head_t_Frames, .int .i64 r3.head_frame, .int .i64 r3.head_stands, .int .i64 r3.head_code, .int .i64 r3.head_v, .int .i64 r3.kind, .int .i64 r3.slot, .int .i64 r3.give]) rfl ?_; clear h; intro w h
  refine wpList_nil ?_
  replace h : Fit z (sepL (ob50 b2 r3 :: ob39 b1 p0 :: L)) _ := h
  refine then_normal ?_
  refine wp_ret ?_
  refine end_retC (cs := [.int .i64 r3.head_t_Base, .int .i64 r3.head_t_Frames, .int .i64 r3.head_frame, .int .i64 r3.head_stands, .int .i64 r3.head_code, .int .i64 r3.head_v, .int .i64 r3.kind, .int .i64 r3.slot, .int .i64 r3.give]) rfl hr (by kernel_rfl) (by kernel_rfl) (by kernel_rfl) ⟨h.cell 0 rfl, h.cell 1 rfl, h.cell 2 rfl, h.cell 3 rfl, h.cell 4 rfl, h.cell 5 rfl, h.cell 6 rfl, h.cell 7 rfl, h.cell 8 rfl, trivial⟩ ?_
  replace h : Fit z (sepL (L)) _ := h.sel 2 [] (by kernel_rfl) (by kernel_rfl)
  replace H := ej1 H; subst H
  exact ⟨rfl, h⟩

/-- (*plunder/frames.head).end -/
def frames_head_end (p0 : T_frames_Op) (p1 : Int) (p2 : Int) : Option (T_frames_Op) :=
  some ({ p0 with head_stands := 0, head_code := p1, head_v := p2 })
set_option maxRecDepth 100000 in
set_option maxHeartbeats 4000000 in
theorem frames_head_end_ok {z w : World} {L : List HProp} {p0 : T_frames_Op} {p1 : Int} {p2 : Int} {B0 : Nat} {q0 : T_frames_Op} (H : frames_head_end p0 p1 p2 = some q0) (h : Fit z (sepL (ob50 B0 p0 :: L)) w)  :
    Calls Try.prog 56 #[.pointer (some ⟨B0, 0, none⟩), .int .i64 p1, .int .i64 p2] w fun e w => e = .returned (.tuple #[]) ∧ Fit z (sepL (ob50 B0 q0 :: L)) w := by
  unfold frames_head_end at H
  refine enter Try.func56 rfl 17 rfl rfl [(0, .pointer (some ⟨B0, 0, none⟩)), (1, .int .i64 p1), (2, .int .i64 p2)] ⟨rfl, rfl, rfl, trivial⟩ ?_
  intro j a hr
  refine wp_seq ?_
  refine wp_region_lit ?_
  refine ovs [6, 7, 8] [.pointer (some ⟨B0, 0, none⟩), .pointer (some ⟨B0, 0, none⟩), .pointer (some ⟨B0, 3, none⟩)] hr ⟨rfl, rfl⟩ (by kernel_rfl) ?_; clear hr a; intro a hr
  refine op_store (wn rfl) rfl hr rfl (by kernel_rfl) (by kernel_rfl) (v := .int .i64 0) rfl rfl (by kernel_rfl) h (i := 3) rfl ?_; clear h; intro w h
  refine wpList_nil ?_
  replace h : Fit z (sepL (pts B0 (.cells #[.int .i64 p0.head_t_Base, .int .i64 p0.head_t_Frames, .int .i64 p0.head_frame, .int .i64 0, .int .i64 p0.head_code, .int .i64 p0.head_v, .int .i64 p0.kind, .int .i64 p0.slot, .int .i64 p0.give] 50) :: L)) _ := h
  refine then_normal ?_
  refine wp_seq ?_
  refine wp_region_lit ?_
  refine ovs [9, 10, 11, 12] [.pointer (some ⟨B0, 0, none⟩), .int .i64 p1, .pointer (some ⟨B0, 0, none⟩), .pointer (some ⟨B0, 4, none⟩)] hr ⟨rfl, rfl⟩ (by kernel_rfl) ?_; clear hr a; intro a hr
  refine op_store (wn rfl) rfl hr rfl (by kernel_rfl) (by kernel_rfl) (v := .int .i64 p1) rfl rfl (by kernel_rfl) h (i := 4) rfl ?_; clear h; intro w h
  refine wpList_nil ?_
  replace h : Fit z (sepL (pts B0 (.cells #[.int .i64 p0.head_t_Base, .int .i64 p0.head_t_Frames, .int .i64 p0.head_frame, .int .i64 0, .int .i64 p1, .int .i64 p0.head_v, .int .i64 p0.kind, .int .i64 p0.slot, .int .i64 p0.give] 50) :: L)) _ := h
  refine then_normal ?_
  refine wp_region_lit ?_
  refine ovs [13, 14, 15, 16] [.pointer (some ⟨B0, 0, none⟩), .int .i64 p2, .pointer (some ⟨B0, 0, none⟩), .pointer (some ⟨B0, 5, none⟩)] hr ⟨rfl, rfl⟩ (by kernel_rfl) ?_; clear hr a; intro a hr
  refine op_store (wn rfl) rfl hr rfl (by kernel_rfl) (by kernel_rfl) (v := .int .i64 p2) rfl rfl (by kernel_rfl) h (i := 5) rfl ?_; clear h; intro w h
  refine wpList_nil ?_
  replace h : Fit z (sepL (pts B0 (.cells #[.int .i64 p0.head_t_Base, .int .i64 p0.head_t_Frames, .int .i64 p0.head_frame, .int .i64 0, .int .i64 p1, .int .i64 p2, .int .i64 p0.kind, .int .i64 p0.slot, .int .i64 p0.give] 50) :: L)) _ := h
  refine end_norm0 rfl hr ?_
  replace H := ej1 H; subst H
  exact ⟨rfl, h⟩

/-- plunder/frames.Step -/
def frames_Step (p1 : T_frames_Op) : Option (T_frames_Op) :=
  (if p1.head_stands = (0 : Int) then some p1 else ob1 (frames_head_end p1 1 0) (fun S4 => some S4))
set_option maxRecDepth 100000 in
set_option maxHeartbeats 4000000 in
theorem frames_Step_ok {z w : World} {L : List HProp} {p1 : T_frames_Op} {r0 : T_frames_Op} (H : frames_Step p1 = some r0) (h : Fit z (sepL (L)) w)  :
    Calls Try.prog 28 #[.nilIface, .agg #[.int .i64 p1.head_t_Base, .int .i64 p1.head_t_Frames, .int .i64 p1.head_frame, .int .i64 p1.head_stands, .int .i64 p1.head_code, .int .i64 p1.head_v, .int .i64 p1.kind, .int .i64 p1.slot, .int .i64 p1.give]] w fun e w => e = .returned (.agg #[.int .i64 r0.head_t_Base, .int .i64 r0.head_t_Frames, .int .i64 r0.head_frame, .int .i64 r0.head_stands, .int .i64 r0.head_code, .int .i64 r0.head_v, .int .i64 r0.kind, .int .i64 r0.slot, .int .i64 r0.give]) ∧ Fit z (sepL (L)) w := by
  unfold frames_Step at H
  refine enter Try.func28 rfl 36 rfl rfl [(0, .nilIface), (1, .agg #[.int .i64 p1.head_t_Base, .int .i64 p1.head_t_Frames, .int .i64 p1.head_frame, .int .i64 p1.head_stands, .int .i64 p1.head_code, .int .i64 p1.head_v, .int .i64 p1.kind, .int .i64 p1.slot, .int .i64 p1.give])] ⟨rfl, rfl, trivial⟩ ?_
  intro j a hr
  refine wp_seq ?_
  refine wp_region_lit ?_
  refine op_new (wn rfl) rfl rfl hr h (vf := fun b => .pointer (some ⟨b, 0, none⟩)) (cs := #[.int .i64 p1.head_t_Base, .int .i64 p1.head_t_Frames, .int .i64 p1.head_frame, .int .i64 p1.head_stands, .int .i64 p1.head_code, .int .i64 p1.head_v, .int .i64 p1.kind, .int .i64 p1.slot, .int .i64 p1.give]) (T := 50) (by kernel_rfl) ?_; clear h hr a; intro b1 w a h hr
  refine op_new (wn rfl) rfl rfl hr h (vf := fun b => .pointer (some ⟨b, 0, none⟩)) (cs := #[.int .i64 0, .int .i64 0, .int .i64 0, .int .i64 0, .int .i64 0, .int .i64 0, .int .i64 0, .int .i64 0, .int .i64 0]) (T := 50) (by kernel_rfl) ?_; clear h hr a; intro b2 w a h hr
  refine wpList_nil ?_
  refine then_normal ?_
  refine wp_seq ?_
  refine wp_seq ?_
  refine wp_region_lit ?_
  refine ovs [6, 7] [.pointer (some ⟨b1, 0, none⟩), .pointer (some ⟨b1, 3, none⟩)] hr ⟨rfl, rfl⟩ (by kernel_rfl) ?_; clear hr a; intro a hr
  refine op_val (wn rfl) rfl rfl hr (v := .int .i64 p1.head_stands) (rl rfl (by kernel_rfl) (by kernel_rfl) ((h.pick 1).cell 3 rfl)) ?_; clear hr a; intro a hr
  refine ov hr (.bool (p1.head_stands == (0 : Int))) (by kernel_rfl) ?_; clear hr a; intro a hr
  refine wpList_nil ?_
  refine then_normal ?_
  by_cases c3 : p1.head_stands = (0 : Int)
  ·
    replace H := ifT c3 H
    refine cond_tt hr (b := (p1.head_stands == (0 : Int))) (beq_iff_eq.mpr c3) ?_
    refine wp_seq ?_
    refine wp_region_lit ?_
    refine op_val (wn rfl) rfl rfl hr (v := .agg #[.int .i64 p1.head_t_Base, .int .i64 p1.head_t_Frames, .int .i64 p1.head_frame, .int .i64 p1.head_stands, .int .i64 p1.head_code, .int .i64 p1.head_v, .int .i64 p1.kind, .int .i64 p1.slot, .int .i64 p1.give]) (rlm (cs := [.int .i64 p1.head_t_Base, .int .i64 p1.head_t_Frames, .int .i64 p1.head_frame, .int .i64 p1.head_stands, .int .i64 p1.head_code, .int .i64 p1.head_v, .int .i64 p1.kind, .int .i64 p1.slot, .int .i64 p1.give]) rfl (by kernel_rfl) (by kernel_rfl) (by kernel_rfl) ⟨(h.pick 1).cell 0 rfl, (h.pick 1).cell 1 rfl, (h.pick 1).cell 2 rfl, (h.pick 1).cell 3 rfl, (h.pick 1).cell 4 rfl, (h.pick 1).cell 5 rfl, (h.pick 1).cell 6 rfl, (h.pick 1).cell 7 rfl, (h.pick 1).cell 8 rfl, trivial⟩) ?_; clear hr a; intro a hr
    refine op_stores (wn rfl) rfl hr rfl (by kernel_rfl) (by kernel_rfl) (vs := [.int .i64 p1.head_t_Base, .int .i64 p1.head_t_Frames, .int .i64 p1.head_frame, .int .i64 p1.head_stands, .int .i64 p1.head_code, .int .i64 p1.head_v, .int .i64 p1.kind, .int .i64 p1.slot, .int .i64 p1.give]) rfl rfl (by kernel_rfl) h (i := 0) (cs' := #[.int .i64 p1.head_t_Base, .int .i64 p1.head_t_Frames, .int .i64 p1.head_frame, .int .i64 p1.head_stands, .int .i64 p1.head_code, .int .i64 p1.head_v, .int .i64 p1.kind, .int .i64 p1.slot, .int .i64 p1.give]) rfl ?_; clear h; intro w h
    refine wpList_nil ?_
    replace h : Fit z (sepL (ob50 b2 p1 :: ob50 b1 p1 :: L)) _ := h
    refine then_normal ?_
    refine wp_ret ?_
    refine then_ret ?_
    refine end_retC (cs := [.int .i64 p1.head_t_Base, .int .i64 p1.head_t_Frames, .int .i64 p1.head_frame, .int .i64 p1.head_stands, .int .i64 p1.head_code, .int .i64 p1.head_v, .int .i64 p1.kind, .int .i64 p1.slot, .int .i64 p1.give]) rfl hr (by kernel_rfl) (by kernel_rfl) (by kernel_rfl) ⟨h.cell 0 rfl, h.cell 1 rfl, h.cell 2 rfl, h.cell 3 rfl, h.cell 4 rfl, h.cell 5 rfl, h.cell 6 rfl, h.cell 7 rfl, h.cell 8 rfl, trivial⟩ ?_
    replace h : Fit z (sepL (L)) _ := h.sel 2 [] (by kernel_rfl) (by kernel_rfl)
    replace H := ej1 H; subst H
    exact ⟨rfl, h⟩
  ·
    replace H := ifF c3 H
    refine cond_ff hr (b := (p1.head_stands == (0 : Int))) (beq_eq_false_iff_ne.mpr c3) ?_
    refine wp_skip ?_
    refine then_normal ?_
    refine wp_seq ?_
    refine wp_seq ?_
    refine wp_region_lit ?_
    refine ovs [11, 12] [.nilIface, .bool true] hr ⟨rfl, rfl⟩ (by kernel_rfl) ?_; clear hr a; intro a hr
    refine wpList_nil ?_
    refine then_normal ?_
    refine cond_tt hr (b := true) rfl ?_
    refine wp_seq ?_
    refine wp_region_lit ?_
    replace H := bd1 H; obtain ⟨S4, e5, H⟩ := H
    refine ov hr (.pointer (some ⟨b1, 0, none⟩)) (by kernel_rfl) ?_; clear hr a; intro a hr
    replace h : Fit z (sepL (ob50 b1 p1 :: pts b2 (.cells #[.int .i64 0, .int .i64 0, .int .i64 0, .int .i64 0, .int .i64 0, .int .i64 0, .int .i64 0, .int .i64 0, .int .i64 0] 50) :: L)) _ := h.sel 2 [1, 0] (by kernel_rfl) (by kernel_rfl)
    have hc := frames_head_end_ok (H := e5) (h := h)
    refine op_call (wn rfl) rfl rfl hr (f := 56) (args := #[.pointer (some ⟨b1, 0, none⟩), .int .i64 1, .int .i64 0]) (by kernel_rfl) hc ?_; clear hc h
    rintro _ w ⟨rfl, h⟩; refine ⟨_, rfl, ?_⟩
    clear hr a; intro a hr
    refine wpList_nil ?_
    refine then_normal ?_
    refine wp_seq ?_
    refine wp_region_lit ?_
    refine op_val (wn rfl) rfl rfl hr (v := .agg #[.int .i64 S4.head_t_Base, .int .i64 S4.head_t_Frames, .int .i64 S4.head_frame, .int .i64 S4.head_stands, .int .i64 S4.head_code, .int .i64 S4.head_v, .int .i64 S4.kind, .int .i64 S4.slot, .int .i64 S4.give]) (rlm (cs := [.int .i64 S4.head_t_Base, .int .i64 S4.head_t_Frames, .int .i64 S4.head_frame, .int .i64 S4.head_stands, .int .i64 S4.head_code, .int .i64 S4.head_v, .int .i64 S4.kind, .int .i64 S4.slot, .int .i64 S4.give]) rfl (by kernel_rfl) (by kernel_rfl) (by kernel_rfl) ⟨h.cell 0 rfl, h.cell 1 rfl, h.cell 2 rfl, h.cell 3 rfl, h.cell 4 rfl, h.cell 5 rfl, h.cell 6 rfl, h.cell 7 rfl, h.cell 8 rfl, trivial⟩) ?_; clear hr a; intro a hr
    replace h : Fit z (sepL (pts b2 (.cells #[.int .i64 0, .int .i64 0, .int .i64 0, .int .i64 0, .int .i64 0, .int .i64 0, .int .i64 0, .int .i64 0, .int .i64 0] 50) :: ob50 b1 S4 :: L)) _ := h.sel 2 [1, 0] (by kernel_rfl) (by kernel_rfl)
    refine op_stores (wn rfl) rfl hr rfl (by kernel_rfl) (by kernel_rfl) (vs := [.int .i64 S4.head_t_Base, .int .i64 S4.head_t_Frames, .int .i64 S4.head_frame, .int .i64 S4.head_stands, .int .i64 S4.head_code, .int .i64 S4.head_v, .int .i64 S4.kind, .int .i64 S4.slot, .int .i64 S4.give]) rfl rfl (by kernel_rfl) h (i := 0) (cs' := #[.int .i64 S4.head_t_Base, .int .i64 S4.head_t_Frames, .int .i64 S4.head_frame, .int .i64 S4.head_stands, .int .i64 S4.head_code, .int .i64 S4.head_v, .int .i64 S4.kind, .int .i64 S4.slot, .int .i64 S4.give]) rfl ?_; clear h; intro w h
    refine wpList_nil ?_
    replace h : Fit z (sepL (ob50 b2 S4 :: ob50 b1 S4 :: L)) _ := h
    refine then_normal ?_
    refine wp_ret ?_
    refine then_ret ?_
    refine end_retC (cs := [.int .i64 S4.head_t_Base, .int .i64 S4.head_t_Frames, .int .i64 S4.head_frame, .int .i64 S4.head_stands, .int .i64 S4.head_code, .int .i64 S4.head_v, .int .i64 S4.kind, .int .i64 S4.slot, .int .i64 S4.give]) rfl hr (by kernel_rfl) (by kernel_rfl) (by kernel_rfl) ⟨h.cell 0 rfl, h.cell 1 rfl, h.cell 2 rfl, h.cell 3 rfl, h.cell 4 rfl, h.cell 5 rfl, h.cell 6 rfl, h.cell 7 rfl, h.cell 8 rfl, trivial⟩ ?_
    replace h : Fit z (sepL (L)) _ := h.sel 2 [] (by kernel_rfl) (by kernel_rfl)
    replace H := ej1 H; subst H
    exact ⟨rfl, h⟩

/-- plunder/frames.Cells -/
def frames_Cells (p0 : Int) : Option (Int) :=
  (if p0 < (1 : Int) then some 0 else (if p0 > (4096 : Int) then some 0 else some (wi ((1 : Int) + (wi (p0 * (10 : Int)))))))
set_option maxRecDepth 100000 in
set_option maxHeartbeats 4000000 in
theorem frames_Cells_ok {z w : World} {L : List HProp} {p0 : Int} {r0 : Int} (H : frames_Cells p0 = some r0) (h : Fit z (sepL (L)) w)  :
    Calls Try.prog 15 #[.int .i64 p0] w fun e w => e = .returned (.int .i64 r0) ∧ Fit z (sepL (L)) w := by
  unfold frames_Cells at H
  refine enter Try.func15 rfl 12 rfl rfl [(0, .int .i64 p0)] ⟨rfl, trivial⟩ ?_
  intro j a hr
  refine wp_seq ?_
  refine wp_region_lit ?_
  refine ov hr (.int .i64 0) (by kernel_rfl) ?_; clear hr a; intro a hr
  refine wpList_nil ?_
  refine then_normal ?_
  refine wp_seq ?_
  refine wp_seq ?_
  refine wp_region_lit ?_
  refine ovs [3, 4, 5] [.int .i64 p0, .bool (decide (p0 < (1 : Int))), .bool (decide (p0 < (1 : Int)))] hr ⟨rfl, rfl⟩ (by kernel_rfl) ?_; clear hr a; intro a hr
  by_cases c1 : p0 < (1 : Int)
  ·
    replace H := ifT c1 H
    refine op_off ((wg hr rfl rfl rfl (b' := (decide (p0 < (1 : Int)))) (by kernel_rfl)).trans (by rw [show (decide (p0 < (1 : Int))) = true from (decide_eq_true c1)]; rfl)) rfl rfl hr ?_; clear hr a; intro a hr
    refine op_off ((wg hr rfl rfl rfl (b' := (decide (p0 < (1 : Int)))) (by kernel_rfl)).trans (by rw [show (decide (p0 < (1 : Int))) = true from (decide_eq_true c1)]; rfl)) rfl rfl hr ?_; clear hr a; intro a hr
    refine op_val (wn rfl) rfl rfl hr (v := .bool true) (rp_t (b := (decide (p0 < (1 : Int)))) rfl (by kernel_rfl) (decide_eq_true c1) (by kernel_rfl)) ?_; clear hr a; intro a hr
    refine wpList_nil ?_
    refine then_normal ?_
    refine cond_tt hr (b := true) rfl ?_
    refine wp_seq ?_
    refine wp_region_lit ?_
    refine ov hr (.int .i64 0) (by kernel_rfl) ?_; clear hr a; intro a hr
    refine wpList_nil ?_
    refine then_normal ?_
    refine wp_ret ?_
    refine then_ret ?_
    refine end_ret1 (v := .int .i64 0) rfl hr (by kernel_rfl) ?_
    replace H := ej1 H; subst H
    exact ⟨rfl, h⟩
  ·
    replace H := ifF c1 H
    refine op_val ((wg hr rfl rfl rfl (b' := (decide (p0 < (1 : Int)))) (by kernel_rfl)).trans (by rw [show (decide (p0 < (1 : Int))) = false from (decide_eq_false c1)]; rfl)) rfl rfl hr (v := .int .i64 p0) (by kernel_rfl) ?_; clear hr a; intro a hr
    refine op_val ((wg hr rfl rfl rfl (b' := (decide (p0 < (1 : Int)))) (by kernel_rfl)).trans (by rw [show (decide (p0 < (1 : Int))) = false from (decide_eq_false c1)]; rfl)) rfl rfl hr (v := .bool (decide (p0 > (4096 : Int)))) (by kernel_rfl) ?_; clear hr a; intro a hr
    refine op_val (wn rfl) rfl rfl hr (v := .bool (decide (p0 > (4096 : Int)))) (rp_f (b := (decide (p0 < (1 : Int)))) rfl (by kernel_rfl) (decide_eq_false c1) (by kernel_rfl)) ?_; clear hr a; intro a hr
    refine wpList_nil ?_
    refine then_normal ?_
    by_cases c2 : p0 > (4096 : Int)
    ·
      replace H := ifT c2 H
      refine cond_tt hr (b := (decide (p0 > (4096 : Int)))) (decide_eq_true c2) ?_
      refine wp_seq ?_
      refine wp_region_lit ?_
      refine ov hr (.int .i64 0) (by kernel_rfl) ?_; clear hr a; intro a hr
      refine wpList_nil ?_
      refine then_normal ?_
      refine wp_ret ?_
      refine then_ret ?_
      refine end_ret1 (v := .int .i64 0) rfl hr (by kernel_rfl) ?_
      replace H := ej1 H; subst H
      exact ⟨rfl, h⟩
    ·
      replace H := ifF c2 H
      refine cond_ff hr (b := (decide (p0 > (4096 : Int)))) (decide_eq_false c2) ?_
      refine wp_skip ?_
      refine then_normal ?_
      refine wp_seq ?_
      refine wp_region_lit ?_
      refine ovs [9, 10, 11, 2] [.int .i64 p0, .int .i64 (wi (p0 * (10 : Int))), .int .i64 (wi ((1 : Int) + (wi (p0 * (10 : Int))))), .int .i64 (wi ((1 : Int) + (wi (p0 * (10 : Int)))))] hr ⟨rfl, rfl⟩ (by kernel_rfl) ?_; clear hr a; intro a hr
      refine wpList_nil ?_
      refine then_normal ?_
      refine wp_ret ?_
      refine end_ret1 (v := .int .i64 (wi ((1 : Int) + (wi (p0 * (10 : Int)))))) rfl hr (by kernel_rfl) ?_
      replace H := ej1 H; subst H
      exact ⟨rfl, h⟩

/-- plunder/plunderlaw8.FramesNone -/
def plunderlaw8_FramesNone : Option (Bool) :=
  ob2 (frames_New 3) (fun r2 r3 => ob2 (frames_New 0) (fun r6 r7 => jn0 ((if r3 = (1 : Int) then (if r7 = (1 : Int) then (if r2 = (⟨0, 0⟩ : T_frames_Table) then (if r6 = (⟨0, 0⟩ : T_frames_Table) then some (.inl ()) else some (.inr false)) else some (.inr false)) else some (.inr false)) else some (.inr false))) (ob2 (frames_Answer (⟨0, 0, 0, 0, 0, 0, 0, 0, 0⟩ : T_frames_Op)) (fun r16 r17 => ob1 (frames_Alloc (⟨0, 1⟩ : T_frames_Table)) (fun r19 => ob2 (frames_Answer r19) (fun r22 r23 => ob1 (frames_Step r19) (fun r25 => ob2 (frames_Answer r25) (fun r27 r28 => ob1 (frames_Step (⟨0, 0, 0, 0, 0, 0, 0, 0, 0⟩ : T_frames_Op)) (fun r30 => ob2 (frames_Answer r30) (fun r32 r33 => jn0 ((if r16 = (1 : Int) then (if r17 = (0 : Int) then (if r22 = (0 : Int) then (if r23 = (0 : Int) then (if r27 = (1 : Int) then (if r28 = (0 : Int) then (if r32 = (1 : Int) then (if r33 = (0 : Int) then some (.inl ()) else some (.inr false)) else some (.inr false)) else some (.inr false)) else some (.inr false)) else some (.inr false)) else some (.inr false)) else some (.inr false)) else some (.inr false))) (ob1 (frames_Cells 0) (fun r45 => (if r45 = (0 : Int) then ob1 (frames_Cells 1) (fun r48 => (if r48 = (11 : Int) then ob1 (frames_Cells 4096) (fun r51 => (if r51 = (40961 : Int) then ob1 (frames_Cells 4097) (fun r54 => (if r54 = (0 : Int) then ob1 (frames_Cells (-1)) (fun r57 => some (r57 == (0 : Int))) else some false)) else some false)) else some false)) else some false)))))))))))))
set_option maxRecDepth 100000 in
set_option maxHeartbeats 4000000 in
theorem plunderlaw8_FramesNone_ok {z w : World} {L : List HProp}  {r0 : Bool} (H : plunderlaw8_FramesNone = some r0) (h : Fit z (sepL (L)) w)  :
    Calls Try.prog 4 #[] w fun e w => e = .returned (.bool r0) ∧ Fit z (sepL (L)) w := by
  unfold plunderlaw8_FramesNone at H
  refine enter Try.func4 rfl 111 rfl rfl [] trivial ?_
  intro j a hr
  refine wp_seq ?_
  refine wp_region_lit ?_
  refine ov hr (.bool false) (by kernel_rfl) ?_; clear hr a; intro a hr
  refine wpList_nil ?_
  refine then_normal ?_
  refine wp_seq ?_
  refine wp_region_lit ?_
  refine op_new (wn rfl) rfl rfl hr h (vf := fun b => .pointer (some ⟨b, 0, none⟩)) (cs := #[.int .i64 0, .int .i64 0, .int .i64 0, .int .i64 0, .int .i64 0, .int .i64 0, .int .i64 0, .int .i64 0, .int .i64 0]) (T := 50) (by kernel_rfl) ?_; clear h hr a; intro b1 w a h hr
  refine wpList_nil ?_
  refine then_normal ?_
  refine wp_seq ?_
  refine wp_region_lit ?_
  replace H := bd2 H; obtain ⟨r2, r3, e4, H⟩ := H
  have hc := frames_New_ok (H := e4) (h := h)
  refine op_call (wn rfl) rfl rfl hr (f := 19) (args := #[.nilIface, .int .i64 3]) (by kernel_rfl) hc ?_; clear hc h
  rintro _ w ⟨rfl, h⟩; refine ⟨_, rfl, ?_⟩
  clear hr a; intro a hr
  refine ovs [15, 17, 18] [.tuple #[.agg #[.int .i64 r2.Base, .int .i64 r2.Frames], .int .i64 r3], .agg #[.int .i64 r2.Base, .int .i64 r2.Frames], .int .i64 r3] hr ⟨rfl, rfl⟩ (by kernel_rfl) ?_; clear hr a; intro a hr
  refine op_new (wn rfl) rfl rfl hr h (vf := fun b => .pointer (some ⟨b, 0, none⟩)) (cs := #[.int .i64 0, .int .i64 0]) (T := 39) (by kernel_rfl) ?_; clear h hr a; intro b5 w a h hr
  refine op_stores (wn rfl) rfl hr rfl (by kernel_rfl) (by kernel_rfl) (vs := [.int .i64 r2.Base, .int .i64 r2.Frames]) rfl rfl (by kernel_rfl) h (i := 0) (cs' := #[.int .i64 r2.Base, .int .i64 r2.Frames]) rfl ?_; clear h; intro w h
  refine ov hr (.int .i64 r3) (by kernel_rfl) ?_; clear hr a; intro a hr
  refine wpList_nil ?_
  replace h : Fit z (sepL (ob39 b5 r2 :: pts b1 (.cells #[.int .i64 0, .int .i64 0, .int .i64 0, .int .i64 0, .int .i64 0, .int .i64 0, .int .i64 0, .int .i64 0, .int .i64 0] 50) :: L)) _ := h
  refine then_normal ?_
  refine wp_seq ?_
  refine wp_region_lit ?_
  replace H := bd2 H; obtain ⟨r6, r7, e8, H⟩ := H
  have hc := frames_New_ok (H := e8) (h := h)
  refine op_call (wn rfl) rfl rfl hr (f := 19) (args := #[.nilIface, .int .i64 0]) (by kernel_rfl) hc ?_; clear hc h
  rintro _ w ⟨rfl, h⟩; refine ⟨_, rfl, ?_⟩
  clear hr a; intro a hr
  refine ovs [19, 21, 22] [.tuple #[.agg #[.int .i64 r6.Base, .int .i64 r6.Frames], .int .i64 r7], .agg #[.int .i64 r6.Base, .int .i64 r6.Frames], .int .i64 r7] hr ⟨rfl, rfl⟩ (by kernel_rfl) ?_; clear hr a; intro a hr
  refine op_new (wn rfl) rfl rfl hr h (vf := fun b => .pointer (some ⟨b, 0, none⟩)) (cs := #[.int .i64 0, .int .i64 0]) (T := 39) (by kernel_rfl) ?_; clear h hr a; intro b9 w a h hr
  refine op_stores (wn rfl) rfl hr rfl (by kernel_rfl) (by kernel_rfl) (vs := [.int .i64 r6.Base, .int .i64 r6.Frames]) rfl rfl (by kernel_rfl) h (i := 0) (cs' := #[.int .i64 r6.Base, .int .i64 r6.Frames]) rfl ?_; clear h; intro w h
  refine ov hr (.int .i64 r7) (by kernel_rfl) ?_; clear hr a; intro a hr
  refine wpList_nil ?_
  replace h : Fit z (sepL (ob39 b9 r6 :: ob39 b5 r2 :: pts b1 (.cells #[.int .i64 0, .int .i64 0, .int .i64 0, .int .i64 0, .int .i64 0, .int .i64 0, .int .i64 0, .int .i64 0, .int .i64 0] 50) :: L)) _ := h
  refine then_normal ?_
  replace H := jd0 H; obtain ⟨o11, H, hK10⟩ := H
  refine cut_rule (β := Unit) (fun _ a w => .inl () = o11 ∧ ∃ j, Rep 111 (lk [(1, .pointer (some ⟨b1, 0, none⟩))] j) a ∧ Fit z (sepL (pts b1 (.cells #[.int .i64 0, .int .i64 0, .int .i64 0, .int .i64 0, .int .i64 0, .int .i64 0, .int .i64 0, .int .i64 0, .int .i64 0] 50) :: L)) w) ?_ ?_
  ·
    refine wp_seq ?_
    refine wp_region_lit ?_
    refine ovs [23, 24, 25] [.int .i64 r3, .bool (r3 != (1 : Int)), .bool (r3 != (1 : Int))] hr ⟨rfl, rfl⟩ (by kernel_rfl) ?_; clear hr a; intro a hr
    by_cases c12 : r3 = (1 : Int)
    ·
      replace H := ifT c12 H
      refine op_val ((wg hr rfl rfl rfl (b' := (r3 != (1 : Int))) (by kernel_rfl)).trans (by rw [show (r3 != (1 : Int)) = false from (bne_eq_false_iff_eq.mpr c12)]; rfl)) rfl rfl hr (v := .int .i64 r7) (by kernel_rfl) ?_; clear hr a; intro a hr
      refine op_val ((wg hr rfl rfl rfl (b' := (r3 != (1 : Int))) (by kernel_rfl)).trans (by rw [show (r3 != (1 : Int)) = false from (bne_eq_false_iff_eq.mpr c12)]; rfl)) rfl rfl hr (v := .bool (r7 != (1 : Int))) (by kernel_rfl) ?_; clear hr a; intro a hr
      refine op_val (wn rfl) rfl rfl hr (v := .bool (r7 != (1 : Int))) (rp_f (b := (r3 != (1 : Int))) rfl (by kernel_rfl) (bne_eq_false_iff_eq.mpr c12) (by kernel_rfl)) ?_; clear hr a; intro a hr
      refine ov hr (.bool (r7 != (1 : Int))) (by kernel_rfl) ?_; clear hr a; intro a hr
      by_cases c13 : r7 = (1 : Int)
      ·
        replace H := ifT c13 H
        refine op_val ((wg hr rfl rfl rfl (b' := (r7 != (1 : Int))) (by kernel_rfl)).trans (by rw [show (r7 != (1 : Int)) = false from (bne_eq_false_iff_eq.mpr c13)]; rfl)) rfl rfl hr (v := .agg #[.int .i64 r2.Base, .int .i64 r2.Frames]) (rlm (cs := [.int .i64 r2.Base, .int .i64 r2.Frames]) rfl (by kernel_rfl) (by kernel_rfl) (by kernel_rfl) ⟨(h.pick 1).cell 0 rfl, (h.pick 1).cell 1 rfl, trivial⟩) ?_; clear hr a; intro a hr
        refine op_val ((wg hr rfl rfl rfl (b' := (r7 != (1 : Int))) (by kernel_rfl)).trans (by rw [show (r7 != (1 : Int)) = false from (bne_eq_false_iff_eq.mpr c13)]; rfl)) rfl rfl hr (v := .agg #[.int .i64 0, .int .i64 0]) (by kernel_rfl) ?_; clear hr a; intro a hr
        refine op_val ((wg hr rfl rfl rfl (b' := (r7 != (1 : Int))) (by kernel_rfl)).trans (by rw [show (r7 != (1 : Int)) = false from (bne_eq_false_iff_eq.mpr c13)]; rfl)) rfl rfl hr (v := .bool (!(decide (r2 = (⟨0, 0⟩ : T_frames_Table))))) (rb (rne rfl (by kernel_rfl) (by kernel_rfl) (by kernel_rfl) (by kernel_rfl) (by kernel_rfl) (by kernel_rfl)) (congrArg (!·) (eq_T_frames_Table r2 (⟨0, 0⟩ : T_frames_Table)))) ?_; clear hr a; intro a hr
        refine op_val (wn rfl) rfl rfl hr (v := .bool (!(decide (r2 = (⟨0, 0⟩ : T_frames_Table))))) (rp_f (b := (r7 != (1 : Int))) rfl (by kernel_rfl) (bne_eq_false_iff_eq.mpr c13) (by kernel_rfl)) ?_; clear hr a; intro a hr
        refine ov hr (.bool (!(decide (r2 = (⟨0, 0⟩ : T_frames_Table))))) (by kernel_rfl) ?_; clear hr a; intro a hr
        by_cases c14 : r2 = (⟨0, 0⟩ : T_frames_Table)
        ·
          replace H := ifT c14 H
          refine op_val ((wg hr rfl rfl rfl (b' := (!(decide (r2 = (⟨0, 0⟩ : T_frames_Table))))) (by kernel_rfl)).trans (by rw [show (!(decide (r2 = (⟨0, 0⟩ : T_frames_Table)))) = false from (by rw [show (decide (r2 = (⟨0, 0⟩ : T_frames_Table))) = true from (decide_eq_true c14)]; rfl)]; rfl)) rfl rfl hr (v := .agg #[.int .i64 r6.Base, .int .i64 r6.Frames]) (rlm (cs := [.int .i64 r6.Base, .int .i64 r6.Frames]) rfl (by kernel_rfl) (by kernel_rfl) (by kernel_rfl) ⟨h.cell 0 rfl, h.cell 1 rfl, trivial⟩) ?_; clear hr a; intro a hr
          refine op_val ((wg hr rfl rfl rfl (b' := (!(decide (r2 = (⟨0, 0⟩ : T_frames_Table))))) (by kernel_rfl)).trans (by rw [show (!(decide (r2 = (⟨0, 0⟩ : T_frames_Table)))) = false from (by rw [show (decide (r2 = (⟨0, 0⟩ : T_frames_Table))) = true from (decide_eq_true c14)]; rfl)]; rfl)) rfl rfl hr (v := .agg #[.int .i64 0, .int .i64 0]) (by kernel_rfl) ?_; clear hr a; intro a hr
          refine op_val ((wg hr rfl rfl rfl (b' := (!(decide (r2 = (⟨0, 0⟩ : T_frames_Table))))) (by kernel_rfl)).trans (by rw [show (!(decide (r2 = (⟨0, 0⟩ : T_frames_Table)))) = false from (by rw [show (decide (r2 = (⟨0, 0⟩ : T_frames_Table))) = true from (decide_eq_true c14)]; rfl)]; rfl)) rfl rfl hr (v := .bool (!(decide (r6 = (⟨0, 0⟩ : T_frames_Table))))) (rb (rne rfl (by kernel_rfl) (by kernel_rfl) (by kernel_rfl) (by kernel_rfl) (by kernel_rfl) (by kernel_rfl)) (congrArg (!·) (eq_T_frames_Table r6 (⟨0, 0⟩ : T_frames_Table)))) ?_; clear hr a; intro a hr
          refine op_val (wn rfl) rfl rfl hr (v := .bool (!(decide (r6 = (⟨0, 0⟩ : T_frames_Table))))) (rp_f (b := (!(decide (r2 = (⟨0, 0⟩ : T_frames_Table))))) rfl (by kernel_rfl) (by rw [show (decide (r2 = (⟨0, 0⟩ : T_frames_Table))) = true from (decide_eq_true c14)]; rfl) (by kernel_rfl)) ?_; clear hr a; intro a hr
          refine wpList_nil ?_
          refine then_normal ?_
          by_cases c15 : r6 = (⟨0, 0⟩ : T_frames_Table)
          ·
            replace H := ifT c15 H
            refine cond_ff hr (b := (!(decide (r6 = (⟨0, 0⟩ : T_frames_Table))))) (by rw [show (decide (r6 = (⟨0, 0⟩ : T_frames_Table))) = true from (decide_eq_true c15)]; rfl) ?_
            refine wp_skip ?_
            refine then_normal ?_
            replace hr := hr.fold2 [(1, .pointer (some ⟨b1, 0, none⟩))] (by kernel_rfl); obtain ⟨j, hr⟩ := hr
            replace h : Fit z (sepL (pts b1 (.cells #[.int .i64 0, .int .i64 0, .int .i64 0, .int .i64 0, .int .i64 0, .int .i64 0, .int .i64 0, .int .i64 0, .int .i64 0] 50) :: L)) _ := h.sel 3 [2] (by kernel_rfl) (by kernel_rfl)
            exact ⟨(), sinj H, j, hr, h⟩
          ·
            replace H := ifF c15 H
            refine cond_tt hr (b := (!(decide (r6 = (⟨0, 0⟩ : T_frames_Table))))) (by rw [show (decide (r6 = (⟨0, 0⟩ : T_frames_Table))) = false from (decide_eq_false c15)]; rfl) ?_
            refine wp_seq ?_
            refine wp_region_lit ?_
            refine ov hr (.bool false) (by kernel_rfl) ?_; clear hr a; intro a hr
            refine wpList_nil ?_
            refine then_normal ?_
            refine wp_ret ?_
            refine then_ret ?_
            refine end_ret1 (v := .bool false) rfl hr (by kernel_rfl) ?_
            replace H := jx0 H hK10
            replace h : Fit z (sepL (L)) _ := h.sel 3 [] (by kernel_rfl) (by kernel_rfl)
            replace H := ej1 H; subst H
            exact ⟨rfl, h⟩
        ·
          replace H := ifF c14 H
          refine op_off ((wg hr rfl rfl rfl (b' := (!(decide (r2 = (⟨0, 0⟩ : T_frames_Table))))) (by kernel_rfl)).trans (by rw [show (!(decide (r2 = (⟨0, 0⟩ : T_frames_Table)))) = true from (by rw [show (decide (r2 = (⟨0, 0⟩ : T_frames_Table))) = false from (decide_eq_false c14)]; rfl)]; rfl)) rfl rfl hr ?_; clear hr a; intro a hr
          refine op_off ((wg hr rfl rfl rfl (b' := (!(decide (r2 = (⟨0, 0⟩ : T_frames_Table))))) (by kernel_rfl)).trans (by rw [show (!(decide (r2 = (⟨0, 0⟩ : T_frames_Table)))) = true from (by rw [show (decide (r2 = (⟨0, 0⟩ : T_frames_Table))) = false from (decide_eq_false c14)]; rfl)]; rfl)) rfl rfl hr ?_; clear hr a; intro a hr
          refine op_off ((wg hr rfl rfl rfl (b' := (!(decide (r2 = (⟨0, 0⟩ : T_frames_Table))))) (by kernel_rfl)).trans (by rw [show (!(decide (r2 = (⟨0, 0⟩ : T_frames_Table)))) = true from (by rw [show (decide (r2 = (⟨0, 0⟩ : T_frames_Table))) = false from (decide_eq_false c14)]; rfl)]; rfl)) rfl rfl hr ?_; clear hr a; intro a hr
          refine op_val (wn rfl) rfl rfl hr (v := .bool true) (rp_t (b := (!(decide (r2 = (⟨0, 0⟩ : T_frames_Table))))) rfl (by kernel_rfl) (by rw [show (decide (r2 = (⟨0, 0⟩ : T_frames_Table))) = false from (decide_eq_false c14)]; rfl) (by kernel_rfl)) ?_; clear hr a; intro a hr
          refine wpList_nil ?_
          refine then_normal ?_
          refine cond_tt hr (b := true) rfl ?_
          refine wp_seq ?_
          refine wp_region_lit ?_
          refine ov hr (.bool false) (by kernel_rfl) ?_; clear hr a; intro a hr
          refine wpList_nil ?_
          refine then_normal ?_
          refine wp_ret ?_
          refine then_ret ?_
          refine end_ret1 (v := .bool false) rfl hr (by kernel_rfl) ?_
          replace H := jx0 H hK10
          replace h : Fit z (sepL (L)) _ := h.sel 3 [] (by kernel_rfl) (by kernel_rfl)
          replace H := ej1 H; subst H
          exact ⟨rfl, h⟩
      ·
        replace H := ifF c13 H
        refine op_off ((wg hr rfl rfl rfl (b' := (r7 != (1 : Int))) (by kernel_rfl)).trans (by rw [show (r7 != (1 : Int)) = true from (bne_iff_ne.mpr c13)]; rfl)) rfl rfl hr ?_; clear hr a; intro a hr
        refine op_off ((wg hr rfl rfl rfl (b' := (r7 != (1 : Int))) (by kernel_rfl)).trans (by rw [show (r7 != (1 : Int)) = true from (bne_iff_ne.mpr c13)]; rfl)) rfl rfl hr ?_; clear hr a; intro a hr
        refine op_off ((wg hr rfl rfl rfl (b' := (r7 != (1 : Int))) (by kernel_rfl)).trans (by rw [show (r7 != (1 : Int)) = true from (bne_iff_ne.mpr c13)]; rfl)) rfl rfl hr ?_; clear hr a; intro a hr
        refine op_val (wn rfl) rfl rfl hr (v := .bool true) (rp_t (b := (r7 != (1 : Int))) rfl (by kernel_rfl) (bne_iff_ne.mpr c13) (by kernel_rfl)) ?_; clear hr a; intro a hr
        refine ov hr (.bool true) (by kernel_rfl) ?_; clear hr a; intro a hr
        refine op_off ((wg hr rfl rfl rfl (b' := true) (by kernel_rfl)).trans rfl) rfl rfl hr ?_; clear hr a; intro a hr
        refine op_off ((wg hr rfl rfl rfl (b' := true) (by kernel_rfl)).trans rfl) rfl rfl hr ?_; clear hr a; intro a hr
        refine op_off ((wg hr rfl rfl rfl (b' := true) (by kernel_rfl)).trans rfl) rfl rfl hr ?_; clear hr a; intro a hr
        refine ov hr (.bool true) (by kernel_rfl) ?_; clear hr a; intro a hr
        refine wpList_nil ?_
        refine then_normal ?_
        refine cond_tt hr (b := true) rfl ?_
        refine wp_seq ?_
        refine wp_region_lit ?_
        refine ov hr (.bool false) (by kernel_rfl) ?_; clear hr a; intro a hr
        refine wpList_nil ?_
        refine then_normal ?_
        refine wp_ret ?_
        refine then_ret ?_
        refine end_ret1 (v := .bool false) rfl hr (by kernel_rfl) ?_
        replace H := jx0 H hK10
        replace h : Fit z (sepL (L)) _ := h.sel 3 [] (by kernel_rfl) (by kernel_rfl)
        replace H := ej1 H; subst H
        exact ⟨rfl, h⟩
    ·
      replace H := ifF c12 H
      refine op_off ((wg hr rfl rfl rfl (b' := (r3 != (1 : Int))) (by kernel_rfl)).trans (by rw [show (r3 != (1 : Int)) = true from (bne_iff_ne.mpr c12)]; rfl)) rfl rfl hr ?_; clear hr a; intro a hr
      refine op_off ((wg hr rfl rfl rfl (b' := (r3 != (1 : Int))) (by kernel_rfl)).trans (by rw [show (r3 != (1 : Int)) = true from (bne_iff_ne.mpr c12)]; rfl)) rfl rfl hr ?_; clear hr a; intro a hr
      refine op_val (wn rfl) rfl rfl hr (v := .bool true) (rp_t (b := (r3 != (1 : Int))) rfl (by kernel_rfl) (bne_iff_ne.mpr c12) (by kernel_rfl)) ?_; clear hr a; intro a hr
      refine ov hr (.bool true) (by kernel_rfl) ?_; clear hr a; intro a hr
      refine op_off ((wg hr rfl rfl rfl (b' := true) (by kernel_rfl)).trans rfl) rfl rfl hr ?_; clear hr a; intro a hr
      refine op_off ((wg hr rfl rfl rfl (b' := true) (by kernel_rfl)).trans rfl) rfl rfl hr ?_; clear hr a; intro a hr
      refine op_off ((wg hr rfl rfl rfl (b' := true) (by kernel_rfl)).trans rfl) rfl rfl hr ?_; clear hr a; intro a hr
      refine ovs [33, 34] [.bool true, .bool true] hr ⟨rfl, rfl⟩ (by kernel_rfl) ?_; clear hr a; intro a hr
      refine op_off ((wg hr rfl rfl rfl (b' := true) (by kernel_rfl)).trans rfl) rfl rfl hr ?_; clear hr a; intro a hr
      refine op_off ((wg hr rfl rfl rfl (b' := true) (by kernel_rfl)).trans rfl) rfl rfl hr ?_; clear hr a; intro a hr
      refine op_off ((wg hr rfl rfl rfl (b' := true) (by kernel_rfl)).trans rfl) rfl rfl hr ?_; clear hr a; intro a hr
      refine ov hr (.bool true) (by kernel_rfl) ?_; clear hr a; intro a hr
      refine wpList_nil ?_
      refine then_normal ?_
      refine cond_tt hr (b := true) rfl ?_
      refine wp_seq ?_
      refine wp_region_lit ?_
      refine ov hr (.bool false) (by kernel_rfl) ?_; clear hr a; intro a hr
      refine wpList_nil ?_
      refine then_normal ?_
      refine wp_ret ?_
      refine then_ret ?_
      refine end_ret1 (v := .bool false) rfl hr (by kernel_rfl) ?_
      replace H := jx0 H hK10
      replace h : Fit z (sepL (L)) _ := h.sel 3 [] (by kernel_rfl) (by kernel_rfl)
      replace H := ej1 H; subst H
      exact ⟨rfl, h⟩
  clear h hr a; rintro _ a w ⟨rfl, j, hr, h⟩
  replace H := jk0 hK10
  refine wp_seq ?_
  refine wp_region_lit ?_
  refine op_val (wn rfl) rfl rfl hr (v := .agg #[.int .i64 0, .int .i64 0, .int .i64 0, .int .i64 0, .int .i64 0, .int .i64 0, .int .i64 0, .int .i64 0, .int .i64 0]) (rlm (cs := [.int .i64 0, .int .i64 0, .int .i64 0, .int .i64 0, .int .i64 0, .int .i64 0, .int .i64 0, .int .i64 0, .int .i64 0]) rfl (by kernel_rfl) (by kernel_rfl) (by kernel_rfl) ⟨h.cell 0 rfl, h.cell 1 rfl, h.cell 2 rfl, h.cell 3 rfl, h.cell 4 rfl, h.cell 5 rfl, h.cell 6 rfl, h.cell 7 rfl, h.cell 8 rfl, trivial⟩) ?_; clear hr a; intro a hr
  replace H := bd2 H; obtain ⟨r16, r17, e18, H⟩ := H
  have hc := frames_Answer_ok (H := e18) (h := h)
  refine op_call (wn rfl) rfl rfl hr (f := 26) (args := #[.agg #[.int .i64 0, .int .i64 0, .int .i64 0, .int .i64 0, .int .i64 0, .int .i64 0, .int .i64 0, .int .i64 0, .int .i64 0]]) (by kernel_rfl) hc ?_; clear hc h
  rintro _ w ⟨rfl, h⟩; refine ⟨_, rfl, ?_⟩
  clear hr a; intro a hr
  refine ovs [39, 42, 43, 6, 7] [.tuple #[.int .i64 r16, .int .i64 r17], .int .i64 r16, .int .i64 r17, .int .i64 r16, .int .i64 r17] hr ⟨rfl, rfl⟩ (by kernel_rfl) ?_; clear hr a; intro a hr
  refine wpList_nil ?_
  refine then_normal ?_
  refine wp_seq ?_
  refine wp_region_lit ?_
  replace H := bd1 H; obtain ⟨r19, e20, H⟩ := H
  refine ov hr (.agg #[.int .i64 0, .int .i64 1]) (by kernel_rfl) ?_; clear hr a; intro a hr
  have hc := frames_Alloc_ok (H := e20) (h := h)
  refine op_call (wn rfl) rfl rfl hr (f := 27) (args := #[.agg #[.int .i64 0, .int .i64 1]]) (by kernel_rfl) hc ?_; clear hc h
  rintro _ w ⟨rfl, h⟩; refine ⟨_, rfl, ?_⟩
  clear hr a; intro a hr
  refine op_new (wn rfl) rfl rfl hr h (vf := fun b => .pointer (some ⟨b, 0, none⟩)) (cs := #[.int .i64 0, .int .i64 0, .int .i64 0, .int .i64 0, .int .i64 0, .int .i64 0, .int .i64 0, .int .i64 0, .int .i64 0]) (T := 50) (by kernel_rfl) ?_; clear h hr a; intro b21 w a h hr
  refine op_stores (wn rfl) rfl hr rfl (by kernel_rfl) (by kernel_rfl) (vs := [.int .i64 r19.head_t_Base, .int .i64 r19.head_t_Frames, .int .i64 r19.head_frame, .int .i64 r19.head_stands, .int .i64 r19.head_code, .int .i64 r19.head_v, .int .i64 r19.kind, .int .i64 r19.slot, .int .i64 r19.give]) rfl rfl (by kernel_rfl) h (i := 0) (cs' := #[.int .i64 r19.head_t_Base, .int .i64 r19.head_t_Frames, .int .i64 r19.head_frame, .int .i64 r19.head_stands, .int .i64 r19.head_code, .int .i64 r19.head_v, .int .i64 r19.kind, .int .i64 r19.slot, .int .i64 r19.give]) rfl ?_; clear h; intro w h
  refine wpList_nil ?_
  replace h : Fit z (sepL (ob50 b21 r19 :: pts b1 (.cells #[.int .i64 0, .int .i64 0, .int .i64 0, .int .i64 0, .int .i64 0, .int .i64 0, .int .i64 0, .int .i64 0, .int .i64 0] 50) :: L)) _ := h
  refine then_normal ?_
  refine wp_seq ?_
  refine wp_region_lit ?_
  refine op_val (wn rfl) rfl rfl hr (v := .agg #[.int .i64 r19.head_t_Base, .int .i64 r19.head_t_Frames, .int .i64 r19.head_frame, .int .i64 r19.head_stands, .int .i64 r19.head_code, .int .i64 r19.head_v, .int .i64 r19.kind, .int .i64 r19.slot, .int .i64 r19.give]) (rlm (cs := [.int .i64 r19.head_t_Base, .int .i64 r19.head_t_Frames, .int .i64 r19.head_frame, .int .i64 r19.head_stands, .int .i64 r19.head_code, .int .i64 r19.head_v, .int .i64 r19.kind, .int .i64 r19.slot, .int .i64 r19.give]) rfl (by kernel_rfl) (by kernel_rfl) (by kernel_rfl) ⟨h.cell 0 rfl, h.cell 1 rfl, h.cell 2 rfl, h.cell 3 rfl, h.cell 4 rfl, h.cell 5 rfl, h.cell 6 rfl, h.cell 7 rfl, h.cell 8 rfl, trivial⟩) ?_; clear hr a; intro a hr
  replace H := bd2 H; obtain ⟨r22, r23, e24, H⟩ := H
  have hc := frames_Answer_ok (H := e24) (h := h)
  refine op_call (wn rfl) rfl rfl hr (f := 26) (args := #[.agg #[.int .i64 r19.head_t_Base, .int .i64 r19.head_t_Frames, .int .i64 r19.head_frame, .int .i64 r19.head_stands, .int .i64 r19.head_code, .int .i64 r19.head_v, .int .i64 r19.kind, .int .i64 r19.slot, .int .i64 r19.give]]) (by kernel_rfl) hc ?_; clear hc h
  rintro _ w ⟨rfl, h⟩; refine ⟨_, rfl, ?_⟩
  clear hr a; intro a hr
  refine ovs [46, 49, 50, 9, 10] [.tuple #[.int .i64 r22, .int .i64 r23], .int .i64 r22, .int .i64 r23, .int .i64 r22, .int .i64 r23] hr ⟨rfl, rfl⟩ (by kernel_rfl) ?_; clear hr a; intro a hr
  refine wpList_nil ?_
  refine then_normal ?_
  refine wp_seq ?_
  refine wp_region_lit ?_
  refine op_val (wn rfl) rfl rfl hr (v := .agg #[.int .i64 r19.head_t_Base, .int .i64 r19.head_t_Frames, .int .i64 r19.head_frame, .int .i64 r19.head_stands, .int .i64 r19.head_code, .int .i64 r19.head_v, .int .i64 r19.kind, .int .i64 r19.slot, .int .i64 r19.give]) (rlm (cs := [.int .i64 r19.head_t_Base, .int .i64 r19.head_t_Frames, .int .i64 r19.head_frame, .int .i64 r19.head_stands, .int .i64 r19.head_code, .int .i64 r19.head_v, .int .i64 r19.kind, .int .i64 r19.slot, .int .i64 r19.give]) rfl (by kernel_rfl) (by kernel_rfl) (by kernel_rfl) ⟨h.cell 0 rfl, h.cell 1 rfl, h.cell 2 rfl, h.cell 3 rfl, h.cell 4 rfl, h.cell 5 rfl, h.cell 6 rfl, h.cell 7 rfl, h.cell 8 rfl, trivial⟩) ?_; clear hr a; intro a hr
  replace H := bd1 H; obtain ⟨r25, e26, H⟩ := H
  have hc := frames_Step_ok (H := e26) (h := h)
  refine op_call (wn rfl) rfl rfl hr (f := 28) (args := #[.nilIface, .agg #[.int .i64 r19.head_t_Base, .int .i64 r19.head_t_Frames, .int .i64 r19.head_frame, .int .i64 r19.head_stands, .int .i64 r19.head_code, .int .i64 r19.head_v, .int .i64 r19.kind, .int .i64 r19.slot, .int .i64 r19.give]]) (by kernel_rfl) hc ?_; clear hc h
  rintro _ w ⟨rfl, h⟩; refine ⟨_, rfl, ?_⟩
  clear hr a; intro a hr
  replace H := bd2 H; obtain ⟨r27, r28, e29, H⟩ := H
  have hc := frames_Answer_ok (H := e29) (h := h)
  refine op_call (wn rfl) rfl rfl hr (f := 26) (args := #[.agg #[.int .i64 r25.head_t_Base, .int .i64 r25.head_t_Frames, .int .i64 r25.head_frame, .int .i64 r25.head_stands, .int .i64 r25.head_code, .int .i64 r25.head_v, .int .i64 r25.kind, .int .i64 r25.slot, .int .i64 r25.give]]) (by kernel_rfl) hc ?_; clear hc h
  rintro _ w ⟨rfl, h⟩; refine ⟨_, rfl, ?_⟩
  clear hr a; intro a hr
  refine ovs [51, 55, 56, 11, 12] [.tuple #[.int .i64 r27, .int .i64 r28], .int .i64 r27, .int .i64 r28, .int .i64 r27, .int .i64 r28] hr ⟨rfl, rfl⟩ (by kernel_rfl) ?_; clear hr a; intro a hr
  refine wpList_nil ?_
  refine then_normal ?_
  refine wp_seq ?_
  refine wp_region_lit ?_
  refine op_val (wn rfl) rfl rfl hr (v := .agg #[.int .i64 0, .int .i64 0, .int .i64 0, .int .i64 0, .int .i64 0, .int .i64 0, .int .i64 0, .int .i64 0, .int .i64 0]) (rlm (cs := [.int .i64 0, .int .i64 0, .int .i64 0, .int .i64 0, .int .i64 0, .int .i64 0, .int .i64 0, .int .i64 0, .int .i64 0]) rfl (by kernel_rfl) (by kernel_rfl) (by kernel_rfl) ⟨(h.pick 1).cell 0 rfl, (h.pick 1).cell 1 rfl, (h.pick 1).cell 2 rfl, (h.pick 1).cell 3 rfl, (h.pick 1).cell 4 rfl, (h.pick 1).cell 5 rfl, (h.pick 1).cell 6 rfl, (h.pick 1).cell 7 rfl, (h.pick 1).cell 8 rfl, trivial⟩) ?_; clear hr a; intro a hr
  replace H := bd1 H; obtain ⟨r30, e31, H⟩ := H
  have hc := frames_Step_ok (H := e31) (h := h)
  refine op_call (wn rfl) rfl rfl hr (f := 28) (args := #[.nilIface, .agg #[.int .i64 0, .int .i64 0, .int .i64 0, .int .i64 0, .int .i64 0, .int .i64 0, .int .i64 0, .int .i64 0, .int .i64 0]]) (by kernel_rfl) hc ?_; clear hc h
  rintro _ w ⟨rfl, h⟩; refine ⟨_, rfl, ?_⟩
  clear hr a; intro a hr
  replace H := bd2 H; obtain ⟨r32, r33, e34, H⟩ := H
  have hc := frames_Answer_ok (H := e34) (h := h)
  refine op_call (wn rfl) rfl rfl hr (f := 26) (args := #[.agg #[.int .i64 r30.head_t_Base, .int .i64 r30.head_t_Frames, .int .i64 r30.head_frame, .int .i64 r30.head_stands, .int .i64 r30.head_code, .int .i64 r30.head_v, .int .i64 r30.kind, .int .i64 r30.slot, .int .i64 r30.give]]) (by kernel_rfl) hc ?_; clear hc h
  rintro _ w ⟨rfl, h⟩; refine ⟨_, rfl, ?_⟩
  clear hr a; intro a hr
  refine ovs [57, 61, 62, 13, 14] [.tuple #[.int .i64 r32, .int .i64 r33], .int .i64 r32, .int .i64 r33, .int .i64 r32, .int .i64 r33] hr ⟨rfl, rfl⟩ (by kernel_rfl) ?_; clear hr a; intro a hr
  refine wpList_nil ?_
  refine then_normal ?_
  replace H := jd0 H; obtain ⟨o36, H, hK35⟩ := H
  refine cut_rule (β := Unit) (fun _ a w => .inl () = o36 ∧ ∃ j, Rep 111 (lk [] j) a ∧ Fit z (sepL (L)) w) ?_ ?_
  ·
    refine wp_seq ?_
    refine wp_region_lit ?_
    refine ovs [63, 64, 65] [.int .i64 r16, .bool (r16 != (1 : Int)), .bool (r16 != (1 : Int))] hr ⟨rfl, rfl⟩ (by kernel_rfl) ?_; clear hr a; intro a hr
    by_cases c37 : r16 = (1 : Int)
    ·
      replace H := ifT c37 H
      refine op_val ((wg hr rfl rfl rfl (b' := (r16 != (1 : Int))) (by kernel_rfl)).trans (by rw [show (r16 != (1 : Int)) = false from (bne_eq_false_iff_eq.mpr c37)]; rfl)) rfl rfl hr (v := .int .i64 r17) (by kernel_rfl) ?_; clear hr a; intro a hr
      refine op_val ((wg hr rfl rfl rfl (b' := (r16 != (1 : Int))) (by kernel_rfl)).trans (by rw [show (r16 != (1 : Int)) = false from (bne_eq_false_iff_eq.mpr c37)]; rfl)) rfl rfl hr (v := .bool (r17 != (0 : Int))) (by kernel_rfl) ?_; clear hr a; intro a hr
      refine op_val (wn rfl) rfl rfl hr (v := .bool (r17 != (0 : Int))) (rp_f (b := (r16 != (1 : Int))) rfl (by kernel_rfl) (bne_eq_false_iff_eq.mpr c37) (by kernel_rfl)) ?_; clear hr a; intro a hr
      refine ov hr (.bool (r17 != (0 : Int))) (by kernel_rfl) ?_; clear hr a; intro a hr
      by_cases c38 : r17 = (0 : Int)
      ·
        replace H := ifT c38 H
        refine op_val ((wg hr rfl rfl rfl (b' := (r17 != (0 : Int))) (by kernel_rfl)).trans (by rw [show (r17 != (0 : Int)) = false from (bne_eq_false_iff_eq.mpr c38)]; rfl)) rfl rfl hr (v := .int .i64 r22) (by kernel_rfl) ?_; clear hr a; intro a hr
        refine op_val ((wg hr rfl rfl rfl (b' := (r17 != (0 : Int))) (by kernel_rfl)).trans (by rw [show (r17 != (0 : Int)) = false from (bne_eq_false_iff_eq.mpr c38)]; rfl)) rfl rfl hr (v := .bool (r22 != (0 : Int))) (by kernel_rfl) ?_; clear hr a; intro a hr
        refine op_val (wn rfl) rfl rfl hr (v := .bool (r22 != (0 : Int))) (rp_f (b := (r17 != (0 : Int))) rfl (by kernel_rfl) (bne_eq_false_iff_eq.mpr c38) (by kernel_rfl)) ?_; clear hr a; intro a hr
        refine ov hr (.bool (r22 != (0 : Int))) (by kernel_rfl) ?_; clear hr a; intro a hr
        by_cases c39 : r22 = (0 : Int)
        ·
          replace H := ifT c39 H
          refine op_val ((wg hr rfl rfl rfl (b' := (r22 != (0 : Int))) (by kernel_rfl)).trans (by rw [show (r22 != (0 : Int)) = false from (bne_eq_false_iff_eq.mpr c39)]; rfl)) rfl rfl hr (v := .int .i64 r23) (by kernel_rfl) ?_; clear hr a; intro a hr
          refine op_val ((wg hr rfl rfl rfl (b' := (r22 != (0 : Int))) (by kernel_rfl)).trans (by rw [show (r22 != (0 : Int)) = false from (bne_eq_false_iff_eq.mpr c39)]; rfl)) rfl rfl hr (v := .bool (r23 != (0 : Int))) (by kernel_rfl) ?_; clear hr a; intro a hr
          refine op_val (wn rfl) rfl rfl hr (v := .bool (r23 != (0 : Int))) (rp_f (b := (r22 != (0 : Int))) rfl (by kernel_rfl) (bne_eq_false_iff_eq.mpr c39) (by kernel_rfl)) ?_; clear hr a; intro a hr
          refine ov hr (.bool (r23 != (0 : Int))) (by kernel_rfl) ?_; clear hr a; intro a hr
          by_cases c40 : r23 = (0 : Int)
          ·
            replace H := ifT c40 H
            refine op_val ((wg hr rfl rfl rfl (b' := (r23 != (0 : Int))) (by kernel_rfl)).trans (by rw [show (r23 != (0 : Int)) = false from (bne_eq_false_iff_eq.mpr c40)]; rfl)) rfl rfl hr (v := .int .i64 r27) (by kernel_rfl) ?_; clear hr a; intro a hr
            refine op_val ((wg hr rfl rfl rfl (b' := (r23 != (0 : Int))) (by kernel_rfl)).trans (by rw [show (r23 != (0 : Int)) = false from (bne_eq_false_iff_eq.mpr c40)]; rfl)) rfl rfl hr (v := .bool (r27 != (1 : Int))) (by kernel_rfl) ?_; clear hr a; intro a hr
            refine op_val (wn rfl) rfl rfl hr (v := .bool (r27 != (1 : Int))) (rp_f (b := (r23 != (0 : Int))) rfl (by kernel_rfl) (bne_eq_false_iff_eq.mpr c40) (by kernel_rfl)) ?_; clear hr a; intro a hr
            refine ov hr (.bool (r27 != (1 : Int))) (by kernel_rfl) ?_; clear hr a; intro a hr
            by_cases c41 : r27 = (1 : Int)
            ·
              replace H := ifT c41 H
              refine op_val ((wg hr rfl rfl rfl (b' := (r27 != (1 : Int))) (by kernel_rfl)).trans (by rw [show (r27 != (1 : Int)) = false from (bne_eq_false_iff_eq.mpr c41)]; rfl)) rfl rfl hr (v := .int .i64 r28) (by kernel_rfl) ?_; clear hr a; intro a hr
              refine op_val ((wg hr rfl rfl rfl (b' := (r27 != (1 : Int))) (by kernel_rfl)).trans (by rw [show (r27 != (1 : Int)) = false from (bne_eq_false_iff_eq.mpr c41)]; rfl)) rfl rfl hr (v := .bool (r28 != (0 : Int))) (by kernel_rfl) ?_; clear hr a; intro a hr
              refine op_val (wn rfl) rfl rfl hr (v := .bool (r28 != (0 : Int))) (rp_f (b := (r27 != (1 : Int))) rfl (by kernel_rfl) (bne_eq_false_iff_eq.mpr c41) (by kernel_rfl)) ?_; clear hr a; intro a hr
              refine ov hr (.bool (r28 != (0 : Int))) (by kernel_rfl) ?_; clear hr a; intro a hr
              by_cases c42 : r28 = (0 : Int)
              ·
                replace H := ifT c42 H
                refine op_val ((wg hr rfl rfl rfl (b' := (r28 != (0 : Int))) (by kernel_rfl)).trans (by rw [show (r28 != (0 : Int)) = false from (bne_eq_false_iff_eq.mpr c42)]; rfl)) rfl rfl hr (v := .int .i64 r32) (by kernel_rfl) ?_; clear hr a; intro a hr
                refine op_val ((wg hr rfl rfl rfl (b' := (r28 != (0 : Int))) (by kernel_rfl)).trans (by rw [show (r28 != (0 : Int)) = false from (bne_eq_false_iff_eq.mpr c42)]; rfl)) rfl rfl hr (v := .bool (r32 != (1 : Int))) (by kernel_rfl) ?_; clear hr a; intro a hr
                refine op_val (wn rfl) rfl rfl hr (v := .bool (r32 != (1 : Int))) (rp_f (b := (r28 != (0 : Int))) rfl (by kernel_rfl) (bne_eq_false_iff_eq.mpr c42) (by kernel_rfl)) ?_; clear hr a; intro a hr
                refine ov hr (.bool (r32 != (1 : Int))) (by kernel_rfl) ?_; clear hr a; intro a hr
                by_cases c43 : r32 = (1 : Int)
                ·
                  replace H := ifT c43 H
                  refine op_val ((wg hr rfl rfl rfl (b' := (r32 != (1 : Int))) (by kernel_rfl)).trans (by rw [show (r32 != (1 : Int)) = false from (bne_eq_false_iff_eq.mpr c43)]; rfl)) rfl rfl hr (v := .int .i64 r33) (by kernel_rfl) ?_; clear hr a; intro a hr
                  refine op_val ((wg hr rfl rfl rfl (b' := (r32 != (1 : Int))) (by kernel_rfl)).trans (by rw [show (r32 != (1 : Int)) = false from (bne_eq_false_iff_eq.mpr c43)]; rfl)) rfl rfl hr (v := .bool (r33 != (0 : Int))) (by kernel_rfl) ?_; clear hr a; intro a hr
                  refine op_val (wn rfl) rfl rfl hr (v := .bool (r33 != (0 : Int))) (rp_f (b := (r32 != (1 : Int))) rfl (by kernel_rfl) (bne_eq_false_iff_eq.mpr c43) (by kernel_rfl)) ?_; clear hr a; intro a hr
                  refine wpList_nil ?_
                  refine then_normal ?_
                  by_cases c44 : r33 = (0 : Int)
                  ·
                    replace H := ifT c44 H
                    refine cond_ff hr (b := (r33 != (0 : Int))) (bne_eq_false_iff_eq.mpr c44) ?_
                    refine wp_skip ?_
                    refine then_normal ?_
                    replace hr := hr.fold2 [] (by kernel_rfl); obtain ⟨j, hr⟩ := hr
                    replace h : Fit z (sepL (L)) _ := h.sel 2 [] (by kernel_rfl) (by kernel_rfl)
                    exact ⟨(), sinj H, j, hr, h⟩
                  ·
                    replace H := ifF c44 H
                    refine cond_tt hr (b := (r33 != (0 : Int))) (bne_iff_ne.mpr c44) ?_
                    refine wp_seq ?_
                    refine wp_region_lit ?_
                    refine ov hr (.bool false) (by kernel_rfl) ?_; clear hr a; intro a hr
                    refine wpList_nil ?_
                    refine then_normal ?_
                    refine wp_ret ?_
                    refine then_ret ?_
                    refine end_ret1 (v := .bool false) rfl hr (by kernel_rfl) ?_
                    replace H := jx0 H hK35
                    replace h : Fit z (sepL (L)) _ := h.sel 2 [] (by kernel_rfl) (by kernel_rfl)
                    replace H := ej1 H; subst H
                    exact ⟨rfl, h⟩
                ·
                  replace H := ifF c43 H
                  refine op_off ((wg hr rfl rfl rfl (b' := (r32 != (1 : Int))) (by kernel_rfl)).trans (by rw [show (r32 != (1 : Int)) = true from (bne_iff_ne.mpr c43)]; rfl)) rfl rfl hr ?_; clear hr a; intro a hr
                  refine op_off ((wg hr rfl rfl rfl (b' := (r32 != (1 : Int))) (by kernel_rfl)).trans (by rw [show (r32 != (1 : Int)) = true from (bne_iff_ne.mpr c43)]; rfl)) rfl rfl hr ?_; clear hr a; intro a hr
                  refine op_val (wn rfl) rfl rfl hr (v := .bool true) (rp_t (b := (r32 != (1 : Int))) rfl (by kernel_rfl) (bne_iff_ne.mpr c43) (by kernel_rfl)) ?_; clear hr a; intro a hr
                  refine wpList_nil ?_
                  refine then_normal ?_
                  refine cond_tt hr (b := true) rfl ?_
                  refine wp_seq ?_
                  refine wp_region_lit ?_
                  refine ov hr (.bool false) (by kernel_rfl) ?_; clear hr a; intro a hr
                  refine wpList_nil ?_
                  refine then_normal ?_
                  refine wp_ret ?_
                  refine then_ret ?_
                  refine end_ret1 (v := .bool false) rfl hr (by kernel_rfl) ?_
                  replace H := jx0 H hK35
                  replace h : Fit z (sepL (L)) _ := h.sel 2 [] (by kernel_rfl) (by kernel_rfl)
                  replace H := ej1 H; subst H
                  exact ⟨rfl, h⟩
              ·
                replace H := ifF c42 H
                refine op_off ((wg hr rfl rfl rfl (b' := (r28 != (0 : Int))) (by kernel_rfl)).trans (by rw [show (r28 != (0 : Int)) = true from (bne_iff_ne.mpr c42)]; rfl)) rfl rfl hr ?_; clear hr a; intro a hr
                refine op_off ((wg hr rfl rfl rfl (b' := (r28 != (0 : Int))) (by kernel_rfl)).trans (by rw [show (r28 != (0 : Int)) = true from (bne_iff_ne.mpr c42)]; rfl)) rfl rfl hr ?_; clear hr a; intro a hr
                refine op_val (wn rfl) rfl rfl hr (v := .bool true) (rp_t (b := (r28 != (0 : Int))) rfl (by kernel_rfl) (bne_iff_ne.mpr c42) (by kernel_rfl)) ?_; clear hr a; intro a hr
                refine ov hr (.bool true) (by kernel_rfl) ?_; clear hr a; intro a hr
                refine op_off ((wg hr rfl rfl rfl (b' := true) (by kernel_rfl)).trans rfl) rfl rfl hr ?_; clear hr a; intro a hr
                refine op_off ((wg hr rfl rfl rfl (b' := true) (by kernel_rfl)).trans rfl) rfl rfl hr ?_; clear hr a; intro a hr
                refine ov hr (.bool true) (by kernel_rfl) ?_; clear hr a; intro a hr
                refine wpList_nil ?_
                refine then_normal ?_
                refine cond_tt hr (b := true) rfl ?_
                refine wp_seq ?_
                refine wp_region_lit ?_
                refine ov hr (.bool false) (by kernel_rfl) ?_; clear hr a; intro a hr
                refine wpList_nil ?_
                refine then_normal ?_
                refine wp_ret ?_
                refine then_ret ?_
                refine end_ret1 (v := .bool false) rfl hr (by kernel_rfl) ?_
                replace H := jx0 H hK35
                replace h : Fit z (sepL (L)) _ := h.sel 2 [] (by kernel_rfl) (by kernel_rfl)
                replace H := ej1 H; subst H
                exact ⟨rfl, h⟩
            ·
              replace H := ifF c41 H
              refine op_off ((wg hr rfl rfl rfl (b' := (r27 != (1 : Int))) (by kernel_rfl)).trans (by rw [show (r27 != (1 : Int)) = true from (bne_iff_ne.mpr c41)]; rfl)) rfl rfl hr ?_; clear hr a; intro a hr
              refine op_off ((wg hr rfl rfl rfl (b' := (r27 != (1 : Int))) (by kernel_rfl)).trans (by rw [show (r27 != (1 : Int)) = true from (bne_iff_ne.mpr c41)]; rfl)) rfl rfl hr ?_; clear hr a; intro a hr
              refine op_val (wn rfl) rfl rfl hr (v := .bool true) (rp_t (b := (r27 != (1 : Int))) rfl (by kernel_rfl) (bne_iff_ne.mpr c41) (by kernel_rfl)) ?_; clear hr a; intro a hr
              refine ov hr (.bool true) (by kernel_rfl) ?_; clear hr a; intro a hr
              refine op_off ((wg hr rfl rfl rfl (b' := true) (by kernel_rfl)).trans rfl) rfl rfl hr ?_; clear hr a; intro a hr
              refine op_off ((wg hr rfl rfl rfl (b' := true) (by kernel_rfl)).trans rfl) rfl rfl hr ?_; clear hr a; intro a hr
              refine ovs [88, 89] [.bool true, .bool true] hr ⟨rfl, rfl⟩ (by kernel_rfl) ?_; clear hr a; intro a hr
              refine op_off ((wg hr rfl rfl rfl (b' := true) (by kernel_rfl)).trans rfl) rfl rfl hr ?_; clear hr a; intro a hr
              refine op_off ((wg hr rfl rfl rfl (b' := true) (by kernel_rfl)).trans rfl) rfl rfl hr ?_; clear hr a; intro a hr
              refine ov hr (.bool true) (by kernel_rfl) ?_; clear hr a; intro a hr
              refine wpList_nil ?_
              refine then_normal ?_
              refine cond_tt hr (b := true) rfl ?_
              refine wp_seq ?_
              refine wp_region_lit ?_
              refine ov hr (.bool false) (by kernel_rfl) ?_; clear hr a; intro a hr
              refine wpList_nil ?_
              refine then_normal ?_
              refine wp_ret ?_
              refine then_ret ?_
              refine end_ret1 (v := .bool false) rfl hr (by kernel_rfl) ?_
              replace H := jx0 H hK35
              replace h : Fit z (sepL (L)) _ := h.sel 2 [] (by kernel_rfl) (by kernel_rfl)
              replace H := ej1 H; subst H
              exact ⟨rfl, h⟩
          ·
            replace H := ifF c40 H
            refine op_off ((wg hr rfl rfl rfl (b' := (r23 != (0 : Int))) (by kernel_rfl)).trans (by rw [show (r23 != (0 : Int)) = true from (bne_iff_ne.mpr c40)]; rfl)) rfl rfl hr ?_; clear hr a; intro a hr
            refine op_off ((wg hr rfl rfl rfl (b' := (r23 != (0 : Int))) (by kernel_rfl)).trans (by rw [show (r23 != (0 : Int)) = true from (bne_iff_ne.mpr c40)]; rfl)) rfl rfl hr ?_; clear hr a; intro a hr
            refine op_val (wn rfl) rfl rfl hr (v := .bool true) (rp_t (b := (r23 != (0 : Int))) rfl (by kernel_rfl) (bne_iff_ne.mpr c40) (by kernel_rfl)) ?_; clear hr a; intro a hr
            refine ov hr (.bool true) (by kernel_rfl) ?_; clear hr a; intro a hr
            refine op_off ((wg hr rfl rfl rfl (b' := true) (by kernel_rfl)).trans rfl) rfl rfl hr ?_; clear hr a; intro a hr
            refine op_off ((wg hr rfl rfl rfl (b' := true) (by kernel_rfl)).trans rfl) rfl rfl hr ?_; clear hr a; intro a hr
            refine ovs [84, 85] [.bool true, .bool true] hr ⟨rfl, rfl⟩ (by kernel_rfl) ?_; clear hr a; intro a hr
            refine op_off ((wg hr rfl rfl rfl (b' := true) (by kernel_rfl)).trans rfl) rfl rfl hr ?_; clear hr a; intro a hr
            refine op_off ((wg hr rfl rfl rfl (b' := true) (by kernel_rfl)).trans rfl) rfl rfl hr ?_; clear hr a; intro a hr
            refine ovs [88, 89] [.bool true, .bool true] hr ⟨rfl, rfl⟩ (by kernel_rfl) ?_; clear hr a; intro a hr
            refine op_off ((wg hr rfl rfl rfl (b' := true) (by kernel_rfl)).trans rfl) rfl rfl hr ?_; clear hr a; intro a hr
            refine op_off ((wg hr rfl rfl rfl (b' := true) (by kernel_rfl)).trans rfl) rfl rfl hr ?_; clear hr a; intro a hr
            refine ov hr (.bool true) (by kernel_rfl) ?_; clear hr a; intro a hr
            refine wpList_nil ?_
            refine then_normal ?_
            refine cond_tt hr (b := true) rfl ?_
            refine wp_seq ?_
            refine wp_region_lit ?_
            refine ov hr (.bool false) (by kernel_rfl) ?_; clear hr a; intro a hr
            refine wpList_nil ?_
            refine then_normal ?_
            refine wp_ret ?_
            refine then_ret ?_
            refine end_ret1 (v := .bool false) rfl hr (by kernel_rfl) ?_
            replace H := jx0 H hK35
            replace h : Fit z (sepL (L)) _ := h.sel 2 [] (by kernel_rfl) (by kernel_rfl)
            replace H := ej1 H; subst H
            exact ⟨rfl, h⟩
        ·
          replace H := ifF c39 H
          refine op_off ((wg hr rfl rfl rfl (b' := (r22 != (0 : Int))) (by kernel_rfl)).trans (by rw [show (r22 != (0 : Int)) = true from (bne_iff_ne.mpr c39)]; rfl)) rfl rfl hr ?_; clear hr a; intro a hr
          refine op_off ((wg hr rfl rfl rfl (b' := (r22 != (0 : Int))) (by kernel_rfl)).trans (by rw [show (r22 != (0 : Int)) = true from (bne_iff_ne.mpr c39)]; rfl)) rfl rfl hr ?_; clear hr a; intro a hr
          refine op_val (wn rfl) rfl rfl hr (v := .bool true) (rp_t (b := (r22 != (0 : Int))) rfl (by kernel_rfl) (bne_iff_ne.mpr c39) (by kernel_rfl)) ?_; clear hr a; intro a hr
          refine ov hr (.bool true) (by kernel_rfl) ?_; clear hr a; intro a hr
          refine op_off ((wg hr rfl rfl rfl (b' := true) (by kernel_rfl)).trans rfl) rfl rfl hr ?_; clear hr a; intro a hr
          refine op_off ((wg hr rfl rfl rfl (b' := true) (by kernel_rfl)).trans rfl) rfl rfl hr ?_; clear hr a; intro a hr
          refine ovs [80, 81] [.bool true, .bool true] hr ⟨rfl, rfl⟩ (by kernel_rfl) ?_; clear hr a; intro a hr
          refine op_off ((wg hr rfl rfl rfl (b' := true) (by kernel_rfl)).trans rfl) rfl rfl hr ?_; clear hr a; intro a hr
          refine op_off ((wg hr rfl rfl rfl (b' := true) (by kernel_rfl)).trans rfl) rfl rfl hr ?_; clear hr a; intro a hr
          refine ovs [84, 85] [.bool true, .bool true] hr ⟨rfl, rfl⟩ (by kernel_rfl) ?_; clear hr a; intro a hr
          refine op_off ((wg hr rfl rfl rfl (b' := true) (by kernel_rfl)).trans rfl) rfl rfl hr ?_; clear hr a; intro a hr
          refine op_off ((wg hr rfl rfl rfl (b' := true) (by kernel_rfl)).trans rfl) rfl rfl hr ?_; clear hr a; intro a hr
          refine ovs [88, 89] [.bool true, .bool true] hr ⟨rfl, rfl⟩ (by kernel_rfl) ?_; clear hr a; intro a hr
          refine op_off ((wg hr rfl rfl rfl (b' := true) (by kernel_rfl)).trans rfl) rfl rfl hr ?_; clear hr a; intro a hr
          refine op_off ((wg hr rfl rfl rfl (b' := true) (by kernel_rfl)).trans rfl) rfl rfl hr ?_; clear hr a; intro a hr
          refine ov hr (.bool true) (by kernel_rfl) ?_; clear hr a; intro a hr
          refine wpList_nil ?_
          refine then_normal ?_
          refine cond_tt hr (b := true) rfl ?_
          refine wp_seq ?_
          refine wp_region_lit ?_
          refine ov hr (.bool false) (by kernel_rfl) ?_; clear hr a; intro a hr
          refine wpList_nil ?_
          refine then_normal ?_
          refine wp_ret ?_
          refine then_ret ?_
          refine end_ret1 (v := .bool false) rfl hr (by kernel_rfl) ?_
          replace H := jx0 H hK35
          replace h : Fit z (sepL (L)) _ := h.sel 2 [] (by kernel_rfl) (by kernel_rfl)
          replace H := ej1 H; subst H
          exact ⟨rfl, h⟩
      ·
        replace H := ifF c38 H
        refine op_off ((wg hr rfl rfl rfl (b' := (r17 != (0 : Int))) (by kernel_rfl)).trans (by rw [show (r17 != (0 : Int)) = true from (bne_iff_ne.mpr c38)]; rfl)) rfl rfl hr ?_; clear hr a; intro a hr
        refine op_off ((wg hr rfl rfl rfl (b' := (r17 != (0 : Int))) (by kernel_rfl)).trans (by rw [show (r17 != (0 : Int)) = true from (bne_iff_ne.mpr c38)]; rfl)) rfl rfl hr ?_; clear hr a; intro a hr
        refine op_val (wn rfl) rfl rfl hr (v := .bool true) (rp_t (b := (r17 != (0 : Int))) rfl (by kernel_rfl) (bne_iff_ne.mpr c38) (by kernel_rfl)) ?_; clear hr a; intro a hr
        refine ov hr (.bool true) (by kernel_rfl) ?_; clear hr a; intro a hr
        refine op_off ((wg hr rfl rfl rfl (b' := true) (by kernel_rfl)).trans rfl) rfl rfl hr ?_; clear hr a; intro a hr
        refine op_off ((wg hr rfl rfl rfl (b' := true) (by kernel_rfl)).trans rfl) rfl rfl hr ?_; clear hr a; intro a hr
        refine ovs [76, 77] [.bool true, .bool true] hr ⟨rfl, rfl⟩ (by kernel_rfl) ?_; clear hr a; intro a hr
        refine op_off ((wg hr rfl rfl rfl (b' := true) (by kernel_rfl)).trans rfl) rfl rfl hr ?_; clear hr a; intro a hr
        refine op_off ((wg hr rfl rfl rfl (b' := true) (by kernel_rfl)).trans rfl) rfl rfl hr ?_; clear hr a; intro a hr
        refine ovs [80, 81] [.bool true, .bool true] hr ⟨rfl, rfl⟩ (by kernel_rfl) ?_; clear hr a; intro a hr
        refine op_off ((wg hr rfl rfl rfl (b' := true) (by kernel_rfl)).trans rfl) rfl rfl hr ?_; clear hr a; intro a hr
        refine op_off ((wg hr rfl rfl rfl (b' := true) (by kernel_rfl)).trans rfl) rfl rfl hr ?_; clear hr a; intro a hr
        refine ovs [84, 85] [.bool true, .bool true] hr ⟨rfl, rfl⟩ (by kernel_rfl) ?_; clear hr a; intro a hr
        refine op_off ((wg hr rfl rfl rfl (b' := true) (by kernel_rfl)).trans rfl) rfl rfl hr ?_; clear hr a; intro a hr
        refine op_off ((wg hr rfl rfl rfl (b' := true) (by kernel_rfl)).trans rfl) rfl rfl hr ?_; clear hr a; intro a hr
        refine ovs [88, 89] [.bool true, .bool true] hr ⟨rfl, rfl⟩ (by kernel_rfl) ?_; clear hr a; intro a hr
        refine op_off ((wg hr rfl rfl rfl (b' := true) (by kernel_rfl)).trans rfl) rfl rfl hr ?_; clear hr a; intro a hr
        refine op_off ((wg hr rfl rfl rfl (b' := true) (by kernel_rfl)).trans rfl) rfl rfl hr ?_; clear hr a; intro a hr
        refine ov hr (.bool true) (by kernel_rfl) ?_; clear hr a; intro a hr
        refine wpList_nil ?_
        refine then_normal ?_
        refine cond_tt hr (b := true) rfl ?_
        refine wp_seq ?_
        refine wp_region_lit ?_
        refine ov hr (.bool false) (by kernel_rfl) ?_; clear hr a; intro a hr
        refine wpList_nil ?_
        refine then_normal ?_
        refine wp_ret ?_
        refine then_ret ?_
        refine end_ret1 (v := .bool false) rfl hr (by kernel_rfl) ?_
        replace H := jx0 H hK35
        replace h : Fit z (sepL (L)) _ := h.sel 2 [] (by kernel_rfl) (by kernel_rfl)
        replace H := ej1 H; subst H
        exact ⟨rfl, h⟩
    ·
      replace H := ifF c37 H
      refine op_off ((wg hr rfl rfl rfl (b' := (r16 != (1 : Int))) (by kernel_rfl)).trans (by rw [show (r16 != (1 : Int)) = true from (bne_iff_ne.mpr c37)]; rfl)) rfl rfl hr ?_; clear hr a; intro a hr
      refine op_off ((wg hr rfl rfl rfl (b' := (r16 != (1 : Int))) (by kernel_rfl)).trans (by rw [show (r16 != (1 : Int)) = true from (bne_iff_ne.mpr c37)]; rfl)) rfl rfl hr ?_; clear hr a; intro a hr
      refine op_val (wn rfl) rfl rfl hr (v := .bool true) (rp_t (b := (r16 != (1 : Int))) rfl (by kernel_rfl) (bne_iff_ne.mpr c37) (by kernel_rfl)) ?_; clear hr a; intro a hr
      refine ov hr (.bool true) (by kernel_rfl) ?_; clear hr a; intro a hr
      refine op_off ((wg hr rfl rfl rfl (b' := true) (by kernel_rfl)).trans rfl) rfl rfl hr ?_; clear hr a; intro a hr
      refine op_off ((wg hr rfl rfl rfl (b' := true) (by kernel_rfl)).trans rfl) rfl rfl hr ?_; clear hr a; intro a hr
      refine ovs [72, 73] [.bool true, .bool true] hr ⟨rfl, rfl⟩ (by kernel_rfl) ?_; clear hr a; intro a hr
      refine op_off ((wg hr rfl rfl rfl (b' := true) (by kernel_rfl)).trans rfl) rfl rfl hr ?_; clear hr a; intro a hr
      refine op_off ((wg hr rfl rfl rfl (b' := true) (by kernel_rfl)).trans rfl) rfl rfl hr ?_; clear hr a; intro a hr
      refine ovs [76, 77] [.bool true, .bool true] hr ⟨rfl, rfl⟩ (by kernel_rfl) ?_; clear hr a; intro a hr
      refine op_off ((wg hr rfl rfl rfl (b' := true) (by kernel_rfl)).trans rfl) rfl rfl hr ?_; clear hr a; intro a hr
      refine op_off ((wg hr rfl rfl rfl (b' := true) (by kernel_rfl)).trans rfl) rfl rfl hr ?_; clear hr a; intro a hr
      refine ovs [80, 81] [.bool true, .bool true] hr ⟨rfl, rfl⟩ (by kernel_rfl) ?_; clear hr a; intro a hr
      refine op_off ((wg hr rfl rfl rfl (b' := true) (by kernel_rfl)).trans rfl) rfl rfl hr ?_; clear hr a; intro a hr
      refine op_off ((wg hr rfl rfl rfl (b' := true) (by kernel_rfl)).trans rfl) rfl rfl hr ?_; clear hr a; intro a hr
      refine ovs [84, 85] [.bool true, .bool true] hr ⟨rfl, rfl⟩ (by kernel_rfl) ?_; clear hr a; intro a hr
      refine op_off ((wg hr rfl rfl rfl (b' := true) (by kernel_rfl)).trans rfl) rfl rfl hr ?_; clear hr a; intro a hr
      refine op_off ((wg hr rfl rfl rfl (b' := true) (by kernel_rfl)).trans rfl) rfl rfl hr ?_; clear hr a; intro a hr
      refine ovs [88, 89] [.bool true, .bool true] hr ⟨rfl, rfl⟩ (by kernel_rfl) ?_; clear hr a; intro a hr
      refine op_off ((wg hr rfl rfl rfl (b' := true) (by kernel_rfl)).trans rfl) rfl rfl hr ?_; clear hr a; intro a hr
      refine op_off ((wg hr rfl rfl rfl (b' := true) (by kernel_rfl)).trans rfl) rfl rfl hr ?_; clear hr a; intro a hr
      refine ov hr (.bool true) (by kernel_rfl) ?_; clear hr a; intro a hr
      refine wpList_nil ?_
      refine then_normal ?_
      refine cond_tt hr (b := true) rfl ?_
      refine wp_seq ?_
      refine wp_region_lit ?_
      refine ov hr (.bool false) (by kernel_rfl) ?_; clear hr a; intro a hr
      refine wpList_nil ?_
      refine then_normal ?_
      refine wp_ret ?_
      refine then_ret ?_
      refine end_ret1 (v := .bool false) rfl hr (by kernel_rfl) ?_
      replace H := jx0 H hK35
      replace h : Fit z (sepL (L)) _ := h.sel 2 [] (by kernel_rfl) (by kernel_rfl)
      replace H := ej1 H; subst H
      exact ⟨rfl, h⟩
  clear h hr a; rintro _ a w ⟨rfl, j, hr, h⟩
  replace H := jk0 hK35
  refine wp_seq ?_
  refine wp_region_lit ?_
  replace H := bd1 H; obtain ⟨r45, e46, H⟩ := H
  have hc := frames_Cells_ok (H := e46) (h := h)
  refine op_call (wn rfl) rfl rfl hr (f := 15) (args := #[.int .i64 0]) (by kernel_rfl) hc ?_; clear hc h
  rintro _ w ⟨rfl, h⟩; refine ⟨_, rfl, ?_⟩
  clear hr a; intro a hr
  refine ovs [94, 95] [.bool (r45 == (0 : Int)), .bool (r45 == (0 : Int))] hr ⟨rfl, rfl⟩ (by kernel_rfl) ?_; clear hr a; intro a hr
  by_cases c47 : r45 = (0 : Int)
  ·
    replace H := ifT c47 H
    replace H := bd1 H; obtain ⟨r48, e49, H⟩ := H
    have hc := frames_Cells_ok (H := e49) (h := h)
    refine op_call ((wg hr rfl rfl rfl (b' := (r45 == (0 : Int))) (by kernel_rfl)).trans (by rw [show (r45 == (0 : Int)) = true from (beq_iff_eq.mpr c47)]; rfl)) rfl rfl hr (f := 15) (args := #[.int .i64 1]) (by kernel_rfl) hc ?_; clear hc h
    rintro _ w ⟨rfl, h⟩; refine ⟨_, rfl, ?_⟩
    clear hr a; intro a hr
    refine op_val ((wg hr rfl rfl rfl (b' := (r45 == (0 : Int))) (by kernel_rfl)).trans (by rw [show (r45 == (0 : Int)) = true from (beq_iff_eq.mpr c47)]; rfl)) rfl rfl hr (v := .bool (r48 == (11 : Int))) (by kernel_rfl) ?_; clear hr a; intro a hr
    refine op_val (wn rfl) rfl rfl hr (v := .bool (r48 == (11 : Int))) (rp_t (b := (r45 == (0 : Int))) rfl (by kernel_rfl) (beq_iff_eq.mpr c47) (by kernel_rfl)) ?_; clear hr a; intro a hr
    refine ov hr (.bool (r48 == (11 : Int))) (by kernel_rfl) ?_; clear hr a; intro a hr
    by_cases c50 : r48 = (11 : Int)
    ·
      replace H := ifT c50 H
      replace H := bd1 H; obtain ⟨r51, e52, H⟩ := H
      have hc := frames_Cells_ok (H := e52) (h := h)
      refine op_call ((wg hr rfl rfl rfl (b' := (r48 == (11 : Int))) (by kernel_rfl)).trans (by rw [show (r48 == (11 : Int)) = true from (beq_iff_eq.mpr c50)]; rfl)) rfl rfl hr (f := 15) (args := #[.int .i64 4096]) (by kernel_rfl) hc ?_; clear hc h
      rintro _ w ⟨rfl, h⟩; refine ⟨_, rfl, ?_⟩
      clear hr a; intro a hr
      refine op_val ((wg hr rfl rfl rfl (b' := (r48 == (11 : Int))) (by kernel_rfl)).trans (by rw [show (r48 == (11 : Int)) = true from (beq_iff_eq.mpr c50)]; rfl)) rfl rfl hr (v := .bool (r51 == (40961 : Int))) (by kernel_rfl) ?_; clear hr a; intro a hr
      refine op_val (wn rfl) rfl rfl hr (v := .bool (r51 == (40961 : Int))) (rp_t (b := (r48 == (11 : Int))) rfl (by kernel_rfl) (beq_iff_eq.mpr c50) (by kernel_rfl)) ?_; clear hr a; intro a hr
      refine ov hr (.bool (r51 == (40961 : Int))) (by kernel_rfl) ?_; clear hr a; intro a hr
      by_cases c53 : r51 = (40961 : Int)
      ·
        replace H := ifT c53 H
        replace H := bd1 H; obtain ⟨r54, e55, H⟩ := H
        have hc := frames_Cells_ok (H := e55) (h := h)
        refine op_call ((wg hr rfl rfl rfl (b' := (r51 == (40961 : Int))) (by kernel_rfl)).trans (by rw [show (r51 == (40961 : Int)) = true from (beq_iff_eq.mpr c53)]; rfl)) rfl rfl hr (f := 15) (args := #[.int .i64 4097]) (by kernel_rfl) hc ?_; clear hc h
        rintro _ w ⟨rfl, h⟩; refine ⟨_, rfl, ?_⟩
        clear hr a; intro a hr
        refine op_val ((wg hr rfl rfl rfl (b' := (r51 == (40961 : Int))) (by kernel_rfl)).trans (by rw [show (r51 == (40961 : Int)) = true from (beq_iff_eq.mpr c53)]; rfl)) rfl rfl hr (v := .bool (r54 == (0 : Int))) (by kernel_rfl) ?_; clear hr a; intro a hr
        refine op_val (wn rfl) rfl rfl hr (v := .bool (r54 == (0 : Int))) (rp_t (b := (r51 == (40961 : Int))) rfl (by kernel_rfl) (beq_iff_eq.mpr c53) (by kernel_rfl)) ?_; clear hr a; intro a hr
        refine ov hr (.bool (r54 == (0 : Int))) (by kernel_rfl) ?_; clear hr a; intro a hr
        by_cases c56 : r54 = (0 : Int)
        ·
          replace H := ifT c56 H
          replace H := bd1 H; obtain ⟨r57, e58, H⟩ := H
          have hc := frames_Cells_ok (H := e58) (h := h)
          refine op_call ((wg hr rfl rfl rfl (b' := (r54 == (0 : Int))) (by kernel_rfl)).trans (by rw [show (r54 == (0 : Int)) = true from (beq_iff_eq.mpr c56)]; rfl)) rfl rfl hr (f := 15) (args := #[.int .i64 (-1)]) (by kernel_rfl) hc ?_; clear hc h
          rintro _ w ⟨rfl, h⟩; refine ⟨_, rfl, ?_⟩
          clear hr a; intro a hr
          refine op_val ((wg hr rfl rfl rfl (b' := (r54 == (0 : Int))) (by kernel_rfl)).trans (by rw [show (r54 == (0 : Int)) = true from (beq_iff_eq.mpr c56)]; rfl)) rfl rfl hr (v := .bool (r57 == (0 : Int))) (by kernel_rfl) ?_; clear hr a; intro a hr
          refine op_val (wn rfl) rfl rfl hr (v := .bool (r57 == (0 : Int))) (rp_t (b := (r54 == (0 : Int))) rfl (by kernel_rfl) (beq_iff_eq.mpr c56) (by kernel_rfl)) ?_; clear hr a; intro a hr
          refine ov hr (.bool (r57 == (0 : Int))) (by kernel_rfl) ?_; clear hr a; intro a hr
          refine wpList_nil ?_
          refine then_normal ?_
          refine wp_ret ?_
          refine end_ret1 (v := .bool (r57 == (0 : Int))) rfl hr (by kernel_rfl) ?_
          replace H := ej1 H; subst H
          exact ⟨rfl, h⟩
        ·
          replace H := ifF c56 H
          refine op_off ((wg hr rfl rfl rfl (b' := (r54 == (0 : Int))) (by kernel_rfl)).trans (by rw [show (r54 == (0 : Int)) = false from (beq_eq_false_iff_ne.mpr c56)]; rfl)) rfl rfl hr ?_; clear hr a; intro a hr
          refine op_off ((wg hr rfl rfl rfl (b' := (r54 == (0 : Int))) (by kernel_rfl)).trans (by rw [show (r54 == (0 : Int)) = false from (beq_eq_false_iff_ne.mpr c56)]; rfl)) rfl rfl hr ?_; clear hr a; intro a hr
          refine op_val (wn rfl) rfl rfl hr (v := .bool false) (rp_f (b := (r54 == (0 : Int))) rfl (by kernel_rfl) (beq_eq_false_iff_ne.mpr c56) (by kernel_rfl)) ?_; clear hr a; intro a hr
          refine ov hr (.bool false) (by kernel_rfl) ?_; clear hr a; intro a hr
          refine wpList_nil ?_
          refine then_normal ?_
          refine wp_ret ?_
          refine end_ret1 (v := .bool false) rfl hr (by kernel_rfl) ?_
          replace H := ej1 H; subst H
          exact ⟨rfl, h⟩
      ·
        replace H := ifF c53 H
        refine op_off ((wg hr rfl rfl rfl (b' := (r51 == (40961 : Int))) (by kernel_rfl)).trans (by rw [show (r51 == (40961 : Int)) = false from (beq_eq_false_iff_ne.mpr c53)]; rfl)) rfl rfl hr ?_; clear hr a; intro a hr
        refine op_off ((wg hr rfl rfl rfl (b' := (r51 == (40961 : Int))) (by kernel_rfl)).trans (by rw [show (r51 == (40961 : Int)) = false from (beq_eq_false_iff_ne.mpr c53)]; rfl)) rfl rfl hr ?_; clear hr a; intro a hr
        refine op_val (wn rfl) rfl rfl hr (v := .bool false) (rp_f (b := (r51 == (40961 : Int))) rfl (by kernel_rfl) (beq_eq_false_iff_ne.mpr c53) (by kernel_rfl)) ?_; clear hr a; intro a hr
        refine ov hr (.bool false) (by kernel_rfl) ?_; clear hr a; intro a hr
        refine op_off ((wg hr rfl rfl rfl (b' := false) (by kernel_rfl)).trans rfl) rfl rfl hr ?_; clear hr a; intro a hr
        refine op_off ((wg hr rfl rfl rfl (b' := false) (by kernel_rfl)).trans rfl) rfl rfl hr ?_; clear hr a; intro a hr
        refine ovs [110, 0] [.bool false, .bool false] hr ⟨rfl, rfl⟩ (by kernel_rfl) ?_; clear hr a; intro a hr
        refine wpList_nil ?_
        refine then_normal ?_
        refine wp_ret ?_
        refine end_ret1 (v := .bool false) rfl hr (by kernel_rfl) ?_
        replace H := ej1 H; subst H
        exact ⟨rfl, h⟩
    ·
      replace H := ifF c50 H
      refine op_off ((wg hr rfl rfl rfl (b' := (r48 == (11 : Int))) (by kernel_rfl)).trans (by rw [show (r48 == (11 : Int)) = false from (beq_eq_false_iff_ne.mpr c50)]; rfl)) rfl rfl hr ?_; clear hr a; intro a hr
      refine op_off ((wg hr rfl rfl rfl (b' := (r48 == (11 : Int))) (by kernel_rfl)).trans (by rw [show (r48 == (11 : Int)) = false from (beq_eq_false_iff_ne.mpr c50)]; rfl)) rfl rfl hr ?_; clear hr a; intro a hr
      refine op_val (wn rfl) rfl rfl hr (v := .bool false) (rp_f (b := (r48 == (11 : Int))) rfl (by kernel_rfl) (beq_eq_false_iff_ne.mpr c50) (by kernel_rfl)) ?_; clear hr a; intro a hr
      refine ov hr (.bool false) (by kernel_rfl) ?_; clear hr a; intro a hr
      refine op_off ((wg hr rfl rfl rfl (b' := false) (by kernel_rfl)).trans rfl) rfl rfl hr ?_; clear hr a; intro a hr
      refine op_off ((wg hr rfl rfl rfl (b' := false) (by kernel_rfl)).trans rfl) rfl rfl hr ?_; clear hr a; intro a hr
      refine ovs [106, 107] [.bool false, .bool false] hr ⟨rfl, rfl⟩ (by kernel_rfl) ?_; clear hr a; intro a hr
      refine op_off ((wg hr rfl rfl rfl (b' := false) (by kernel_rfl)).trans rfl) rfl rfl hr ?_; clear hr a; intro a hr
      refine op_off ((wg hr rfl rfl rfl (b' := false) (by kernel_rfl)).trans rfl) rfl rfl hr ?_; clear hr a; intro a hr
      refine ovs [110, 0] [.bool false, .bool false] hr ⟨rfl, rfl⟩ (by kernel_rfl) ?_; clear hr a; intro a hr
      refine wpList_nil ?_
      refine then_normal ?_
      refine wp_ret ?_
      refine end_ret1 (v := .bool false) rfl hr (by kernel_rfl) ?_
      replace H := ej1 H; subst H
      exact ⟨rfl, h⟩
  ·
    replace H := ifF c47 H
    refine op_off ((wg hr rfl rfl rfl (b' := (r45 == (0 : Int))) (by kernel_rfl)).trans (by rw [show (r45 == (0 : Int)) = false from (beq_eq_false_iff_ne.mpr c47)]; rfl)) rfl rfl hr ?_; clear hr a; intro a hr
    refine op_off ((wg hr rfl rfl rfl (b' := (r45 == (0 : Int))) (by kernel_rfl)).trans (by rw [show (r45 == (0 : Int)) = false from (beq_eq_false_iff_ne.mpr c47)]; rfl)) rfl rfl hr ?_; clear hr a; intro a hr
    refine op_val (wn rfl) rfl rfl hr (v := .bool false) (rp_f (b := (r45 == (0 : Int))) rfl (by kernel_rfl) (beq_eq_false_iff_ne.mpr c47) (by kernel_rfl)) ?_; clear hr a; intro a hr
    refine ov hr (.bool false) (by kernel_rfl) ?_; clear hr a; intro a hr
    refine op_off ((wg hr rfl rfl rfl (b' := false) (by kernel_rfl)).trans rfl) rfl rfl hr ?_; clear hr a; intro a hr
    refine op_off ((wg hr rfl rfl rfl (b' := false) (by kernel_rfl)).trans rfl) rfl rfl hr ?_; clear hr a; intro a hr
    refine ovs [102, 103] [.bool false, .bool false] hr ⟨rfl, rfl⟩ (by kernel_rfl) ?_; clear hr a; intro a hr
    refine op_off ((wg hr rfl rfl rfl (b' := false) (by kernel_rfl)).trans rfl) rfl rfl hr ?_; clear hr a; intro a hr
    refine op_off ((wg hr rfl rfl rfl (b' := false) (by kernel_rfl)).trans rfl) rfl rfl hr ?_; clear hr a; intro a hr
    refine ovs [106, 107] [.bool false, .bool false] hr ⟨rfl, rfl⟩ (by kernel_rfl) ?_; clear hr a; intro a hr
    refine op_off ((wg hr rfl rfl rfl (b' := false) (by kernel_rfl)).trans rfl) rfl rfl hr ?_; clear hr a; intro a hr
    refine op_off ((wg hr rfl rfl rfl (b' := false) (by kernel_rfl)).trans rfl) rfl rfl hr ?_; clear hr a; intro a hr
    refine ovs [110, 0] [.bool false, .bool false] hr ⟨rfl, rfl⟩ (by kernel_rfl) ?_; clear hr a; intro a hr
    refine wpList_nil ?_
    refine then_normal ?_
    refine wp_ret ?_
    refine end_ret1 (v := .bool false) rfl hr (by kernel_rfl) ?_
    replace H := ej1 H; subst H
    exact ⟨rfl, h⟩


end Go.Proofs.Ytnghahgfcaolbaa.Mo
