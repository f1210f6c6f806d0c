/- what the functions compute, as plain Lean functions, and that they do -/
import Derived.Test.YtnghahgfcaolbaaFs3
namespace Go.Proofs.Ytnghahgfcaolbaa.Mo
open Go Go.RowKit Go.Proofs.Ytnghahgfcaolbaa.SL Go.Proofs.Ytnghahgfcaolbaa.GX
set_option linter.unusedVariables false
set_option linter.unusedSimpArgs false

/-- plunder/frames.Step -/
def frames_Step_iface (p0 : T_cells_Arena) (p1 : T_frames_Op) : Option (T_frames_Op × T_cells_Arena) :=
  (if p1.head_stands = (0 : Int) then some (p1, p0) else (if p1.kind = (0 : Int) then ob3 (frames_Op_alloc_iface p1 p0) (fun r9 S10 S11 => (if r9 = (0 : Int) then (if S10.head_stands > (0 : Int) then some ({ S10 with head_stands := wi (S10.head_stands + (1 : Int)) }, S11) else some (S10, S11)) else ob1 (frames_head_end S10 1 0) (fun S19 => some (S19, S11)))) else (if p1.kind = (1 : Int) then ob3 (frames_Op_fork_iface p1 p0) (fun r22 S23 S24 => (if r22 = (0 : Int) then (if S23.head_stands > (0 : Int) then some ({ S23 with head_stands := wi (S23.head_stands + (1 : Int)) }, S24) else some (S23, S24)) else ob1 (frames_head_end S23 1 0) (fun S32 => some (S32, S24)))) else (if p1.kind = (2 : Int) then ob3 (frames_Op_finish_iface p1 p0) (fun r35 S36 S37 => (if r35 = (0 : Int) then (if S36.head_stands > (0 : Int) then some ({ S36 with head_stands := wi (S36.head_stands + (1 : Int)) }, S37) else some (S36, S37)) else ob1 (frames_head_end S36 1 0) (fun S45 => some (S45, S37)))) else (if p1.kind = (3 : Int) then ob3 (frames_Op_sync_iface p1 p0) (fun r48 S49 S50 => (if r48 = (0 : Int) then (if S49.head_stands > (0 : Int) then some ({ S49 with head_stands := wi (S49.head_stands + (1 : Int)) }, S50) else some (S49, S50)) else ob1 (frames_head_end S49 1 0) (fun S58 => some (S58, S50)))) else (if p1.kind = (4 : Int) then ob3 (frames_Op_start_iface p1 p0) (fun r61 S62 S63 => (if r61 = (0 : Int) then (if S62.head_stands > (0 : Int) then some ({ S62 with head_stands := wi (S62.head_stands + (1 : Int)) }, S63) else some (S62, S63)) else ob1 (frames_head_end S62 1 0) (fun S71 => some (S71, S63)))) else ob3 (frames_Op_fetch_iface p1 p0) (fun r73 S74 S75 => (if r73 = (0 : Int) then (if S74.head_stands > (0 : Int) then some ({ S74 with head_stands := wi (S74.head_stands + (1 : Int)) }, S75) else some (S74, S75)) else ob1 (frames_head_end S74 1 0) (fun S83 => some (S83, S75))))))))))
set_option maxRecDepth 100000 in
set_option maxHeartbeats 4000000 in
theorem frames_Step_iface_ok {z w : World} {L : List HProp} {p0 : T_cells_Arena} {p1 : T_frames_Op} {B0 : Nat} {ca1 : Option Addr} {cc2 : Nat} {ca3 : Option Addr} {cc4 : Nat} {r0 : T_frames_Op} {q0 : T_cells_Arena} (H : frames_Step_iface p0 p1 = some (r0, q0)) (h : Fit z (sepL (ob103 B0 p0 ca1 cc2 ca3 cc4 :: ro2 ca1 cc2 p0.cell :: ro96 ca3 cc4 p0.log :: L)) w)  :
    Calls Try.prog 28 #[.iface 26 (.pointer (some ⟨B0, 0, none⟩)), .agg #[.int .i64 p1.head_t_Base, .int .i64 p1.head_t_Frames, .int .i64 p1.head_frame, .int .i64 p1.head_stands, .int .i64 p1.head_code, .int .i64 p1.head_v, .int .i64 p1.kind, .int .i64 p1.slot, .int .i64 p1.give]] w fun e w => ∃ caq0_1 : Option Addr, ∃ ccq0_2 : Nat, ∃ caq0_3 : Option Addr, ∃ ccq0_4 : Nat, e = .returned (.agg #[.int .i64 r0.head_t_Base, .int .i64 r0.head_t_Frames, .int .i64 r0.head_frame, .int .i64 r0.head_stands, .int .i64 r0.head_code, .int .i64 r0.head_v, .int .i64 r0.kind, .int .i64 r0.slot, .int .i64 r0.give]) ∧ Fit z (sepL (ob103 B0 q0 caq0_1 ccq0_2 caq0_3 ccq0_4 :: ro2 caq0_1 ccq0_2 q0.cell :: ro96 caq0_3 ccq0_4 q0.log :: L)) w := by
  unfold frames_Step_iface at H
  refine enter Try.func28 rfl 36 rfl rfl [(0, .iface 26 (.pointer (some ⟨B0, 0, none⟩))), (1, .agg #[.int .i64 p1.head_t_Base, .int .i64 p1.head_t_Frames, .int .i64 p1.head_frame, .int .i64 p1.head_stands, .int .i64 p1.head_code, .int .i64 p1.head_v, .int .i64 p1.kind, .int .i64 p1.slot, .int .i64 p1.give])] ⟨rfl, rfl, trivial⟩ ?_
  intro j a hr
  refine wp_seq ?_
  refine wp_region_lit ?_
  refine op_new (wn rfl) rfl rfl hr h (vf := fun b => .pointer (some ⟨b, 0, none⟩)) (cs := #[.int .i64 p1.head_t_Base, .int .i64 p1.head_t_Frames, .int .i64 p1.head_frame, .int .i64 p1.head_stands, .int .i64 p1.head_code, .int .i64 p1.head_v, .int .i64 p1.kind, .int .i64 p1.slot, .int .i64 p1.give]) (T := 50) (by kernel_rfl) ?_; clear h hr a; intro b5 w a h hr
  refine op_new (wn rfl) rfl rfl hr h (vf := fun b => .pointer (some ⟨b, 0, none⟩)) (cs := #[.int .i64 0, .int .i64 0, .int .i64 0, .int .i64 0, .int .i64 0, .int .i64 0, .int .i64 0, .int .i64 0, .int .i64 0]) (T := 50) (by kernel_rfl) ?_; clear h hr a; intro b6 w a h hr
  refine wpList_nil ?_
  refine then_normal ?_
  refine wp_seq ?_
  refine wp_seq ?_
  refine wp_region_lit ?_
  refine ovs [6, 7] [.pointer (some ⟨b5, 0, none⟩), .pointer (some ⟨b5, 3, none⟩)] hr ⟨rfl, rfl⟩ (by kernel_rfl) ?_; clear hr a; intro a hr
  refine op_val (wn rfl) rfl rfl hr (v := .int .i64 p1.head_stands) (rl rfl (by kernel_rfl) (by kernel_rfl) ((h.pick 1).cell 3 rfl)) ?_; clear hr a; intro a hr
  refine ov hr (.bool (p1.head_stands == (0 : Int))) (by kernel_rfl) ?_; clear hr a; intro a hr
  refine wpList_nil ?_
  refine then_normal ?_
  by_cases c7 : p1.head_stands = (0 : Int)
  ·
    replace H := ifT c7 H
    refine cond_tt hr (b := (p1.head_stands == (0 : Int))) (beq_iff_eq.mpr c7) ?_
    refine wp_seq ?_
    refine wp_region_lit ?_
    refine op_val (wn rfl) rfl rfl hr (v := .agg #[.int .i64 p1.head_t_Base, .int .i64 p1.head_t_Frames, .int .i64 p1.head_frame, .int .i64 p1.head_stands, .int .i64 p1.head_code, .int .i64 p1.head_v, .int .i64 p1.kind, .int .i64 p1.slot, .int .i64 p1.give]) (rlm (cs := [.int .i64 p1.head_t_Base, .int .i64 p1.head_t_Frames, .int .i64 p1.head_frame, .int .i64 p1.head_stands, .int .i64 p1.head_code, .int .i64 p1.head_v, .int .i64 p1.kind, .int .i64 p1.slot, .int .i64 p1.give]) rfl (by kernel_rfl) (by kernel_rfl) (by kernel_rfl) ⟨(h.pick 1).cell 0 rfl, (h.pick 1).cell 1 rfl, (h.pick 1).cell 2 rfl, (h.pick 1).cell 3 rfl, (h.pick 1).cell 4 rfl, (h.pick 1).cell 5 rfl, (h.pick 1).cell 6 rfl, (h.pick 1).cell 7 rfl, (h.pick 1).cell 8 rfl, trivial⟩) ?_; clear hr a; intro a hr
    refine op_stores (wn rfl) rfl hr rfl (by kernel_rfl) (by kernel_rfl) (vs := [.int .i64 p1.head_t_Base, .int .i64 p1.head_t_Frames, .int .i64 p1.head_frame, .int .i64 p1.head_stands, .int .i64 p1.head_code, .int .i64 p1.head_v, .int .i64 p1.kind, .int .i64 p1.slot, .int .i64 p1.give]) rfl rfl (by kernel_rfl) h (i := 0) (cs' := #[.int .i64 p1.head_t_Base, .int .i64 p1.head_t_Frames, .int .i64 p1.head_frame, .int .i64 p1.head_stands, .int .i64 p1.head_code, .int .i64 p1.head_v, .int .i64 p1.kind, .int .i64 p1.slot, .int .i64 p1.give]) rfl ?_; clear h; intro w h
    refine wpList_nil ?_
    replace h : Fit z (sepL (ob50 b6 p1 :: ob50 b5 p1 :: ob103 B0 p0 ca1 cc2 ca3 cc4 :: ro2 ca1 cc2 p0.cell :: ro96 ca3 cc4 p0.log :: L)) _ := h
    refine then_normal ?_
    refine wp_ret ?_
    refine then_ret ?_
    refine end_retC (cs := [.int .i64 p1.head_t_Base, .int .i64 p1.head_t_Frames, .int .i64 p1.head_frame, .int .i64 p1.head_stands, .int .i64 p1.head_code, .int .i64 p1.head_v, .int .i64 p1.kind, .int .i64 p1.slot, .int .i64 p1.give]) rfl hr (by kernel_rfl) (by kernel_rfl) (by kernel_rfl) ⟨h.cell 0 rfl, h.cell 1 rfl, h.cell 2 rfl, h.cell 3 rfl, h.cell 4 rfl, h.cell 5 rfl, h.cell 6 rfl, h.cell 7 rfl, h.cell 8 rfl, trivial⟩ ?_
    replace h : Fit z (sepL (ob103 B0 p0 ca1 cc2 ca3 cc4 :: ro2 ca1 cc2 p0.cell :: ro96 ca3 cc4 p0.log :: L)) _ := h.sel 5 [2, 3, 4] (by kernel_rfl) (by kernel_rfl)
    replace H := ej2 H; obtain ⟨rfl, rfl⟩ := H
    exact ⟨ca1, cc2, ca3, cc4, rfl, h⟩
  ·
    replace H := ifF c7 H
    refine cond_ff hr (b := (p1.head_stands == (0 : Int))) (beq_eq_false_iff_ne.mpr c7) ?_
    refine wp_skip ?_
    refine then_normal ?_
    refine wp_seq ?_
    refine wp_seq ?_
    refine wp_region_lit ?_
    refine ovs [11, 12] [.iface 26 (.pointer (some ⟨B0, 0, none⟩)), .bool false] hr ⟨rfl, rfl⟩ (by kernel_rfl) ?_; clear hr a; intro a hr
    refine wpList_nil ?_
    refine then_normal ?_
    refine cond_ff hr (b := false) rfl ?_
    refine wp_skip ?_
    refine then_normal ?_
    refine wp_seq ?_
    refine wp_seq ?_
    refine wp_region_lit ?_
    refine ov hr (.pointer (some ⟨b5, 6, none⟩)) (by kernel_rfl) ?_; clear hr a; intro a hr
    refine op_val (wn rfl) rfl rfl hr (v := .int .i64 p1.kind) (rl rfl (by kernel_rfl) (by kernel_rfl) ((h.pick 1).cell 6 rfl)) ?_; clear hr a; intro a hr
    refine op_inl (wn rfl) rfl rfl hr (f := 57) (args := #[.int .i64 p1.kind]) (by kernel_rfl) ?_; clear hr a
    refine enter Try.func57 rfl 14 rfl rfl [(0, .int .i64 p1.kind)] ⟨by kernel_rfl, trivial⟩ ?_; intro j a hr
    refine wp_seq ?_
    refine wp_region_lit ?_
    refine ov hr (.nilFunc) (by kernel_rfl) ?_; clear hr a; intro a hr
    refine wpList_nil ?_
    refine then_normal ?_
    refine wp_seq ?_
    refine wp_seq ?_
    refine wp_region_lit ?_
    refine ov hr (.int .i64 p1.kind) (by kernel_rfl) ?_; clear hr a; intro a hr
    refine wpList_nil ?_
    refine then_normal ?_
    refine wp_block ?_
    refine wp_seq ?_
    refine wp_region_lit ?_
    refine ovs [5, 4] [.bool (p1.kind == (0 : Int)), .bool (p1.kind == (0 : Int))] hr ⟨rfl, rfl⟩ (by kernel_rfl) ?_; clear hr a; intro a hr
    refine wpList_nil ?_
    refine then_normal ?_
    by_cases c8 : p1.kind = (0 : Int)
    ·
      replace H := ifT c8 H
      refine cond_tt hr (b := (p1.kind == (0 : Int))) (beq_iff_eq.mpr c8) ?_
      refine wp_seq ?_
      refine wp_region_lit ?_
      refine ov hr (.func (.func 81) #[] #[]) (by kernel_rfl) ?_; clear hr a; intro a hr
      refine wpList_nil ?_
      refine then_normal ?_
      refine wp_ret ?_
      refine blk_ret ?_
      refine then_ret ?_
      refine end_ret1 (v := .func (.func 81) #[] #[]) rfl hr (by kernel_rfl) ?_
      refine ⟨_, rfl, ?_⟩; clear hr a; intro a hr
      replace H := bd3 H; obtain ⟨r9, S10, S11, e12, H⟩ := H
      refine ov hr (.iface 26 (.pointer (some ⟨B0, 0, none⟩))) (by kernel_rfl) ?_; clear hr a; intro a hr
      replace h : Fit z (sepL (ob50 b5 p1 :: ob103 B0 p0 ca1 cc2 ca3 cc4 :: ro2 ca1 cc2 p0.cell :: ro96 ca3 cc4 p0.log :: pts b6 (.cells #[.int .i64 0, .int .i64 0, .int .i64 0, .int .i64 0, .int .i64 0, .int .i64 0, .int .i64 0, .int .i64 0, .int .i64 0] 50) :: L)) _ := h.sel 5 [1, 2, 3, 4, 0] (by kernel_rfl) (by kernel_rfl)
      have hc := frames_Op_alloc_iface_ok (H := e12) (h := h)
      refine op_call (wn rfl) rfl rfl hr (f := 81) (args := #[.pointer (some ⟨b5, 0, none⟩), .iface 26 (.pointer (some ⟨B0, 0, none⟩))]) (by kernel_rfl) hc ?_; clear hc h
      rintro _ w ⟨caq13, ccq14, caq15, ccq16, rfl, h⟩; refine ⟨_, rfl, ?_⟩
      clear hr a; intro a hr
      refine ov hr (.int .i64 r9) (by kernel_rfl) ?_; clear hr a; intro a hr
      refine wpList_nil ?_
      refine then_normal ?_
      refine wp_seq ?_
      refine wp_region_lit ?_
      refine ovs [21, 22] [.int .i64 r9, .bool (r9 != (0 : Int))] hr ⟨rfl, rfl⟩ (by kernel_rfl) ?_; clear hr a; intro a hr
      refine wpList_nil ?_
      refine then_normal ?_
      by_cases c17 : r9 = (0 : Int)
      ·
        replace H := ifT c17 H
        refine cond_ff hr (b := (r9 != (0 : Int))) (bne_eq_false_iff_eq.mpr c17) ?_
        refine wp_seq ?_
        refine wp_region_lit ?_
        refine ovs [25, 26] [.pointer (some ⟨b5, 0, none⟩), .pointer (some ⟨b5, 3, none⟩)] hr ⟨rfl, rfl⟩ (by kernel_rfl) ?_; clear hr a; intro a hr
        refine op_val (wn rfl) rfl rfl hr (v := .int .i64 S10.head_stands) (rl rfl (by kernel_rfl) (by kernel_rfl) (h.cell 3 rfl)) ?_; clear hr a; intro a hr
        refine ov hr (.bool (decide (S10.head_stands > (0 : Int)))) (by kernel_rfl) ?_; clear hr a; intro a hr
        refine wpList_nil ?_
        refine then_normal ?_
        by_cases c18 : S10.head_stands > (0 : Int)
        ·
          replace H := ifT c18 H
          refine cond_tt hr (b := (decide (S10.head_stands > (0 : Int)))) (decide_eq_true c18) ?_
          refine wp_region_lit ?_
          refine ovs [29, 30] [.pointer (some ⟨b5, 0, none⟩), .pointer (some ⟨b5, 3, none⟩)] hr ⟨rfl, rfl⟩ (by kernel_rfl) ?_; clear hr a; intro a hr
          refine op_val (wn rfl) rfl rfl hr (v := .int .i64 S10.head_stands) (rl rfl (by kernel_rfl) (by kernel_rfl) (h.cell 3 rfl)) ?_; clear hr a; intro a hr
          refine ovs [32, 33, 34] [.int .i64 (wi (S10.head_stands + (1 : Int))), .pointer (some ⟨b5, 0, none⟩), .pointer (some ⟨b5, 3, none⟩)] hr ⟨rfl, rfl⟩ (by kernel_rfl) ?_; clear hr a; intro a hr
          refine op_store (wn rfl) rfl hr rfl (by kernel_rfl) (by kernel_rfl) (v := .int .i64 (wi (S10.head_stands + (1 : Int)))) rfl rfl (by kernel_rfl) h (i := 3) rfl ?_; clear h; intro w h
          refine wpList_nil ?_
          replace h : Fit z (sepL (pts b5 (.cells #[.int .i64 S10.head_t_Base, .int .i64 S10.head_t_Frames, .int .i64 S10.head_frame, .int .i64 (wi (S10.head_stands + (1 : Int))), .int .i64 S10.head_code, .int .i64 S10.head_v, .int .i64 S10.kind, .int .i64 S10.slot, .int .i64 S10.give] 50) :: ob103 B0 S11 caq13 ccq14 caq15 ccq16 :: ro2 caq13 ccq14 S11.cell :: ro96 caq15 ccq16 S11.log :: pts b6 (.cells #[.int .i64 0, .int .i64 0, .int .i64 0, .int .i64 0, .int .i64 0, .int .i64 0, .int .i64 0, .int .i64 0, .int .i64 0] 50) :: L)) _ := h
          refine then_normal ?_
          refine wp_seq ?_
          refine wp_region_lit ?_
          refine op_val (wn rfl) rfl rfl hr (v := .agg #[.int .i64 S10.head_t_Base, .int .i64 S10.head_t_Frames, .int .i64 S10.head_frame, .int .i64 (wi (S10.head_stands + (1 : Int))), .int .i64 S10.head_code, .int .i64 S10.head_v, .int .i64 S10.kind, .int .i64 S10.slot, .int .i64 S10.give]) (rlm (cs := [.int .i64 S10.head_t_Base, .int .i64 S10.head_t_Frames, .int .i64 S10.head_frame, .int .i64 (wi (S10.head_stands + (1 : Int))), .int .i64 S10.head_code, .int .i64 S10.head_v, .int .i64 S10.kind, .int .i64 S10.slot, .int .i64 S10.give]) rfl (by kernel_rfl) (by kernel_rfl) (by kernel_rfl) ⟨h.cell 0 rfl, h.cell 1 rfl, h.cell 2 rfl, h.cell 3 rfl, h.cell 4 rfl, h.cell 5 rfl, h.cell 6 rfl, h.cell 7 rfl, h.cell 8 rfl, trivial⟩) ?_; clear hr a; intro a hr
          replace h : Fit z (sepL (pts b6 (.cells #[.int .i64 0, .int .i64 0, .int .i64 0, .int .i64 0, .int .i64 0, .int .i64 0, .int .i64 0, .int .i64 0, .int .i64 0] 50) :: pts b5 (.cells #[.int .i64 S10.head_t_Base, .int .i64 S10.head_t_Frames, .int .i64 S10.head_frame, .int .i64 (wi (S10.head_stands + (1 : Int))), .int .i64 S10.head_code, .int .i64 S10.head_v, .int .i64 S10.kind, .int .i64 S10.slot, .int .i64 S10.give] 50) :: ob103 B0 S11 caq13 ccq14 caq15 ccq16 :: ro2 caq13 ccq14 S11.cell :: ro96 caq15 ccq16 S11.log :: L)) _ := h.sel 5 [4, 0, 1, 2, 3] (by kernel_rfl) (by kernel_rfl)
          refine op_stores (wn rfl) rfl hr rfl (by kernel_rfl) (by kernel_rfl) (vs := [.int .i64 S10.head_t_Base, .int .i64 S10.head_t_Frames, .int .i64 S10.head_frame, .int .i64 (wi (S10.head_stands + (1 : Int))), .int .i64 S10.head_code, .int .i64 S10.head_v, .int .i64 S10.kind, .int .i64 S10.slot, .int .i64 S10.give]) rfl rfl (by kernel_rfl) h (i := 0) (cs' := #[.int .i64 S10.head_t_Base, .int .i64 S10.head_t_Frames, .int .i64 S10.head_frame, .int .i64 (wi (S10.head_stands + (1 : Int))), .int .i64 S10.head_code, .int .i64 S10.head_v, .int .i64 S10.kind, .int .i64 S10.slot, .int .i64 S10.give]) rfl ?_; clear h; intro w h
          refine wpList_nil ?_
          replace h : Fit z (sepL (pts b6 (.cells #[.int .i64 S10.head_t_Base, .int .i64 S10.head_t_Frames, .int .i64 S10.head_frame, .int .i64 (wi (S10.head_stands + (1 : Int))), .int .i64 S10.head_code, .int .i64 S10.head_v, .int .i64 S10.kind, .int .i64 S10.slot, .int .i64 S10.give] 50) :: pts b5 (.cells #[.int .i64 S10.head_t_Base, .int .i64 S10.head_t_Frames, .int .i64 S10.head_frame, .int .i64 (wi (S10.head_stands + (1 : Int))), .int .i64 S10.head_code, .int .i64 S10.head_v, .int .i64 S10.kind, .int .i64 S10.slot, .int .i64 S10.give] 50) :: ob103 B0 S11 caq13 ccq14 caq15 ccq16 :: ro2 caq13 ccq14 S11.cell :: ro96 caq15 ccq16 S11.log :: L)) _ := h
          refine then_normal ?_
          refine wp_ret ?_
          refine end_retC (cs := [.int .i64 S10.head_t_Base, .int .i64 S10.head_t_Frames, .int .i64 S10.head_frame, .int .i64 (wi (S10.head_stands + (1 : Int))), .int .i64 S10.head_code, .int .i64 S10.head_v, .int .i64 S10.kind, .int .i64 S10.slot, .int .i64 S10.give]) rfl hr (by kernel_rfl) (by kernel_rfl) (by kernel_rfl) ⟨h.cell 0 rfl, h.cell 1 rfl, h.cell 2 rfl, h.cell 3 rfl, h.cell 4 rfl, h.cell 5 rfl, h.cell 6 rfl, h.cell 7 rfl, h.cell 8 rfl, trivial⟩ ?_
          replace h : Fit z (sepL (ob103 B0 S11 caq13 ccq14 caq15 ccq16 :: ro2 caq13 ccq14 S11.cell :: ro96 caq15 ccq16 S11.log :: L)) _ := h.sel 5 [2, 3, 4] (by kernel_rfl) (by kernel_rfl)
          replace H := ej2 H; obtain ⟨rfl, rfl⟩ := H
          exact ⟨caq13, ccq14, caq15, ccq16, rfl, h⟩
        ·
          replace H := ifF c18 H
          refine cond_ff hr (b := (decide (S10.head_stands > (0 : Int)))) (decide_eq_false c18) ?_
          refine wp_skip ?_
          refine then_normal ?_
          refine wp_seq ?_
          refine wp_region_lit ?_
          refine op_val (wn rfl) rfl rfl hr (v := .agg #[.int .i64 S10.head_t_Base, .int .i64 S10.head_t_Frames, .int .i64 S10.head_frame, .int .i64 S10.head_stands, .int .i64 S10.head_code, .int .i64 S10.head_v, .int .i64 S10.kind, .int .i64 S10.slot, .int .i64 S10.give]) (rlm (cs := [.int .i64 S10.head_t_Base, .int .i64 S10.head_t_Frames, .int .i64 S10.head_frame, .int .i64 S10.head_stands, .int .i64 S10.head_code, .int .i64 S10.head_v, .int .i64 S10.kind, .int .i64 S10.slot, .int .i64 S10.give]) rfl (by kernel_rfl) (by kernel_rfl) (by kernel_rfl) ⟨h.cell 0 rfl, h.cell 1 rfl, h.cell 2 rfl, h.cell 3 rfl, h.cell 4 rfl, h.cell 5 rfl, h.cell 6 rfl, h.cell 7 rfl, h.cell 8 rfl, trivial⟩) ?_; clear hr a; intro a hr
          replace h : Fit z (sepL (pts b6 (.cells #[.int .i64 0, .int .i64 0, .int .i64 0, .int .i64 0, .int .i64 0, .int .i64 0, .int .i64 0, .int .i64 0, .int .i64 0] 50) :: ob50 b5 S10 :: ob103 B0 S11 caq13 ccq14 caq15 ccq16 :: ro2 caq13 ccq14 S11.cell :: ro96 caq15 ccq16 S11.log :: L)) _ := h.sel 5 [4, 0, 1, 2, 3] (by kernel_rfl) (by kernel_rfl)
          refine op_stores (wn rfl) rfl hr rfl (by kernel_rfl) (by kernel_rfl) (vs := [.int .i64 S10.head_t_Base, .int .i64 S10.head_t_Frames, .int .i64 S10.head_frame, .int .i64 S10.head_stands, .int .i64 S10.head_code, .int .i64 S10.head_v, .int .i64 S10.kind, .int .i64 S10.slot, .int .i64 S10.give]) rfl rfl (by kernel_rfl) h (i := 0) (cs' := #[.int .i64 S10.head_t_Base, .int .i64 S10.head_t_Frames, .int .i64 S10.head_frame, .int .i64 S10.head_stands, .int .i64 S10.head_code, .int .i64 S10.head_v, .int .i64 S10.kind, .int .i64 S10.slot, .int .i64 S10.give]) rfl ?_; clear h; intro w h
          refine wpList_nil ?_
          replace h : Fit z (sepL (ob50 b6 S10 :: ob50 b5 S10 :: ob103 B0 S11 caq13 ccq14 caq15 ccq16 :: ro2 caq13 ccq14 S11.cell :: ro96 caq15 ccq16 S11.log :: L)) _ := h
          refine then_normal ?_
          refine wp_ret ?_
          refine end_retC (cs := [.int .i64 S10.head_t_Base, .int .i64 S10.head_t_Frames, .int .i64 S10.head_frame, .int .i64 S10.head_stands, .int .i64 S10.head_code, .int .i64 S10.head_v, .int .i64 S10.kind, .int .i64 S10.slot, .int .i64 S10.give]) rfl hr (by kernel_rfl) (by kernel_rfl) (by kernel_rfl) ⟨h.cell 0 rfl, h.cell 1 rfl, h.cell 2 rfl, h.cell 3 rfl, h.cell 4 rfl, h.cell 5 rfl, h.cell 6 rfl, h.cell 7 rfl, h.cell 8 rfl, trivial⟩ ?_
          replace h : Fit z (sepL (ob103 B0 S11 caq13 ccq14 caq15 ccq16 :: ro2 caq13 ccq14 S11.cell :: ro96 caq15 ccq16 S11.log :: L)) _ := h.sel 5 [2, 3, 4] (by kernel_rfl) (by kernel_rfl)
          replace H := ej2 H; obtain ⟨rfl, rfl⟩ := H
          exact ⟨caq13, ccq14, caq15, ccq16, rfl, h⟩
      ·
        replace H := ifF c17 H
        refine cond_tt hr (b := (r9 != (0 : Int))) (bne_iff_ne.mpr c17) ?_
        refine wp_region_lit ?_
        replace H := bd1 H; obtain ⟨S19, e20, H⟩ := H
        refine ov hr (.pointer (some ⟨b5, 0, none⟩)) (by kernel_rfl) ?_; clear hr a; intro a hr
        have hc := frames_head_end_ok (H := e20) (h := h)
        refine op_call (wn rfl) rfl rfl hr (f := 56) (args := #[.pointer (some ⟨b5, 0, none⟩), .int .i64 1, .int .i64 0]) (by kernel_rfl) hc ?_; clear hc h
        rintro _ w ⟨rfl, h⟩; refine ⟨_, rfl, ?_⟩
        clear hr a; intro a hr
        refine wpList_nil ?_
        refine then_normal ?_
        refine wp_seq ?_
        refine wp_region_lit ?_
        refine op_val (wn rfl) rfl rfl hr (v := .agg #[.int .i64 S19.head_t_Base, .int .i64 S19.head_t_Frames, .int .i64 S19.head_frame, .int .i64 S19.head_stands, .int .i64 S19.head_code, .int .i64 S19.head_v, .int .i64 S19.kind, .int .i64 S19.slot, .int .i64 S19.give]) (rlm (cs := [.int .i64 S19.head_t_Base, .int .i64 S19.head_t_Frames, .int .i64 S19.head_frame, .int .i64 S19.head_stands, .int .i64 S19.head_code, .int .i64 S19.head_v, .int .i64 S19.kind, .int .i64 S19.slot, .int .i64 S19.give]) rfl (by kernel_rfl) (by kernel_rfl) (by kernel_rfl) ⟨h.cell 0 rfl, h.cell 1 rfl, h.cell 2 rfl, h.cell 3 rfl, h.cell 4 rfl, h.cell 5 rfl, h.cell 6 rfl, h.cell 7 rfl, h.cell 8 rfl, trivial⟩) ?_; clear hr a; intro a hr
        replace h : Fit z (sepL (pts b6 (.cells #[.int .i64 0, .int .i64 0, .int .i64 0, .int .i64 0, .int .i64 0, .int .i64 0, .int .i64 0, .int .i64 0, .int .i64 0] 50) :: ob50 b5 S19 :: ob103 B0 S11 caq13 ccq14 caq15 ccq16 :: ro2 caq13 ccq14 S11.cell :: ro96 caq15 ccq16 S11.log :: L)) _ := h.sel 5 [4, 0, 1, 2, 3] (by kernel_rfl) (by kernel_rfl)
        refine op_stores (wn rfl) rfl hr rfl (by kernel_rfl) (by kernel_rfl) (vs := [.int .i64 S19.head_t_Base, .int .i64 S19.head_t_Frames, .int .i64 S19.head_frame, .int .i64 S19.head_stands, .int .i64 S19.head_code, .int .i64 S19.head_v, .int .i64 S19.kind, .int .i64 S19.slot, .int .i64 S19.give]) rfl rfl (by kernel_rfl) h (i := 0) (cs' := #[.int .i64 S19.head_t_Base, .int .i64 S19.head_t_Frames, .int .i64 S19.head_frame, .int .i64 S19.head_stands, .int .i64 S19.head_code, .int .i64 S19.head_v, .int .i64 S19.kind, .int .i64 S19.slot, .int .i64 S19.give]) rfl ?_; clear h; intro w h
        refine wpList_nil ?_
        replace h : Fit z (sepL (ob50 b6 S19 :: ob50 b5 S19 :: ob103 B0 S11 caq13 ccq14 caq15 ccq16 :: ro2 caq13 ccq14 S11.cell :: ro96 caq15 ccq16 S11.log :: L)) _ := h
        refine then_normal ?_
        refine wp_ret ?_
        refine end_retC (cs := [.int .i64 S19.head_t_Base, .int .i64 S19.head_t_Frames, .int .i64 S19.head_frame, .int .i64 S19.head_stands, .int .i64 S19.head_code, .int .i64 S19.head_v, .int .i64 S19.kind, .int .i64 S19.slot, .int .i64 S19.give]) rfl hr (by kernel_rfl) (by kernel_rfl) (by kernel_rfl) ⟨h.cell 0 rfl, h.cell 1 rfl, h.cell 2 rfl, h.cell 3 rfl, h.cell 4 rfl, h.cell 5 rfl, h.cell 6 rfl, h.cell 7 rfl, h.cell 8 rfl, trivial⟩ ?_
        replace h : Fit z (sepL (ob103 B0 S11 caq13 ccq14 caq15 ccq16 :: ro2 caq13 ccq14 S11.cell :: ro96 caq15 ccq16 S11.log :: L)) _ := h.sel 5 [2, 3, 4] (by kernel_rfl) (by kernel_rfl)
        replace H := ej2 H; obtain ⟨rfl, rfl⟩ := H
        exact ⟨caq13, ccq14, caq15, ccq16, rfl, h⟩
    ·
      replace H := ifF c8 H
      refine cond_ff hr (b := (p1.kind == (0 : Int))) (beq_eq_false_iff_ne.mpr c8) ?_
      refine wp_seq ?_
      refine wp_region_lit ?_
      refine ovs [7, 6] [.bool (p1.kind == (1 : Int)), .bool (p1.kind == (1 : Int))] hr ⟨rfl, rfl⟩ (by kernel_rfl) ?_; clear hr a; intro a hr
      refine wpList_nil ?_
      refine then_normal ?_
      by_cases c21 : p1.kind = (1 : Int)
      ·
        replace H := ifT c21 H
        refine cond_tt hr (b := (p1.kind == (1 : Int))) (beq_iff_eq.mpr c21) ?_
        refine wp_seq ?_
        refine wp_region_lit ?_
        refine ov hr (.func (.func 82) #[] #[]) (by kernel_rfl) ?_; clear hr a; intro a hr
        refine wpList_nil ?_
        refine then_normal ?_
        refine wp_ret ?_
        refine blk_ret ?_
        refine then_ret ?_
        refine end_ret1 (v := .func (.func 82) #[] #[]) rfl hr (by kernel_rfl) ?_
        refine ⟨_, rfl, ?_⟩; clear hr a; intro a hr
        replace H := bd3 H; obtain ⟨r22, S23, S24, e25, H⟩ := H
        refine ov hr (.iface 26 (.pointer (some ⟨B0, 0, none⟩))) (by kernel_rfl) ?_; clear hr a; intro a hr
        replace h : Fit z (sepL (ob50 b5 p1 :: ob103 B0 p0 ca1 cc2 ca3 cc4 :: ro2 ca1 cc2 p0.cell :: ro96 ca3 cc4 p0.log :: pts b6 (.cells #[.int .i64 0, .int .i64 0, .int .i64 0, .int .i64 0, .int .i64 0, .int .i64 0, .int .i64 0, .int .i64 0, .int .i64 0] 50) :: L)) _ := h.sel 5 [1, 2, 3, 4, 0] (by kernel_rfl) (by kernel_rfl)
        have hc := frames_Op_fork_iface_ok (H := e25) (h := h)
        refine op_call (wn rfl) rfl rfl hr (f := 82) (args := #[.pointer (some ⟨b5, 0, none⟩), .iface 26 (.pointer (some ⟨B0, 0, none⟩))]) (by kernel_rfl) hc ?_; clear hc h
        rintro _ w ⟨caq26, ccq27, caq28, ccq29, rfl, h⟩; refine ⟨_, rfl, ?_⟩
        clear hr a; intro a hr
        refine ov hr (.int .i64 r22) (by kernel_rfl) ?_; clear hr a; intro a hr
        refine wpList_nil ?_
        refine then_normal ?_
        refine wp_seq ?_
        refine wp_region_lit ?_
        refine ovs [21, 22] [.int .i64 r22, .bool (r22 != (0 : Int))] hr ⟨rfl, rfl⟩ (by kernel_rfl) ?_; clear hr a; intro a hr
        refine wpList_nil ?_
        refine then_normal ?_
        by_cases c30 : r22 = (0 : Int)
        ·
          replace H := ifT c30 H
          refine cond_ff hr (b := (r22 != (0 : Int))) (bne_eq_false_iff_eq.mpr c30) ?_
          refine wp_seq ?_
          refine wp_region_lit ?_
          refine ovs [25, 26] [.pointer (some ⟨b5, 0, none⟩), .pointer (some ⟨b5, 3, none⟩)] hr ⟨rfl, rfl⟩ (by kernel_rfl) ?_; clear hr a; intro a hr
          refine op_val (wn rfl) rfl rfl hr (v := .int .i64 S23.head_stands) (rl rfl (by kernel_rfl) (by kernel_rfl) (h.cell 3 rfl)) ?_; clear hr a; intro a hr
          refine ov hr (.bool (decide (S23.head_stands > (0 : Int)))) (by kernel_rfl) ?_; clear hr a; intro a hr
          refine wpList_nil ?_
          refine then_normal ?_
          by_cases c31 : S23.head_stands > (0 : Int)
          ·
            replace H := ifT c31 H
            refine cond_tt hr (b := (decide (S23.head_stands > (0 : Int)))) (decide_eq_true c31) ?_
            refine wp_region_lit ?_
            refine ovs [29, 30] [.pointer (some ⟨b5, 0, none⟩), .pointer (some ⟨b5, 3, none⟩)] hr ⟨rfl, rfl⟩ (by kernel_rfl) ?_; clear hr a; intro a hr
            refine op_val (wn rfl) rfl rfl hr (v := .int .i64 S23.head_stands) (rl rfl (by kernel_rfl) (by kernel_rfl) (h.cell 3 rfl)) ?_; clear hr a; intro a hr
            refine ovs [32, 33, 34] [.int .i64 (wi (S23.head_stands + (1 : Int))), .pointer (some ⟨b5, 0, none⟩), .pointer (some ⟨b5, 3, none⟩)] hr ⟨rfl, rfl⟩ (by kernel_rfl) ?_; clear hr a; intro a hr
            refine op_store (wn rfl) rfl hr rfl (by kernel_rfl) (by kernel_rfl) (v := .int .i64 (wi (S23.head_stands + (1 : Int)))) rfl rfl (by kernel_rfl) h (i := 3) rfl ?_; clear h; intro w h
            refine wpList_nil ?_
            replace h : Fit z (sepL (pts b5 (.cells #[.int .i64 S23.head_t_Base, .int .i64 S23.head_t_Frames, .int .i64 S23.head_frame, .int .i64 (wi (S23.head_stands + (1 : Int))), .int .i64 S23.head_code, .int .i64 S23.head_v, .int .i64 S23.kind, .int .i64 S23.slot, .int .i64 S23.give] 50) :: ob103 B0 S24 caq26 ccq27 caq28 ccq29 :: ro2 caq26 ccq27 S24.cell :: ro96 caq28 ccq29 S24.log :: pts b6 (.cells #[.int .i64 0, .int .i64 0, .int .i64 0, .int .i64 0, .int .i64 0, .int .i64 0, .int .i64 0, .int .i64 0, .int .i64 0] 50) :: L)) _ := h
            refine then_normal ?_
            refine wp_seq ?_
            refine wp_region_lit ?_
            refine op_val (wn rfl) rfl rfl hr (v := .agg #[.int .i64 S23.head_t_Base, .int .i64 S23.head_t_Frames, .int .i64 S23.head_frame, .int .i64 (wi (S23.head_stands + (1 : Int))), .int .i64 S23.head_code, .int .i64 S23.head_v, .int .i64 S23.kind, .int .i64 S23.slot, .int .i64 S23.give]) (rlm (cs := [.int .i64 S23.head_t_Base, .int .i64 S23.head_t_Frames, .int .i64 S23.head_frame, .int .i64 (wi (S23.head_stands + (1 : Int))), .int .i64 S23.head_code, .int .i64 S23.head_v, .int .i64 S23.kind, .int .i64 S23.slot, .int .i64 S23.give]) rfl (by kernel_rfl) (by kernel_rfl) (by kernel_rfl) ⟨h.cell 0 rfl, h.cell 1 rfl, h.cell 2 rfl, h.cell 3 rfl, h.cell 4 rfl, h.cell 5 rfl, h.cell 6 rfl, h.cell 7 rfl, h.cell 8 rfl, trivial⟩) ?_; clear hr a; intro a hr
            replace h : Fit z (sepL (pts b6 (.cells #[.int .i64 0, .int .i64 0, .int .i64 0, .int .i64 0, .int .i64 0, .int .i64 0, .int .i64 0, .int .i64 0, .int .i64 0] 50) :: pts b5 (.cells #[.int .i64 S23.head_t_Base, .int .i64 S23.head_t_Frames, .int .i64 S23.head_frame, .int .i64 (wi (S23.head_stands + (1 : Int))), .int .i64 S23.head_code, .int .i64 S23.head_v, .int .i64 S23.kind, .int .i64 S23.slot, .int .i64 S23.give] 50) :: ob103 B0 S24 caq26 ccq27 caq28 ccq29 :: ro2 caq26 ccq27 S24.cell :: ro96 caq28 ccq29 S24.log :: L)) _ := h.sel 5 [4, 0, 1, 2, 3] (by kernel_rfl) (by kernel_rfl)
            refine op_stores (wn rfl) rfl hr rfl (by kernel_rfl) (by kernel_rfl) (vs := [.int .i64 S23.head_t_Base, .int .i64 S23.head_t_Frames, .int .i64 S23.head_frame, .int .i64 (wi (S23.head_stands + (1 : Int))), .int .i64 S23.head_code, .int .i64 S23.head_v, .int .i64 S23.kind, .int .i64 S23.slot, .int .i64 S23.give]) rfl rfl (by kernel_rfl) h (i := 0) (cs' := #[.int .i64 S23.head_t_Base, .int .i64 S23.head_t_Frames, .int .i64 S23.head_frame, .int .i64 (wi (S23.head_stands + (1 : Int))), .int .i64 S23.head_code, .int .i64 S23.head_v, .int .i64 S23.kind, .int .i64 S23.slot, .int .i64 S23.give]) rfl ?_; clear h; intro w h
            refine wpList_nil ?_
            replace h : Fit z (sepL (pts b6 (.cells #[.int .i64 S23.head_t_Base, .int .i64 S23.head_t_Frames, .int .i64 S23.head_frame, .int .i64 (wi (S23.head_stands + (1 : Int))), .int .i64 S23.head_code, .int .i64 S23.head_v, .int .i64 S23.kind, .int .i64 S23.slot, .int .i64 S23.give] 50) :: pts b5 (.cells #[.int .i64 S23.head_t_Base, .int .i64 S23.head_t_Frames, .int .i64 S23.head_frame, .int .i64 (wi (S23.head_stands + (1 : Int))), .int .i64 S23.head_code, .int .i64 S23.head_v, .int .i64 S23.kind, .int .i64 S23.slot, .int .i64 S23.give] 50) :: ob103 B0 S24 caq26 ccq27 caq28 ccq29 :: ro2 caq26 ccq27 S24.cell :: ro96 caq28 ccq29 S24.log :: L)) _ := h
            refine then_normal ?_
            refine wp_ret ?_
            refine end_retC (cs := [.int .i64 S23.head_t_Base, .int .i64 S23.head_t_Frames, .int .i64 S23.head_frame, .int .i64 (wi (S23.head_stands + (1 : Int))), .int .i64 S23.head_code, .int .i64 S23.head_v, .int .i64 S23.kind, .int .i64 S23.slot, .int .i64 S23.give]) rfl hr (by kernel_rfl) (by kernel_rfl) (by kernel_rfl) ⟨h.cell 0 rfl, h.cell 1 rfl, h.cell 2 rfl, h.cell 3 rfl, h.cell 4 rfl, h.cell 5 rfl, h.cell 6 rfl, h.cell 7 rfl, h.cell 8 rfl, trivial⟩ ?_
            replace h : Fit z (sepL (ob103 B0 S24 caq26 ccq27 caq28 ccq29 :: ro2 caq26 ccq27 S24.cell :: ro96 caq28 ccq29 S24.log :: L)) _ := h.sel 5 [2, 3, 4] (by kernel_rfl) (by kernel_rfl)
            replace H := ej2 H; obtain ⟨rfl, rfl⟩ := H
            exact ⟨caq26, ccq27, caq28, ccq29, rfl, h⟩
          ·
            replace H := ifF c31 H
            refine cond_ff hr (b := (decide (S23.head_stands > (0 : Int)))) (decide_eq_false c31) ?_
            refine wp_skip ?_
            refine then_normal ?_
            refine wp_seq ?_
            refine wp_region_lit ?_
            refine op_val (wn rfl) rfl rfl hr (v := .agg #[.int .i64 S23.head_t_Base, .int .i64 S23.head_t_Frames, .int .i64 S23.head_frame, .int .i64 S23.head_stands, .int .i64 S23.head_code, .int .i64 S23.head_v, .int .i64 S23.kind, .int .i64 S23.slot, .int .i64 S23.give]) (rlm (cs := [.int .i64 S23.head_t_Base, .int .i64 S23.head_t_Frames, .int .i64 S23.head_frame, .int .i64 S23.head_stands, .int .i64 S23.head_code, .int .i64 S23.head_v, .int .i64 S23.kind, .int .i64 S23.slot, .int .i64 S23.give]) rfl (by kernel_rfl) (by kernel_rfl) (by kernel_rfl) ⟨h.cell 0 rfl, h.cell 1 rfl, h.cell 2 rfl, h.cell 3 rfl, h.cell 4 rfl, h.cell 5 rfl, h.cell 6 rfl, h.cell 7 rfl, h.cell 8 rfl, trivial⟩) ?_; clear hr a; intro a hr
            replace h : Fit z (sepL (pts b6 (.cells #[.int .i64 0, .int .i64 0, .int .i64 0, .int .i64 0, .int .i64 0, .int .i64 0, .int .i64 0, .int .i64 0, .int .i64 0] 50) :: ob50 b5 S23 :: ob103 B0 S24 caq26 ccq27 caq28 ccq29 :: ro2 caq26 ccq27 S24.cell :: ro96 caq28 ccq29 S24.log :: L)) _ := h.sel 5 [4, 0, 1, 2, 3] (by kernel_rfl) (by kernel_rfl)
            refine op_stores (wn rfl) rfl hr rfl (by kernel_rfl) (by kernel_rfl) (vs := [.int .i64 S23.head_t_Base, .int .i64 S23.head_t_Frames, .int .i64 S23.head_frame, .int .i64 S23.head_stands, .int .i64 S23.head_code, .int .i64 S23.head_v, .int .i64 S23.kind, .int .i64 S23.slot, .int .i64 S23.give]) rfl rfl (by kernel_rfl) h (i := 0) (cs' := #[.int .i64 S23.head_t_Base, .int .i64 S23.head_t_Frames, .int .i64 S23.head_frame, .int .i64 S23.head_stands, .int .i64 S23.head_code, .int .i64 S23.head_v, .int .i64 S23.kind, .int .i64 S23.slot, .int .i64 S23.give]) rfl ?_; clear h; intro w h
            refine wpList_nil ?_
            replace h : Fit z (sepL (ob50 b6 S23 :: ob50 b5 S23 :: ob103 B0 S24 caq26 ccq27 caq28 ccq29 :: ro2 caq26 ccq27 S24.cell :: ro96 caq28 ccq29 S24.log :: L)) _ := h
            refine then_normal ?_
            refine wp_ret ?_
            refine end_retC (cs := [.int .i64 S23.head_t_Base, .int .i64 S23.head_t_Frames, .int .i64 S23.head_frame, .int .i64 S23.head_stands, .int .i64 S23.head_code, .int .i64 S23.head_v, .int .i64 S23.kind, .int .i64 S23.slot, .int .i64 S23.give]) rfl hr (by kernel_rfl) (by kernel_rfl) (by kernel_rfl) ⟨h.cell 0 rfl, h.cell 1 rfl, h.cell 2 rfl, h.cell 3 rfl, h.cell 4 rfl, h.cell 5 rfl, h.cell 6 rfl, h.cell 7 rfl, h.cell 8 rfl, trivial⟩ ?_
            replace h : Fit z (sepL (ob103 B0 S24 caq26 ccq27 caq28 ccq29 :: ro2 caq26 ccq27 S24.cell :: ro96 caq28 ccq29 S24.log :: L)) _ := h.sel 5 [2, 3, 4] (by kernel_rfl) (by kernel_rfl)
            replace H := ej2 H; obtain ⟨rfl, rfl⟩ := H
            exact ⟨caq26, ccq27, caq28, ccq29, rfl, h⟩
        ·
          replace H := ifF c30 H
          refine cond_tt hr (b := (r22 != (0 : Int))) (bne_iff_ne.mpr c30) ?_
          refine wp_region_lit ?_
          replace H := bd1 H; obtain ⟨S32, e33, H⟩ := H
          refine ov hr (.pointer (some ⟨b5, 0, none⟩)) (by kernel_rfl) ?_; clear hr a; intro a hr
          have hc := frames_head_end_ok (H := e33) (h := h)
          refine op_call (wn rfl) rfl rfl hr (f := 56) (args := #[.pointer (some ⟨b5, 0, none⟩), .int .i64 1, .int .i64 0]) (by kernel_rfl) hc ?_; clear hc h
          rintro _ w ⟨rfl, h⟩; refine ⟨_, rfl, ?_⟩
          clear hr a; intro a hr
          refine wpList_nil ?_
          refine then_normal ?_
          refine wp_seq ?_
          refine wp_region_lit ?_
          refine op_val (wn rfl) rfl rfl hr (v := .agg #[.int .i64 S32.head_t_Base, .int .i64 S32.head_t_Frames, .int .i64 S32.head_frame, .int .i64 S32.head_stands, .int .i64 S32.head_code, .int .i64 S32.head_v, .int .i64 S32.kind, .int .i64 S32.slot, .int .i64 S32.give]) (rlm (cs := [.int .i64 S32.head_t_Base, .int .i64 S32.head_t_Frames, .int .i64 S32.head_frame, .int .i64 S32.head_stands, .int .i64 S32.head_code, .int .i64 S32.head_v, .int .i64 S32.kind, .int .i64 S32.slot, .int .i64 S32.give]) rfl (by kernel_rfl) (by kernel_rfl) (by kernel_rfl) ⟨h.cell 0 rfl, h.cell 1 rfl, h.cell 2 rfl, h.cell 3 rfl, h.cell 4 rfl, h.cell 5 rfl, h.cell 6 rfl, h.cell 7 rfl, h.cell 8 rfl, trivial⟩) ?_; clear hr a; intro a hr
          replace h : Fit z (sepL (pts b6 (.cells #[.int .i64 0, .int .i64 0, .int .i64 0, .int .i64 0, .int .i64 0, .int .i64 0, .int .i64 0, .int .i64 0, .int .i64 0] 50) :: ob50 b5 S32 :: ob103 B0 S24 caq26 ccq27 caq28 ccq29 :: ro2 caq26 ccq27 S24.cell :: ro96 caq28 ccq29 S24.log :: L)) _ := h.sel 5 [4, 0, 1, 2, 3] (by kernel_rfl) (by kernel_rfl)
          refine op_stores (wn rfl) rfl hr rfl (by kernel_rfl) (by kernel_rfl) (vs := [.int .i64 S32.head_t_Base, .int .i64 S32.head_t_Frames, .int .i64 S32.head_frame, .int .i64 S32.head_stands, .int .i64 S32.head_code, .int .i64 S32.head_v, .int .i64 S32.kind, .int .i64 S32.slot, .int .i64 S32.give]) rfl rfl (by kernel_rfl) h (i := 0) (cs' := #[.int .i64 S32.head_t_Base, .int .i64 S32.head_t_Frames, .int .i64 S32.head_frame, .int .i64 S32.head_stands, .int .i64 S32.head_code, .int .i64 S32.head_v, .int .i64 S32.kind, .int .i64 S32.slot, .int .i64 S32.give]) rfl ?_; clear h; intro w h
          refine wpList_nil ?_
          replace h : Fit z (sepL (ob50 b6 S32 :: ob50 b5 S32 :: ob103 B0 S24 caq26 ccq27 caq28 ccq29 :: ro2 caq26 ccq27 S24.cell :: ro96 caq28 ccq29 S24.log :: L)) _ := h
          refine then_normal ?_
          refine wp_ret ?_
          refine end_retC (cs := [.int .i64 S32.head_t_Base, .int .i64 S32.head_t_Frames, .int .i64 S32.head_frame, .int .i64 S32.head_stands, .int .i64 S32.head_code, .int .i64 S32.head_v, .int .i64 S32.kind, .int .i64 S32.slot, .int .i64 S32.give]) rfl hr (by kernel_rfl) (by kernel_rfl) (by kernel_rfl) ⟨h.cell 0 rfl, h.cell 1 rfl, h.cell 2 rfl, h.cell 3 rfl, h.cell 4 rfl, h.cell 5 rfl, h.cell 6 rfl, h.cell 7 rfl, h.cell 8 rfl, trivial⟩ ?_
          replace h : Fit z (sepL (ob103 B0 S24 caq26 ccq27 caq28 ccq29 :: ro2 caq26 ccq27 S24.cell :: ro96 caq28 ccq29 S24.log :: L)) _ := h.sel 5 [2, 3, 4] (by kernel_rfl) (by kernel_rfl)
          replace H := ej2 H; obtain ⟨rfl, rfl⟩ := H
          exact ⟨caq26, ccq27, caq28, ccq29, rfl, h⟩
      ·
        replace H := ifF c21 H
        refine cond_ff hr (b := (p1.kind == (1 : Int))) (beq_eq_false_iff_ne.mpr c21) ?_
        refine wp_seq ?_
        refine wp_region_lit ?_
        refine ovs [9, 8] [.bool (p1.kind == (2 : Int)), .bool (p1.kind == (2 : Int))] hr ⟨rfl, rfl⟩ (by kernel_rfl) ?_; clear hr a; intro a hr
        refine wpList_nil ?_
        refine then_normal ?_
        by_cases c34 : p1.kind = (2 : Int)
        ·
          replace H := ifT c34 H
          refine cond_tt hr (b := (p1.kind == (2 : Int))) (beq_iff_eq.mpr c34) ?_
          refine wp_seq ?_
          refine wp_region_lit ?_
          refine ov hr (.func (.func 83) #[] #[]) (by kernel_rfl) ?_; clear hr a; intro a hr
          refine wpList_nil ?_
          refine then_normal ?_
          refine wp_ret ?_
          refine blk_ret ?_
          refine then_ret ?_
          refine end_ret1 (v := .func (.func 83) #[] #[]) rfl hr (by kernel_rfl) ?_
          refine ⟨_, rfl, ?_⟩; clear hr a; intro a hr
          replace H := bd3 H; obtain ⟨r35, S36, S37, e38, H⟩ := H
          refine ov hr (.iface 26 (.pointer (some ⟨B0, 0, none⟩))) (by kernel_rfl) ?_; clear hr a; intro a hr
          replace h : Fit z (sepL (ob50 b5 p1 :: ob103 B0 p0 ca1 cc2 ca3 cc4 :: ro2 ca1 cc2 p0.cell :: ro96 ca3 cc4 p0.log :: pts b6 (.cells #[.int .i64 0, .int .i64 0, .int .i64 0, .int .i64 0, .int .i64 0, .int .i64 0, .int .i64 0, .int .i64 0, .int .i64 0] 50) :: L)) _ := h.sel 5 [1, 2, 3, 4, 0] (by kernel_rfl) (by kernel_rfl)
          have hc := frames_Op_finish_iface_ok (H := e38) (h := h)
          refine op_call (wn rfl) rfl rfl hr (f := 83) (args := #[.pointer (some ⟨b5, 0, none⟩), .iface 26 (.pointer (some ⟨B0, 0, none⟩))]) (by kernel_rfl) hc ?_; clear hc h
          rintro _ w ⟨caq39, ccq40, caq41, ccq42, rfl, h⟩; refine ⟨_, rfl, ?_⟩
          clear hr a; intro a hr
          refine ov hr (.int .i64 r35) (by kernel_rfl) ?_; clear hr a; intro a hr
          refine wpList_nil ?_
          refine then_normal ?_
          refine wp_seq ?_
          refine wp_region_lit ?_
          refine ovs [21, 22] [.int .i64 r35, .bool (r35 != (0 : Int))] hr ⟨rfl, rfl⟩ (by kernel_rfl) ?_; clear hr a; intro a hr
          refine wpList_nil ?_
          refine then_normal ?_
          by_cases c43 : r35 = (0 : Int)
          ·
            replace H := ifT c43 H
            refine cond_ff hr (b := (r35 != (0 : Int))) (bne_eq_false_iff_eq.mpr c43) ?_
            refine wp_seq ?_
            refine wp_region_lit ?_
            refine ovs [25, 26] [.pointer (some ⟨b5, 0, none⟩), .pointer (some ⟨b5, 3, none⟩)] hr ⟨rfl, rfl⟩ (by kernel_rfl) ?_; clear hr a; intro a hr
            refine op_val (wn rfl) rfl rfl hr (v := .int .i64 S36.head_stands) (rl rfl (by kernel_rfl) (by kernel_rfl) (h.cell 3 rfl)) ?_; clear hr a; intro a hr
            refine ov hr (.bool (decide (S36.head_stands > (0 : Int)))) (by kernel_rfl) ?_; clear hr a; intro a hr
            refine wpList_nil ?_
            refine then_normal ?_
            by_cases c44 : S36.head_stands > (0 : Int)
            ·
              replace H := ifT c44 H
              refine cond_tt hr (b := (decide (S36.head_stands > (0 : Int)))) (decide_eq_true c44) ?_
              refine wp_region_lit ?_
              refine ovs [29, 30] [.pointer (some ⟨b5, 0, none⟩), .pointer (some ⟨b5, 3, none⟩)] hr ⟨rfl, rfl⟩ (by kernel_rfl) ?_; clear hr a; intro a hr
              refine op_val (wn rfl) rfl rfl hr (v := .int .i64 S36.head_stands) (rl rfl (by kernel_rfl) (by kernel_rfl) (h.cell 3 rfl)) ?_; clear hr a; intro a hr
              refine ovs [32, 33, 34] [.int .i64 (wi (S36.head_stands + (1 : Int))), .pointer (some ⟨b5, 0, none⟩), .pointer (some ⟨b5, 3, none⟩)] hr ⟨rfl, rfl⟩ (by kernel_rfl) ?_; clear hr a; intro a hr
              refine op_store (wn rfl) rfl hr rfl (by kernel_rfl) (by kernel_rfl) (v := .int .i64 (wi (S36.head_stands + (1 : Int)))) rfl rfl (by kernel_rfl) h (i := 3) rfl ?_; clear h; intro w h
              refine wpList_nil ?_
              replace h : Fit z (sepL (pts b5 (.cells #[.int .i64 S36.head_t_Base, .int .i64 S36.head_t_Frames, .int .i64 S36.head_frame, .int .i64 (wi (S36.head_stands + (1 : Int))), .int .i64 S36.head_code, .int .i64 S36.head_v, .int .i64 S36.kind, .int .i64 S36.slot, .int .i64 S36.give] 50) :: ob103 B0 S37 caq39 ccq40 caq41 ccq42 :: ro2 caq39 ccq40 S37.cell :: ro96 caq41 ccq42 S37.log :: pts b6 (.cells #[.int .i64 0, .int .i64 0, .int .i64 0, .int .i64 0, .int .i64 0, .int .i64 0, .int .i64 0, .int .i64 0, .int .i64 0] 50) :: L)) _ := h
              refine then_normal ?_
              refine wp_seq ?_
              refine wp_region_lit ?_
              refine op_val (wn rfl) rfl rfl hr (v := .agg #[.int .i64 S36.head_t_Base, .int .i64 S36.head_t_Frames, .int .i64 S36.head_frame, .int .i64 (wi (S36.head_stands + (1 : Int))), .int .i64 S36.head_code, .int .i64 S36.head_v, .int .i64 S36.kind, .int .i64 S36.slot, .int .i64 S36.give]) (rlm (cs := [.int .i64 S36.head_t_Base, .int .i64 S36.head_t_Frames, .int .i64 S36.head_frame, .int .i64 (wi (S36.head_stands + (1 : Int))), .int .i64 S36.head_code, .int .i64 S36.head_v, .int .i64 S36.kind, .int .i64 S36.slot, .int .i64 S36.give]) rfl (by kernel_rfl) (by kernel_rfl) (by kernel_rfl) ⟨h.cell 0 rfl, h.cell 1 rfl, h.cell 2 rfl, h.cell 3 rfl, h.cell 4 rfl, h.cell 5 rfl, h.cell 6 rfl, h.cell 7 rfl, h.cell 8 rfl, trivial⟩) ?_; clear hr a; intro a hr
              replace h : Fit z (sepL (pts b6 (.cells #[.int .i64 0, .int .i64 0, .int .i64 0, .int .i64 0, .int .i64 0, .int .i64 0, .int .i64 0, .int .i64 0, .int .i64 0] 50) :: pts b5 (.cells #[.int .i64 S36.head_t_Base, .int .i64 S36.head_t_Frames, .int .i64 S36.head_frame, .int .i64 (wi (S36.head_stands + (1 : Int))), .int .i64 S36.head_code, .int .i64 S36.head_v, .int .i64 S36.kind, .int .i64 S36.slot, .int .i64 S36.give] 50) :: ob103 B0 S37 caq39 ccq40 caq41 ccq42 :: ro2 caq39 ccq40 S37.cell :: ro96 caq41 ccq42 S37.log :: L)) _ := h.sel 5 [4, 0, 1, 2, 3] (by kernel_rfl) (by kernel_rfl)
              refine op_stores (wn rfl) rfl hr rfl (by kernel_rfl) (by kernel_rfl) (vs := [.int .i64 S36.head_t_Base, .int .i64 S36.head_t_Frames, .int .i64 S36.head_frame, .int .i64 (wi (S36.head_stands + (1 : Int))), .int .i64 S36.head_code, .int .i64 S36.head_v, .int .i64 S36.kind, .int .i64 S36.slot, .int .i64 S36.give]) rfl rfl (by kernel_rfl) h (i := 0) (cs' := #[.int .i64 S36.head_t_Base, .int .i64 S36.head_t_Frames, .int .i64 S36.head_frame, .int .i64 (wi (S36.head_stands + (1 : Int))), .int .i64 S36.head_code, .int .i64 S36.head_v, .int .i64 S36.kind, .int .i64 S36.slot, .int .i64 S36.give]) rfl ?_; clear h; intro w h
              refine wpList_nil ?_
              replace h : Fit z (sepL (pts b6 (.cells #[.int .i64 S36.head_t_Base, .int .i64 S36.head_t_Frames, .int .i64 S36.head_frame, .int .i64 (wi (S36.head_stands + (1 : Int))), .int .i64 S36.head_code, .int .i64 S36.head_v, .int .i64 S36.kind, .int .i64 S36.slot, .int .i64 S36.give] 50) :: pts b5 (.cells #[.int .i64 S36.head_t_Base, .int .i64 S36.head_t_Frames, .int .i64 S36.head_frame, .int .i64 (wi (S36.head_stands + (1 : Int))), .int .i64 S36.head_code, .int .i64 S36.head_v, .int .i64 S36.kind, .int .i64 S36.slot, .int .i64 S36.give] 50) :: ob103 B0 S37 caq39 ccq40 caq41 ccq42 :: ro2 caq39 ccq40 S37.cell :: ro96 caq41 ccq42 S37.log :: L)) _ := h
              refine then_normal ?_
              refine wp_ret ?_
              refine end_retC (cs := [.int .i64 S36.head_t_Base, .int .i64 S36.head_t_Frames, .int .i64 S36.head_frame, .int .i64 (wi (S36.head_stands + (1 : Int))), .int .i64 S36.head_code, .int .i64 S36.head_v, .int .i64 S36.kind, .int .i64 S36.slot, .int .i64 S36.give]) rfl hr (by kernel_rfl) (by kernel_rfl) (by kernel_rfl) ⟨h.cell 0 rfl, h.cell 1 rfl, h.cell 2 rfl, h.cell 3 rfl, h.cell 4 rfl, h.cell 5 rfl, h.cell 6 rfl, h.cell 7 rfl, h.cell 8 rfl, trivial⟩ ?_
              replace h : Fit z (sepL (ob103 B0 S37 caq39 ccq40 caq41 ccq42 :: ro2 caq39 ccq40 S37.cell :: ro96 caq41 ccq42 S37.log :: L)) _ := h.sel 5 [2, 3, 4] (by kernel_rfl) (by kernel_rfl)
              replace H := ej2 H; obtain ⟨rfl, rfl⟩ := H
              exact ⟨caq39, ccq40, caq41, ccq42, rfl, h⟩
            ·
              replace H := ifF c44 H
              refine cond_ff hr (b := (decide (S36.head_stands > (0 : Int)))) (decide_eq_false c44) ?_
              refine wp_skip ?_
              refine then_normal ?_
              refine wp_seq ?_
              refine wp_region_lit ?_
              refine op_val (wn rfl) rfl rfl hr (v := .agg #[.int .i64 S36.head_t_Base, .int .i64 S36.head_t_Frames, .int .i64 S36.head_frame, .int .i64 S36.head_stands, .int .i64 S36.head_code, .int .i64 S36.head_v, .int .i64 S36.kind, .int .i64 S36.slot, .int .i64 S36.give]) (rlm (cs := [.int .i64 S36.head_t_Base, .int .i64 S36.head_t_Frames, .int .i64 S36.head_frame, .int .i64 S36.head_stands, .int .i64 S36.head_code, .int .i64 S36.head_v, .int .i64 S36.kind, .int .i64 S36.slot, .int .i64 S36.give]) rfl (by kernel_rfl) (by kernel_rfl) (by kernel_rfl) ⟨h.cell 0 rfl, h.cell 1 rfl, h.cell 2 rfl, h.cell 3 rfl, h.cell 4 rfl, h.cell 5 rfl, h.cell 6 rfl, h.cell 7 rfl, h.cell 8 rfl, trivial⟩) ?_; clear hr a; intro a hr
              replace h : Fit z (sepL (pts b6 (.cells #[.int .i64 0, .int .i64 0, .int .i64 0, .int .i64 0, .int .i64 0, .int .i64 0, .int .i64 0, .int .i64 0, .int .i64 0] 50) :: ob50 b5 S36 :: ob103 B0 S37 caq39 ccq40 caq41 ccq42 :: ro2 caq39 ccq40 S37.cell :: ro96 caq41 ccq42 S37.log :: L)) _ := h.sel 5 [4, 0, 1, 2, 3] (by kernel_rfl) (by kernel_rfl)
              refine op_stores (wn rfl) rfl hr rfl (by kernel_rfl) (by kernel_rfl) (vs := [.int .i64 S36.head_t_Base, .int .i64 S36.head_t_Frames, .int .i64 S36.head_frame, .int .i64 S36.head_stands, .int .i64 S36.head_code, .int .i64 S36.head_v, .int .i64 S36.kind, .int .i64 S36.slot, .int .i64 S36.give]) rfl rfl (by kernel_rfl) h (i := 0) (cs' := #[.int .i64 S36.head_t_Base, .int .i64 S36.head_t_Frames, .int .i64 S36.head_frame, .int .i64 S36.head_stands, .int .i64 S36.head_code, .int .i64 S36.head_v, .int .i64 S36.kind, .int .i64 S36.slot, .int .i64 S36.give]) rfl ?_; clear h; intro w h
              refine wpList_nil ?_
              replace h : Fit z (sepL (ob50 b6 S36 :: ob50 b5 S36 :: ob103 B0 S37 caq39 ccq40 caq41 ccq42 :: ro2 caq39 ccq40 S37.cell :: ro96 caq41 ccq42 S37.log :: L)) _ := h
              refine then_normal ?_
              refine wp_ret ?_
              refine end_retC (cs := [.int .i64 S36.head_t_Base, .int .i64 S36.head_t_Frames, .int .i64 S36.head_frame, .int .i64 S36.head_stands, .int .i64 S36.head_code, .int .i64 S36.head_v, .int .i64 S36.kind, .int .i64 S36.slot, .int .i64 S36.give]) rfl hr (by kernel_rfl) (by kernel_rfl) (by kernel_rfl) ⟨h.cell 0 rfl, h.cell 1 rfl, h.cell 2 rfl, h.cell 3 rfl, h.cell 4 rfl, h.cell 5 rfl, h.cell 6 rfl, h.cell 7 rfl, h.cell 8 rfl, trivial⟩ ?_
              replace h : Fit z (sepL (ob103 B0 S37 caq39 ccq40 caq41 ccq42 :: ro2 caq39 ccq40 S37.cell :: ro96 caq41 ccq42 S37.log :: L)) _ := h.sel 5 [2, 3, 4] (by kernel_rfl) (by kernel_rfl)
              replace H := ej2 H; obtain ⟨rfl, rfl⟩ := H
              exact ⟨caq39, ccq40, caq41, ccq42, rfl, h⟩
          ·
            replace H := ifF c43 H
            refine cond_tt hr (b := (r35 != (0 : Int))) (bne_iff_ne.mpr c43) ?_
            refine wp_region_lit ?_
            replace H := bd1 H; obtain ⟨S45, e46, H⟩ := H
            refine ov hr (.pointer (some ⟨b5, 0, none⟩)) (by kernel_rfl) ?_; clear hr a; intro a hr
            have hc := frames_head_end_ok (H := e46) (h := h)
            refine op_call (wn rfl) rfl rfl hr (f := 56) (args := #[.pointer (some ⟨b5, 0, none⟩), .int .i64 1, .int .i64 0]) (by kernel_rfl) hc ?_; clear hc h
            rintro _ w ⟨rfl, h⟩; refine ⟨_, rfl, ?_⟩
            clear hr a; intro a hr
            refine wpList_nil ?_
            refine then_normal ?_
            refine wp_seq ?_
            refine wp_region_lit ?_
            refine op_val (wn rfl) rfl rfl hr (v := .agg #[.int .i64 S45.head_t_Base, .int .i64 S45.head_t_Frames, .int .i64 S45.head_frame, .int .i64 S45.head_stands, .int .i64 S45.head_code, .int .i64 S45.head_v, .int .i64 S45.kind, .int .i64 S45.slot, .int .i64 S45.give]) (rlm (cs := [.int .i64 S45.head_t_Base, .int .i64 S45.head_t_Frames, .int .i64 S45.head_frame, .int .i64 S45.head_stands, .int .i64 S45.head_code, .int .i64 S45.head_v, .int .i64 S45.kind, .int .i64 S45.slot, .int .i64 S45.give]) rfl (by kernel_rfl) (by kernel_rfl) (by kernel_rfl) ⟨h.cell 0 rfl, h.cell 1 rfl, h.cell 2 rfl, h.cell 3 rfl, h.cell 4 rfl, h.cell 5 rfl, h.cell 6 rfl, h.cell 7 rfl, h.cell 8 rfl, trivial⟩) ?_; clear hr a; intro a hr
            replace h : Fit z (sepL (pts b6 (.cells #[.int .i64 0, .int .i64 0, .int .i64 0, .int .i64 0, .int .i64 0, .int .i64 0, .int .i64 0, .int .i64 0, .int .i64 0] 50) :: ob50 b5 S45 :: ob103 B0 S37 caq39 ccq40 caq41 ccq42 :: ro2 caq39 ccq40 S37.cell :: ro96 caq41 ccq42 S37.log :: L)) _ := h.sel 5 [4, 0, 1, 2, 3] (by kernel_rfl) (by kernel_rfl)
            refine op_stores (wn rfl) rfl hr rfl (by kernel_rfl) (by kernel_rfl) (vs := [.int .i64 S45.head_t_Base, .int .i64 S45.head_t_Frames, .int .i64 S45.head_frame, .int .i64 S45.head_stands, .int .i64 S45.head_code, .int .i64 S45.head_v, .int .i64 S45.kind, .int .i64 S45.slot, .int .i64 S45.give]) rfl rfl (by kernel_rfl) h (i := 0) (cs' := #[.int .i64 S45.head_t_Base, .int .i64 S45.head_t_Frames, .int .i64 S45.head_frame, .int .i64 S45.head_stands, .int .i64 S45.head_code, .int .i64 S45.head_v, .int .i64 S45.kind, .int .i64 S45.slot, .int .i64 S45.give]) rfl ?_; clear h; intro w h
            refine wpList_nil ?_
            replace h : Fit z (sepL (ob50 b6 S45 :: ob50 b5 S45 :: ob103 B0 S37 caq39 ccq40 caq41 ccq42 :: ro2 caq39 ccq40 S37.cell :: ro96 caq41 ccq42 S37.log :: L)) _ := h
            refine then_normal ?_
            refine wp_ret ?_
            refine end_retC (cs := [.int .i64 S45.head_t_Base, .int .i64 S45.head_t_Frames, .int .i64 S45.head_frame, .int .i64 S45.head_stands, .int .i64 S45.head_code, .int .i64 S45.head_v, .int .i64 S45.kind, .int .i64 S45.slot, .int .i64 S45.give]) rfl hr (by kernel_rfl) (by kernel_rfl) (by kernel_rfl) ⟨h.cell 0 rfl, h.cell 1 rfl, h.cell 2 rfl, h.cell 3 rfl, h.cell 4 rfl, h.cell 5 rfl, h.cell 6 rfl, h.cell 7 rfl, h.cell 8 rfl, trivial⟩ ?_
            replace h : Fit z (sepL (ob103 B0 S37 caq39 ccq40 caq41 ccq42 :: ro2 caq39 ccq40 S37.cell :: ro96 caq41 ccq42 S37.log :: L)) _ := h.sel 5 [2, 3, 4] (by kernel_rfl) (by kernel_rfl)
            replace H := ej2 H; obtain ⟨rfl, rfl⟩ := H
            exact ⟨caq39, ccq40, caq41, ccq42, rfl, h⟩
        ·
          replace H := ifF c34 H
          refine cond_ff hr (b := (p1.kind == (2 : Int))) (beq_eq_false_iff_ne.mpr c34) ?_
          refine wp_seq ?_
          refine wp_region_lit ?_
          refine ovs [11, 10] [.bool (p1.kind == (3 : Int)), .bool (p1.kind == (3 : Int))] hr ⟨rfl, rfl⟩ (by kernel_rfl) ?_; clear hr a; intro a hr
          refine wpList_nil ?_
          refine then_normal ?_
          by_cases c47 : p1.kind = (3 : Int)
          ·
            replace H := ifT c47 H
            refine cond_tt hr (b := (p1.kind == (3 : Int))) (beq_iff_eq.mpr c47) ?_
            refine wp_seq ?_
            refine wp_region_lit ?_
            refine ov hr (.func (.func 84) #[] #[]) (by kernel_rfl) ?_; clear hr a; intro a hr
            refine wpList_nil ?_
            refine then_normal ?_
            refine wp_ret ?_
            refine blk_ret ?_
            refine then_ret ?_
            refine end_ret1 (v := .func (.func 84) #[] #[]) rfl hr (by kernel_rfl) ?_
            refine ⟨_, rfl, ?_⟩; clear hr a; intro a hr
            replace H := bd3 H; obtain ⟨r48, S49, S50, e51, H⟩ := H
            refine ov hr (.iface 26 (.pointer (some ⟨B0, 0, none⟩))) (by kernel_rfl) ?_; clear hr a; intro a hr
            replace h : Fit z (sepL (ob50 b5 p1 :: ob103 B0 p0 ca1 cc2 ca3 cc4 :: ro2 ca1 cc2 p0.cell :: ro96 ca3 cc4 p0.log :: pts b6 (.cells #[.int .i64 0, .int .i64 0, .int .i64 0, .int .i64 0, .int .i64 0, .int .i64 0, .int .i64 0, .int .i64 0, .int .i64 0] 50) :: L)) _ := h.sel 5 [1, 2, 3, 4, 0] (by kernel_rfl) (by kernel_rfl)
            have hc := frames_Op_sync_iface_ok (H := e51) (h := h)
            refine op_call (wn rfl) rfl rfl hr (f := 84) (args := #[.pointer (some ⟨b5, 0, none⟩), .iface 26 (.pointer (some ⟨B0, 0, none⟩))]) (by kernel_rfl) hc ?_; clear hc h
            rintro _ w ⟨caq52, ccq53, caq54, ccq55, rfl, h⟩; refine ⟨_, rfl, ?_⟩
            clear hr a; intro a hr
            refine ov hr (.int .i64 r48) (by kernel_rfl) ?_; clear hr a; intro a hr
            refine wpList_nil ?_
            refine then_normal ?_
            refine wp_seq ?_
            refine wp_region_lit ?_
            refine ovs [21, 22] [.int .i64 r48, .bool (r48 != (0 : Int))] hr ⟨rfl, rfl⟩ (by kernel_rfl) ?_; clear hr a; intro a hr
            refine wpList_nil ?_
            refine then_normal ?_
            by_cases c56 : r48 = (0 : Int)
            ·
              replace H := ifT c56 H
              refine cond_ff hr (b := (r48 != (0 : Int))) (bne_eq_false_iff_eq.mpr c56) ?_
              refine wp_seq ?_
              refine wp_region_lit ?_
              refine ovs [25, 26] [.pointer (some ⟨b5, 0, none⟩), .pointer (some ⟨b5, 3, none⟩)] hr ⟨rfl, rfl⟩ (by kernel_rfl) ?_; clear hr a; intro a hr
              refine op_val (wn rfl) rfl rfl hr (v := .int .i64 S49.head_stands) (rl rfl (by kernel_rfl) (by kernel_rfl) (h.cell 3 rfl)) ?_; clear hr a; intro a hr
              refine ov hr (.bool (decide (S49.head_stands > (0 : Int)))) (by kernel_rfl) ?_; clear hr a; intro a hr
              refine wpList_nil ?_
              refine then_normal ?_
              by_cases c57 : S49.head_stands > (0 : Int)
              ·
                replace H := ifT c57 H
                refine cond_tt hr (b := (decide (S49.head_stands > (0 : Int)))) (decide_eq_true c57) ?_
                refine wp_region_lit ?_
                refine ovs [29, 30] [.pointer (some ⟨b5, 0, none⟩), .pointer (some ⟨b5, 3, none⟩)] hr ⟨rfl, rfl⟩ (by kernel_rfl) ?_; clear hr a; intro a hr
                refine op_val (wn rfl) rfl rfl hr (v := .int .i64 S49.head_stands) (rl rfl (by kernel_rfl) (by kernel_rfl) (h.cell 3 rfl)) ?_; clear hr a; intro a hr
                refine ovs [32, 33, 34] [.int .i64 (wi (S49.head_stands + (1 : Int))), .pointer (some ⟨b5, 0, none⟩), .pointer (some ⟨b5, 3, none⟩)] hr ⟨rfl, rfl⟩ (by kernel_rfl) ?_; clear hr a; intro a hr
                refine op_store (wn rfl) rfl hr rfl (by kernel_rfl) (by kernel_rfl) (v := .int .i64 (wi (S49.head_stands + (1 : Int)))) rfl rfl (by kernel_rfl) h (i := 3) rfl ?_; clear h; intro w h
                refine wpList_nil ?_
                replace h : Fit z (sepL (pts b5 (.cells #[.int .i64 S49.head_t_Base, .int .i64 S49.head_t_Frames, .int .i64 S49.head_frame, .int .i64 (wi (S49.head_stands + (1 : Int))), .int .i64 S49.head_code, .int .i64 S49.head_v, .int .i64 S49.kind, .int .i64 S49.slot, .int .i64 S49.give] 50) :: ob103 B0 S50 caq52 ccq53 caq54 ccq55 :: ro2 caq52 ccq53 S50.cell :: ro96 caq54 ccq55 S50.log :: pts b6 (.cells #[.int .i64 0, .int .i64 0, .int .i64 0, .int .i64 0, .int .i64 0, .int .i64 0, .int .i64 0, .int .i64 0, .int .i64 0] 50) :: L)) _ := h
                refine then_normal ?_
                refine wp_seq ?_
                refine wp_region_lit ?_
                refine op_val (wn rfl) rfl rfl hr (v := .agg #[.int .i64 S49.head_t_Base, .int .i64 S49.head_t_Frames, .int .i64 S49.head_frame, .int .i64 (wi (S49.head_stands + (1 : Int))), .int .i64 S49.head_code, .int .i64 S49.head_v, .int .i64 S49.kind, .int .i64 S49.slot, .int .i64 S49.give]) (rlm (cs := [.int .i64 S49.head_t_Base, .int .i64 S49.head_t_Frames, .int .i64 S49.head_frame, .int .i64 (wi (S49.head_stands + (1 : Int))), .int .i64 S49.head_code, .int .i64 S49.head_v, .int .i64 S49.kind, .int .i64 S49.slot, .int .i64 S49.give]) rfl (by kernel_rfl) (by kernel_rfl) (by kernel_rfl) ⟨h.cell 0 rfl, h.cell 1 rfl, h.cell 2 rfl, h.cell 3 rfl, h.cell 4 rfl, h.cell 5 rfl, h.cell 6 rfl, h.cell 7 rfl, h.cell 8 rfl, trivial⟩) ?_; clear hr a; intro a hr
                replace h : Fit z (sepL (pts b6 (.cells #[.int .i64 0, .int .i64 0, .int .i64 0, .int .i64 0, .int .i64 0, .int .i64 0, .int .i64 0, .int .i64 0, .int .i64 0] 50) :: pts b5 (.cells #[.int .i64 S49.head_t_Base, .int .i64 S49.head_t_Frames, .int .i64 S49.head_frame, .int .i64 (wi (S49.head_stands + (1 : Int))), .int .i64 S49.head_code, .int .i64 S49.head_v, .int .i64 S49.kind, .int .i64 S49.slot, .int .i64 S49.give] 50) :: ob103 B0 S50 caq52 ccq53 caq54 ccq55 :: ro2 caq52 ccq53 S50.cell :: ro96 caq54 ccq55 S50.log :: L)) _ := h.sel 5 [4, 0, 1, 2, 3] (by kernel_rfl) (by kernel_rfl)
                refine op_stores (wn rfl) rfl hr rfl (by kernel_rfl) (by kernel_rfl) (vs := [.int .i64 S49.head_t_Base, .int .i64 S49.head_t_Frames, .int .i64 S49.head_frame, .int .i64 (wi (S49.head_stands + (1 : Int))), .int .i64 S49.head_code, .int .i64 S49.head_v, .int .i64 S49.kind, .int .i64 S49.slot, .int .i64 S49.give]) rfl rfl (by kernel_rfl) h (i := 0) (cs' := #[.int .i64 S49.head_t_Base, .int .i64 S49.head_t_Frames, .int .i64 S49.head_frame, .int .i64 (wi (S49.head_stands + (1 : Int))), .int .i64 S49.head_code, .int .i64 S49.head_v, .int .i64 S49.kind, .int .i64 S49.slot, .int .i64 S49.give]) rfl ?_; clear h; intro w h
                refine wpList_nil ?_
                replace h : Fit z (sepL (pts b6 (.cells #[.int .i64 S49.head_t_Base, .int .i64 S49.head_t_Frames, .int .i64 S49.head_frame, .int .i64 (wi (S49.head_stands + (1 : Int))), .int .i64 S49.head_code, .int .i64 S49.head_v, .int .i64 S49.kind, .int .i64 S49.slot, .int .i64 S49.give] 50) :: pts b5 (.cells #[.int .i64 S49.head_t_Base, .int .i64 S49.head_t_Frames, .int .i64 S49.head_frame, .int .i64 (wi (S49.head_stands + (1 : Int))), .int .i64 S49.head_code, .int .i64 S49.head_v, .int .i64 S49.kind, .int .i64 S49.slot, .int .i64 S49.give] 50) :: ob103 B0 S50 caq52 ccq53 caq54 ccq55 :: ro2 caq52 ccq53 S50.cell :: ro96 caq54 ccq55 S50.log :: L)) _ := h
                refine then_normal ?_
                refine wp_ret ?_
                refine end_retC (cs := [.int .i64 S49.head_t_Base, .int .i64 S49.head_t_Frames, .int .i64 S49.head_frame, .int .i64 (wi (S49.head_stands + (1 : Int))), .int .i64 S49.head_code, .int .i64 S49.head_v, .int .i64 S49.kind, .int .i64 S49.slot, .int .i64 S49.give]) rfl hr (by kernel_rfl) (by kernel_rfl) (by kernel_rfl) ⟨h.cell 0 rfl, h.cell 1 rfl, h.cell 2 rfl, h.cell 3 rfl, h.cell 4 rfl, h.cell 5 rfl, h.cell 6 rfl, h.cell 7 rfl, h.cell 8 rfl, trivial⟩ ?_
                replace h : Fit z (sepL (ob103 B0 S50 caq52 ccq53 caq54 ccq55 :: ro2 caq52 ccq53 S50.cell :: ro96 caq54 ccq55 S50.log :: L)) _ := h.sel 5 [2, 3, 4] (by kernel_rfl) (by kernel_rfl)
                replace H := ej2 H; obtain ⟨rfl, rfl⟩ := H
                exact ⟨caq52, ccq53, caq54, ccq55, rfl, h⟩
              ·
                replace H := ifF c57 H
                refine cond_ff hr (b := (decide (S49.head_stands > (0 : Int)))) (decide_eq_false c57) ?_
                refine wp_skip ?_
                refine then_normal ?_
                refine wp_seq ?_
                refine wp_region_lit ?_
                refine op_val (wn rfl) rfl rfl hr (v := .agg #[.int .i64 S49.head_t_Base, .int .i64 S49.head_t_Frames, .int .i64 S49.head_frame, .int .i64 S49.head_stands, .int .i64 S49.head_code, .int .i64 S49.head_v, .int .i64 S49.kind, .int .i64 S49.slot, .int .i64 S49.give]) (rlm (cs := [.int .i64 S49.head_t_Base, .int .i64 S49.head_t_Frames, .int .i64 S49.head_frame, .int .i64 S49.head_stands, .int .i64 S49.head_code, .int .i64 S49.head_v, .int .i64 S49.kind, .int .i64 S49.slot, .int .i64 S49.give]) rfl (by kernel_rfl) (by kernel_rfl) (by kernel_rfl) ⟨h.cell 0 rfl, h.cell 1 rfl, h.cell 2 rfl, h.cell 3 rfl, h.cell 4 rfl, h.cell 5 rfl, h.cell 6 rfl, h.cell 7 rfl, h.cell 8 rfl, trivial⟩) ?_; clear hr a; intro a hr
                replace h : Fit z (sepL (pts b6 (.cells #[.int .i64 0, .int .i64 0, .int .i64 0, .int .i64 0, .int .i64 0, .int .i64 0, .int .i64 0, .int .i64 0, .int .i64 0] 50) :: ob50 b5 S49 :: ob103 B0 S50 caq52 ccq53 caq54 ccq55 :: ro2 caq52 ccq53 S50.cell :: ro96 caq54 ccq55 S50.log :: L)) _ := h.sel 5 [4, 0, 1, 2, 3] (by kernel_rfl) (by kernel_rfl)
                refine op_stores (wn rfl) rfl hr rfl (by kernel_rfl) (by kernel_rfl) (vs := [.int .i64 S49.head_t_Base, .int .i64 S49.head_t_Frames, .int .i64 S49.head_frame, .int .i64 S49.head_stands, .int .i64 S49.head_code, .int .i64 S49.head_v, .int .i64 S49.kind, .int .i64 S49.slot, .int .i64 S49.give]) rfl rfl (by kernel_rfl) h (i := 0) (cs' := #[.int .i64 S49.head_t_Base, .int .i64 S49.head_t_Frames, .int .i64 S49.head_frame, .int .i64 S49.head_stands, .int .i64 S49.head_code, .int .i64 S49.head_v, .int .i64 S49.kind, .int .i64 S49.slot, .int .i64 S49.give]) rfl ?_; clear h; intro w h
                refine wpList_nil ?_
                replace h : Fit z (sepL (ob50 b6 S49 :: ob50 b5 S49 :: ob103 B0 S50 caq52 ccq53 caq54 ccq55 :: ro2 caq52 ccq53 S50.cell :: ro96 caq54 ccq55 S50.log :: L)) _ := h
                refine then_normal ?_
                refine wp_ret ?_
                refine end_retC (cs := [.int .i64 S49.head_t_Base, .int .i64 S49.head_t_Frames, .int .i64 S49.head_frame, .int .i64 S49.head_stands, .int .i64 S49.head_code, .int .i64 S49.head_v, .int .i64 S49.kind, .int .i64 S49.slot, .int .i64 S49.give]) rfl hr (by kernel_rfl) (by kernel_rfl) (by kernel_rfl) ⟨h.cell 0 rfl, h.cell 1 rfl, h.cell 2 rfl, h.cell 3 rfl, h.cell 4 rfl, h.cell 5 rfl, h.cell 6 rfl, h.cell 7 rfl, h.cell 8 rfl, trivial⟩ ?_
                replace h : Fit z (sepL (ob103 B0 S50 caq52 ccq53 caq54 ccq55 :: ro2 caq52 ccq53 S50.cell :: ro96 caq54 ccq55 S50.log :: L)) _ := h.sel 5 [2, 3, 4] (by kernel_rfl) (by kernel_rfl)
                replace H := ej2 H; obtain ⟨rfl, rfl⟩ := H
                exact ⟨caq52, ccq53, caq54, ccq55, rfl, h⟩
            ·
              replace H := ifF c56 H
              refine cond_tt hr (b := (r48 != (0 : Int))) (bne_iff_ne.mpr c56) ?_
              refine wp_region_lit ?_
              replace H := bd1 H; obtain ⟨S58, e59, H⟩ := H
              refine ov hr (.pointer (some ⟨b5, 0, none⟩)) (by kernel_rfl) ?_; clear hr a; intro a hr
              have hc := frames_head_end_ok (H := e59) (h := h)
              refine op_call (wn rfl) rfl rfl hr (f := 56) (args := #[.pointer (some ⟨b5, 0, none⟩), .int .i64 1, .int .i64 0]) (by kernel_rfl) hc ?_; clear hc h
              rintro _ w ⟨rfl, h⟩; refine ⟨_, rfl, ?_⟩
              clear hr a; intro a hr
              refine wpList_nil ?_
              refine then_normal ?_
              refine wp_seq ?_
              refine wp_region_lit ?_
              refine op_val (wn rfl) rfl rfl hr (v := .agg #[.int .i64 S58.head_t_Base, .int .i64 S58.head_t_Frames, .int .i64 S58.head_frame, .int .i64 S58.head_stands, .int .i64 S58.head_code, .int .i64 S58.head_v, .int .i64 S58.kind, .int .i64 S58.slot, .int .i64 S58.give]) (rlm (cs := [.int .i64 S58.head_t_Base, .int .i64 S58.head_t_Frames, .int .i64 S58.head_frame, .int .i64 S58.head_stands, .int .i64 S58.head_code, .int .i64 S58.head_v, .int .i64 S58.kind, .int .i64 S58.slot, .int .i64 S58.give]) rfl (by kernel_rfl) (by kernel_rfl) (by kernel_rfl) ⟨h.cell 0 rfl, h.cell 1 rfl, h.cell 2 rfl, h.cell 3 rfl, h.cell 4 rfl, h.cell 5 rfl, h.cell 6 rfl, h.cell 7 rfl, h.cell 8 rfl, trivial⟩) ?_; clear hr a; intro a hr
              replace h : Fit z (sepL (pts b6 (.cells #[.int .i64 0, .int .i64 0, .int .i64 0, .int .i64 0, .int .i64 0, .int .i64 0, .int .i64 0, .int .i64 0, .int .i64 0] 50) :: ob50 b5 S58 :: ob103 B0 S50 caq52 ccq53 caq54 ccq55 :: ro2 caq52 ccq53 S50.cell :: ro96 caq54 ccq55 S50.log :: L)) _ := h.sel 5 [4, 0, 1, 2, 3] (by kernel_rfl) (by kernel_rfl)
              refine op_stores (wn rfl) rfl hr rfl (by kernel_rfl) (by kernel_rfl) (vs := [.int .i64 S58.head_t_Base, .int .i64 S58.head_t_Frames, .int .i64 S58.head_frame, .int .i64 S58.head_stands, .int .i64 S58.head_code, .int .i64 S58.head_v, .int .i64 S58.kind, .int .i64 S58.slot, .int .i64 S58.give]) rfl rfl (by kernel_rfl) h (i := 0) (cs' := #[.int .i64 S58.head_t_Base, .int .i64 S58.head_t_Frames, .int .i64 S58.head_frame, .int .i64 S58.head_stands, .int .i64 S58.head_code, .int .i64 S58.head_v, .int .i64 S58.kind, .int .i64 S58.slot, .int .i64 S58.give]) rfl ?_; clear h; intro w h
              refine wpList_nil ?_
              replace h : Fit z (sepL (ob50 b6 S58 :: ob50 b5 S58 :: ob103 B0 S50 caq52 ccq53 caq54 ccq55 :: ro2 caq52 ccq53 S50.cell :: ro96 caq54 ccq55 S50.log :: L)) _ := h
              refine then_normal ?_
              refine wp_ret ?_
              refine end_retC (cs := [.int .i64 S58.head_t_Base, .int .i64 S58.head_t_Frames, .int .i64 S58.head_frame, .int .i64 S58.head_stands, .int .i64 S58.head_code, .int .i64 S58.head_v, .int .i64 S58.kind, .int .i64 S58.slot, .int .i64 S58.give]) rfl hr (by kernel_rfl) (by kernel_rfl) (by kernel_rfl) ⟨h.cell 0 rfl, h.cell 1 rfl, h.cell 2 rfl, h.cell 3 rfl, h.cell 4 rfl, h.cell 5 rfl, h.cell 6 rfl, h.cell 7 rfl, h.cell 8 rfl, trivial⟩ ?_
              replace h : Fit z (sepL (ob103 B0 S50 caq52 ccq53 caq54 ccq55 :: ro2 caq52 ccq53 S50.cell :: ro96 caq54 ccq55 S50.log :: L)) _ := h.sel 5 [2, 3, 4] (by kernel_rfl) (by kernel_rfl)
              replace H := ej2 H; obtain ⟨rfl, rfl⟩ := H
              exact ⟨caq52, ccq53, caq54, ccq55, rfl, h⟩
          ·
            replace H := ifF c47 H
            refine cond_ff hr (b := (p1.kind == (3 : Int))) (beq_eq_false_iff_ne.mpr c47) ?_
            refine wp_seq ?_
            refine wp_region_lit ?_
            refine ovs [13, 12] [.bool (p1.kind == (4 : Int)), .bool (p1.kind == (4 : Int))] hr ⟨rfl, rfl⟩ (by kernel_rfl) ?_; clear hr a; intro a hr
            refine wpList_nil ?_
            refine then_normal ?_
            by_cases c60 : p1.kind = (4 : Int)
            ·
              replace H := ifT c60 H
              refine cond_tt hr (b := (p1.kind == (4 : Int))) (beq_iff_eq.mpr c60) ?_
              refine wp_seq ?_
              refine wp_region_lit ?_
              refine ov hr (.func (.func 85) #[] #[]) (by kernel_rfl) ?_; clear hr a; intro a hr
              refine wpList_nil ?_
              refine then_normal ?_
              refine wp_ret ?_
              refine blk_ret ?_
              refine then_ret ?_
              refine end_ret1 (v := .func (.func 85) #[] #[]) rfl hr (by kernel_rfl) ?_
              refine ⟨_, rfl, ?_⟩; clear hr a; intro a hr
              replace H := bd3 H; obtain ⟨r61, S62, S63, e64, H⟩ := H
              refine ov hr (.iface 26 (.pointer (some ⟨B0, 0, none⟩))) (by kernel_rfl) ?_; clear hr a; intro a hr
              replace h : Fit z (sepL (ob50 b5 p1 :: ob103 B0 p0 ca1 cc2 ca3 cc4 :: ro2 ca1 cc2 p0.cell :: ro96 ca3 cc4 p0.log :: pts b6 (.cells #[.int .i64 0, .int .i64 0, .int .i64 0, .int .i64 0, .int .i64 0, .int .i64 0, .int .i64 0, .int .i64 0, .int .i64 0] 50) :: L)) _ := h.sel 5 [1, 2, 3, 4, 0] (by kernel_rfl) (by kernel_rfl)
              have hc := frames_Op_start_iface_ok (H := e64) (h := h)
              refine op_call (wn rfl) rfl rfl hr (f := 85) (args := #[.pointer (some ⟨b5, 0, none⟩), .iface 26 (.pointer (some ⟨B0, 0, none⟩))]) (by kernel_rfl) hc ?_; clear hc h
              rintro _ w ⟨caq65, ccq66, caq67, ccq68, rfl, h⟩; refine ⟨_, rfl, ?_⟩
              clear hr a; intro a hr
              refine ov hr (.int .i64 r61) (by kernel_rfl) ?_; clear hr a; intro a hr
              refine wpList_nil ?_
              refine then_normal ?_
              refine wp_seq ?_
              refine wp_region_lit ?_
              refine ovs [21, 22] [.int .i64 r61, .bool (r61 != (0 : Int))] hr ⟨rfl, rfl⟩ (by kernel_rfl) ?_; clear hr a; intro a hr
              refine wpList_nil ?_
              refine then_normal ?_
              by_cases c69 : r61 = (0 : Int)
              ·
                replace H := ifT c69 H
                refine cond_ff hr (b := (r61 != (0 : Int))) (bne_eq_false_iff_eq.mpr c69) ?_
                refine wp_seq ?_
                refine wp_region_lit ?_
                refine ovs [25, 26] [.pointer (some ⟨b5, 0, none⟩), .pointer (some ⟨b5, 3, none⟩)] hr ⟨rfl, rfl⟩ (by kernel_rfl) ?_; clear hr a; intro a hr
                refine op_val (wn rfl) rfl rfl hr (v := .int .i64 S62.head_stands) (rl rfl (by kernel_rfl) (by kernel_rfl) (h.cell 3 rfl)) ?_; clear hr a; intro a hr
                refine ov hr (.bool (decide (S62.head_stands > (0 : Int)))) (by kernel_rfl) ?_; clear hr a; intro a hr
                refine wpList_nil ?_
                refine then_normal ?_
                by_cases c70 : S62.head_stands > (0 : Int)
                ·
                  replace H := ifT c70 H
                  refine cond_tt hr (b := (decide (S62.head_stands > (0 : Int)))) (decide_eq_true c70) ?_
                  refine wp_region_lit ?_
                  refine ovs [29, 30] [.pointer (some ⟨b5, 0, none⟩), .pointer (some ⟨b5, 3, none⟩)] hr ⟨rfl, rfl⟩ (by kernel_rfl) ?_; clear hr a; intro a hr
                  refine op_val (wn rfl) rfl rfl hr (v := .int .i64 S62.head_stands) (rl rfl (by kernel_rfl) (by kernel_rfl) (h.cell 3 rfl)) ?_; clear hr a; intro a hr
                  refine ovs [32, 33, 34] [.int .i64 (wi (S62.head_stands + (1 : Int))), .pointer (some ⟨b5, 0, none⟩), .pointer (some ⟨b5, 3, none⟩)] hr ⟨rfl, rfl⟩ (by kernel_rfl) ?_; clear hr a; intro a hr
                  refine op_store (wn rfl) rfl hr rfl (by kernel_rfl) (by kernel_rfl) (v := .int .i64 (wi (S62.head_stands + (1 : Int)))) rfl rfl (by kernel_rfl) h (i := 3) rfl ?_; clear h; intro w h
                  refine wpList_nil ?_
                  replace h : Fit z (sepL (pts b5 (.cells #[.int .i64 S62.head_t_Base, .int .i64 S62.head_t_Frames, .int .i64 S62.head_frame, .int .i64 (wi (S62.head_stands + (1 : Int))), .int .i64 S62.head_code, .int .i64 S62.head_v, .int .i64 S62.kind, .int .i64 S62.slot, .int .i64 S62.give] 50) :: ob103 B0 S63 caq65 ccq66 caq67 ccq68 :: ro2 caq65 ccq66 S63.cell :: ro96 caq67 ccq68 S63.log :: pts b6 (.cells #[.int .i64 0, .int .i64 0, .int .i64 0, .int .i64 0, .int .i64 0, .int .i64 0, .int .i64 0, .int .i64 0, .int .i64 0] 50) :: L)) _ := h
                  refine then_normal ?_
                  refine wp_seq ?_
                  refine wp_region_lit ?_
                  refine op_val (wn rfl) rfl rfl hr (v := .agg #[.int .i64 S62.head_t_Base, .int .i64 S62.head_t_Frames, .int .i64 S62.head_frame, .int .i64 (wi (S62.head_stands + (1 : Int))), .int .i64 S62.head_code, .int .i64 S62.head_v, .int .i64 S62.kind, .int .i64 S62.slot, .int .i64 S62.give]) (rlm (cs := [.int .i64 S62.head_t_Base, .int .i64 S62.head_t_Frames, .int .i64 S62.head_frame, .int .i64 (wi (S62.head_stands + (1 : Int))), .int .i64 S62.head_code, .int .i64 S62.head_v, .int .i64 S62.kind, .int .i64 S62.slot, .int .i64 S62.give]) rfl (by kernel_rfl) (by kernel_rfl) (by kernel_rfl) ⟨h.cell 0 rfl, h.cell 1 rfl, h.cell 2 rfl, h.cell 3 rfl, h.cell 4 rfl, h.cell 5 rfl, h.cell 6 rfl, h.cell 7 rfl, h.cell 8 rfl, trivial⟩) ?_; clear hr a; intro a hr
                  replace h : Fit z (sepL (pts b6 (.cells #[.int .i64 0, .int .i64 0, .int .i64 0, .int .i64 0, .int .i64 0, .int .i64 0, .int .i64 0, .int .i64 0, .int .i64 0] 50) :: pts b5 (.cells #[.int .i64 S62.head_t_Base, .int .i64 S62.head_t_Frames, .int .i64 S62.head_frame, .int .i64 (wi (S62.head_stands + (1 : Int))), .int .i64 S62.head_code, .int .i64 S62.head_v, .int .i64 S62.kind, .int .i64 S62.slot, .int .i64 S62.give] 50) :: ob103 B0 S63 caq65 ccq66 caq67 ccq68 :: ro2 caq65 ccq66 S63.cell :: ro96 caq67 ccq68 S63.log :: L)) _ := h.sel 5 [4, 0, 1, 2, 3] (by kernel_rfl) (by kernel_rfl)
                  refine op_stores (wn rfl) rfl hr rfl (by kernel_rfl) (by kernel_rfl) (vs := [.int .i64 S62.head_t_Base, .int .i64 S62.head_t_Frames, .int .i64 S62.head_frame, .int .i64 (wi (S62.head_stands + (1 : Int))), .int .i64 S62.head_code, .int .i64 S62.head_v, .int .i64 S62.kind, .int .i64 S62.slot, .int .i64 S62.give]) rfl rfl (by kernel_rfl) h (i := 0) (cs' := #[.int .i64 S62.head_t_Base, .int .i64 S62.head_t_Frames, .int .i64 S62.head_frame, .int .i64 (wi (S62.head_stands + (1 : Int))), .int .i64 S62.head_code, .int .i64 S62.head_v, .int .i64 S62.kind, .int .i64 S62.slot, .int .i64 S62.give]) rfl ?_; clear h; intro w h
                  refine wpList_nil ?_
                  replace h : Fit z (sepL (pts b6 (.cells #[.int .i64 S62.head_t_Base, .int .i64 S62.head_t_Frames, .int .i64 S62.head_frame, .int .i64 (wi (S62.head_stands + (1 : Int))), .int .i64 S62.head_code, .int .i64 S62.head_v, .int .i64 S62.kind, .int .i64 S62.slot, .int .i64 S62.give] 50) :: pts b5 (.cells #[.int .i64 S62.head_t_Base, .int .i64 S62.head_t_Frames, .int .i64 S62.head_frame, .int .i64 (wi (S62.head_stands + (1 : Int))), .int .i64 S62.head_code, .int .i64 S62.head_v, .int .i64 S62.kind, .int .i64 S62.slot, .int .i64 S62.give] 50) :: ob103 B0 S63 caq65 ccq66 caq67 ccq68 :: ro2 caq65 ccq66 S63.cell :: ro96 caq67 ccq68 S63.log :: L)) _ := h
                  refine then_normal ?_
                  refine wp_ret ?_
                  refine end_retC (cs := [.int .i64 S62.head_t_Base, .int .i64 S62.head_t_Frames, .int .i64 S62.head_frame, .int .i64 (wi (S62.head_stands + (1 : Int))), .int .i64 S62.head_code, .int .i64 S62.head_v, .int .i64 S62.kind, .int .i64 S62.slot, .int .i64 S62.give]) rfl hr (by kernel_rfl) (by kernel_rfl) (by kernel_rfl) ⟨h.cell 0 rfl, h.cell 1 rfl, h.cell 2 rfl, h.cell 3 rfl, h.cell 4 rfl, h.cell 5 rfl, h.cell 6 rfl, h.cell 7 rfl, h.cell 8 rfl, trivial⟩ ?_
                  replace h : Fit z (sepL (ob103 B0 S63 caq65 ccq66 caq67 ccq68 :: ro2 caq65 ccq66 S63.cell :: ro96 caq67 ccq68 S63.log :: L)) _ := h.sel 5 [2, 3, 4] (by kernel_rfl) (by kernel_rfl)
                  replace H := ej2 H; obtain ⟨rfl, rfl⟩ := H
                  exact ⟨caq65, ccq66, caq67, ccq68, rfl, h⟩
                ·
                  replace H := ifF c70 H
                  refine cond_ff hr (b := (decide (S62.head_stands > (0 : Int)))) (decide_eq_false c70) ?_
                  refine wp_skip ?_
                  refine then_normal ?_
                  refine wp_seq ?_
                  refine wp_region_lit ?_
                  refine op_val (wn rfl) rfl rfl hr (v := .agg #[.int .i64 S62.head_t_Base, .int .i64 S62.head_t_Frames, .int .i64 S62.head_frame, .int .i64 S62.head_stands, .int .i64 S62.head_code, .int .i64 S62.head_v, .int .i64 S62.kind, .int .i64 S62.slot, .int .i64 S62.give]) (rlm (cs := [.int .i64 S62.head_t_Base, .int .i64 S62.head_t_Frames, .int .i64 S62.head_frame, .int .i64 S62.head_stands, .int .i64 S62.head_code, .int .i64 S62.head_v, .int .i64 S62.kind, .int .i64 S62.slot, .int .i64 S62.give]) rfl (by kernel_rfl) (by kernel_rfl) (by kernel_rfl) ⟨h.cell 0 rfl, h.cell 1 rfl, h.cell 2 rfl, h.cell 3 rfl, h.cell 4 rfl, h.cell 5 rfl, h.cell 6 rfl, h.cell 7 rfl, h.cell 8 rfl, trivial⟩) ?_; clear hr a; intro a hr
                  replace h : Fit z (sepL (pts b6 (.cells #[.int .i64 0, .int .i64 0, .int .i64 0, .int .i64 0, .int .i64 0, .int .i64 0, .int .i64 0, .int .i64 0, .int .i64 0] 50) :: ob50 b5 S62 :: ob103 B0 S63 caq65 ccq66 caq67 ccq68 :: ro2 caq65 ccq66 S63.cell :: ro96 caq67 ccq68 S63.log :: L)) _ := h.sel 5 [4, 0, 1, 2, 3] (by kernel_rfl) (by kernel_rfl)
                  refine op_stores (wn rfl) rfl hr rfl (by kernel_rfl) (by kernel_rfl) (vs := [.int .i64 S62.head_t_Base, .int .i64 S62.head_t_Frames, .int .i64 S62.head_frame, .int .i64 S62.head_stands, .int .i64 S62.head_code, .int .i64 S62.head_v, .int .i64 S62.kind, .int .i64 S62.slot, .int .i64 S62.give]) rfl rfl (by kernel_rfl) h (i := 0) (cs' := #[.int .i64 S62.head_t_Base, .int .i64 S62.head_t_Frames, .int .i64 S62.head_frame, .int .i64 S62.head_stands, .int .i64 S62.head_code, .int .i64 S62.head_v, .int .i64 S62.kind, .int .i64 S62.slot, .int .i64 S62.give]) rfl ?_; clear h; intro w h
                  refine wpList_nil ?_
                  replace h : Fit z (sepL (ob50 b6 S62 :: ob50 b5 S62 :: ob103 B0 S63 caq65 ccq66 caq67 ccq68 :: ro2 caq65 ccq66 S63.cell :: ro96 caq67 ccq68 S63.log :: L)) _ := h
                  refine then_normal ?_
                  refine wp_ret ?_
                  refine end_retC (cs := [.int .i64 S62.head_t_Base, .int .i64 S62.head_t_Frames, .int .i64 S62.head_frame, .int .i64 S62.head_stands, .int .i64 S62.head_code, .int .i64 S62.head_v, .int .i64 S62.kind, .int .i64 S62.slot, .int .i64 S62.give]) rfl hr (by kernel_rfl) (by kernel_rfl) (by kernel_rfl) ⟨h.cell 0 rfl, h.cell 1 rfl, h.cell 2 rfl, h.cell 3 rfl, h.cell 4 rfl, h.cell 5 rfl, h.cell 6 rfl, h.cell 7 rfl, h.cell 8 rfl, trivial⟩ ?_
                  replace h : Fit z (sepL (ob103 B0 S63 caq65 ccq66 caq67 ccq68 :: ro2 caq65 ccq66 S63.cell :: ro96 caq67 ccq68 S63.log :: L)) _ := h.sel 5 [2, 3, 4] (by kernel_rfl) (by kernel_rfl)
                  replace H := ej2 H; obtain ⟨rfl, rfl⟩ := H
                  exact ⟨caq65, ccq66, caq67, ccq68, rfl, h⟩
              ·
                replace H := ifF c69 H
                refine cond_tt hr (b := (r61 != (0 : Int))) (bne_iff_ne.mpr c69) ?_
                refine wp_region_lit ?_
                replace H := bd1 H; obtain ⟨S71, e72, H⟩ := H
                refine ov hr (.pointer (some ⟨b5, 0, none⟩)) (by kernel_rfl) ?_; clear hr a; intro a hr
                have hc := frames_head_end_ok (H := e72) (h := h)
                refine op_call (wn rfl) rfl rfl hr (f := 56) (args := #[.pointer (some ⟨b5, 0, none⟩), .int .i64 1, .int .i64 0]) (by kernel_rfl) hc ?_; clear hc h
                rintro _ w ⟨rfl, h⟩; refine ⟨_, rfl, ?_⟩
                clear hr a; intro a hr
                refine wpList_nil ?_
                refine then_normal ?_
                refine wp_seq ?_
                refine wp_region_lit ?_
                refine op_val (wn rfl) rfl rfl hr (v := .agg #[.int .i64 S71.head_t_Base, .int .i64 S71.head_t_Frames, .int .i64 S71.head_frame, .int .i64 S71.head_stands, .int .i64 S71.head_code, .int .i64 S71.head_v, .int .i64 S71.kind, .int .i64 S71.slot, .int .i64 S71.give]) (rlm (cs := [.int .i64 S71.head_t_Base, .int .i64 S71.head_t_Frames, .int .i64 S71.head_frame, .int .i64 S71.head_stands, .int .i64 S71.head_code, .int .i64 S71.head_v, .int .i64 S71.kind, .int .i64 S71.slot, .int .i64 S71.give]) rfl (by kernel_rfl) (by kernel_rfl) (by kernel_rfl) ⟨h.cell 0 rfl, h.cell 1 rfl, h.cell 2 rfl, h.cell 3 rfl, h.cell 4 rfl, h.cell 5 rfl, h.cell 6 rfl, h.cell 7 rfl, h.cell 8 rfl, trivial⟩) ?_; clear hr a; intro a hr
                replace h : Fit z (sepL (pts b6 (.cells #[.int .i64 0, .int .i64 0, .int .i64 0, .int .i64 0, .int .i64 0, .int .i64 0, .int .i64 0, .int .i64 0, .int .i64 0] 50) :: ob50 b5 S71 :: ob103 B0 S63 caq65 ccq66 caq67 ccq68 :: ro2 caq65 ccq66 S63.cell :: ro96 caq67 ccq68 S63.log :: L)) _ := h.sel 5 [4, 0, 1, 2, 3] (by kernel_rfl) (by kernel_rfl)
                refine op_stores (wn rfl) rfl hr rfl (by kernel_rfl) (by kernel_rfl) (vs := [.int .i64 S71.head_t_Base, .int .i64 S71.head_t_Frames, .int .i64 S71.head_frame, .int .i64 S71.head_stands, .int .i64 S71.head_code, .int .i64 S71.head_v, .int .i64 S71.kind, .int .i64 S71.slot, .int .i64 S71.give]) rfl rfl (by kernel_rfl) h (i := 0) (cs' := #[.int .i64 S71.head_t_Base, .int .i64 S71.head_t_Frames, .int .i64 S71.head_frame, .int .i64 S71.head_stands, .int .i64 S71.head_code, .int .i64 S71.head_v, .int .i64 S71.kind, .int .i64 S71.slot, .int .i64 S71.give]) rfl ?_; clear h; intro w h
                refine wpList_nil ?_
                replace h : Fit z (sepL (ob50 b6 S71 :: ob50 b5 S71 :: ob103 B0 S63 caq65 ccq66 caq67 ccq68 :: ro2 caq65 ccq66 S63.cell :: ro96 caq67 ccq68 S63.log :: L)) _ := h
                refine then_normal ?_
                refine wp_ret ?_
                refine end_retC (cs := [.int .i64 S71.head_t_Base, .int .i64 S71.head_t_Frames, .int .i64 S71.head_frame, .int .i64 S71.head_stands, .int .i64 S71.head_code, .int .i64 S71.head_v, .int .i64 S71.kind, .int .i64 S71.slot, .int .i64 S71.give]) rfl hr (by kernel_rfl) (by kernel_rfl) (by kernel_rfl) ⟨h.cell 0 rfl, h.cell 1 rfl, h.cell 2 rfl, h.cell 3 rfl, h.cell 4 rfl, h.cell 5 rfl, h.cell 6 rfl, h.cell 7 rfl, h.cell 8 rfl, trivial⟩ ?_
                replace h : Fit z (sepL (ob103 B0 S63 caq65 ccq66 caq67 ccq68 :: ro2 caq65 ccq66 S63.cell :: ro96 caq67 ccq68 S63.log :: L)) _ := h.sel 5 [2, 3, 4] (by kernel_rfl) (by kernel_rfl)
                replace H := ej2 H; obtain ⟨rfl, rfl⟩ := H
                exact ⟨caq65, ccq66, caq67, ccq68, rfl, h⟩
            ·
              replace H := ifF c60 H
              refine cond_ff hr (b := (p1.kind == (4 : Int))) (beq_eq_false_iff_ne.mpr c60) ?_
              refine wp_skip ?_
              refine blk_normal ?_
              refine then_normal ?_
              refine wp_seq ?_
              refine wp_region_lit ?_
              refine ov hr (.func (.func 86) #[] #[]) (by kernel_rfl) ?_; clear hr a; intro a hr
              refine wpList_nil ?_
              refine then_normal ?_
              refine wp_ret ?_
              refine end_ret1 (v := .func (.func 86) #[] #[]) rfl hr (by kernel_rfl) ?_
              refine ⟨_, rfl, ?_⟩; clear hr a; intro a hr
              replace H := bd3 H; obtain ⟨r73, S74, S75, e76, H⟩ := H
              refine ov hr (.iface 26 (.pointer (some ⟨B0, 0, none⟩))) (by kernel_rfl) ?_; clear hr a; intro a hr
              replace h : Fit z (sepL (ob50 b5 p1 :: ob103 B0 p0 ca1 cc2 ca3 cc4 :: ro2 ca1 cc2 p0.cell :: ro96 ca3 cc4 p0.log :: pts b6 (.cells #[.int .i64 0, .int .i64 0, .int .i64 0, .int .i64 0, .int .i64 0, .int .i64 0, .int .i64 0, .int .i64 0, .int .i64 0] 50) :: L)) _ := h.sel 5 [1, 2, 3, 4, 0] (by kernel_rfl) (by kernel_rfl)
              have hc := frames_Op_fetch_iface_ok (H := e76) (h := h)
              refine op_call (wn rfl) rfl rfl hr (f := 86) (args := #[.pointer (some ⟨b5, 0, none⟩), .iface 26 (.pointer (some ⟨B0, 0, none⟩))]) (by kernel_rfl) hc ?_; clear hc h
              rintro _ w ⟨caq77, ccq78, caq79, ccq80, rfl, h⟩; refine ⟨_, rfl, ?_⟩
              clear hr a; intro a hr
              refine ov hr (.int .i64 r73) (by kernel_rfl) ?_; clear hr a; intro a hr
              refine wpList_nil ?_
              refine then_normal ?_
              refine wp_seq ?_
              refine wp_region_lit ?_
              refine ovs [21, 22] [.int .i64 r73, .bool (r73 != (0 : Int))] hr ⟨rfl, rfl⟩ (by kernel_rfl) ?_; clear hr a; intro a hr
              refine wpList_nil ?_
              refine then_normal ?_
              by_cases c81 : r73 = (0 : Int)
              ·
                replace H := ifT c81 H
                refine cond_ff hr (b := (r73 != (0 : Int))) (bne_eq_false_iff_eq.mpr c81) ?_
                refine wp_seq ?_
                refine wp_region_lit ?_
                refine ovs [25, 26] [.pointer (some ⟨b5, 0, none⟩), .pointer (some ⟨b5, 3, none⟩)] hr ⟨rfl, rfl⟩ (by kernel_rfl) ?_; clear hr a; intro a hr
                refine op_val (wn rfl) rfl rfl hr (v := .int .i64 S74.head_stands) (rl rfl (by kernel_rfl) (by kernel_rfl) (h.cell 3 rfl)) ?_; clear hr a; intro a hr
                refine ov hr (.bool (decide (S74.head_stands > (0 : Int)))) (by kernel_rfl) ?_; clear hr a; intro a hr
                refine wpList_nil ?_
                refine then_normal ?_
                by_cases c82 : S74.head_stands > (0 : Int)
                ·
                  replace H := ifT c82 H
                  refine cond_tt hr (b := (decide (S74.head_stands > (0 : Int)))) (decide_eq_true c82) ?_
                  refine wp_region_lit ?_
                  refine ovs [29, 30] [.pointer (some ⟨b5, 0, none⟩), .pointer (some ⟨b5, 3, none⟩)] hr ⟨rfl, rfl⟩ (by kernel_rfl) ?_; clear hr a; intro a hr
                  refine op_val (wn rfl) rfl rfl hr (v := .int .i64 S74.head_stands) (rl rfl (by kernel_rfl) (by kernel_rfl) (h.cell 3 rfl)) ?_; clear hr a; intro a hr
                  refine ovs [32, 33, 34] [.int .i64 (wi (S74.head_stands + (1 : Int))), .pointer (some ⟨b5, 0, none⟩), .pointer (some ⟨b5, 3, none⟩)] hr ⟨rfl, rfl⟩ (by kernel_rfl) ?_; clear hr a; intro a hr
                  refine op_store (wn rfl) rfl hr rfl (by kernel_rfl) (by kernel_rfl) (v := .int .i64 (wi (S74.head_stands + (1 : Int)))) rfl rfl (by kernel_rfl) h (i := 3) rfl ?_; clear h; intro w h
                  refine wpList_nil ?_
                  replace h : Fit z (sepL (pts b5 (.cells #[.int .i64 S74.head_t_Base, .int .i64 S74.head_t_Frames, .int .i64 S74.head_frame, .int .i64 (wi (S74.head_stands + (1 : Int))), .int .i64 S74.head_code, .int .i64 S74.head_v, .int .i64 S74.kind, .int .i64 S74.slot, .int .i64 S74.give] 50) :: ob103 B0 S75 caq77 ccq78 caq79 ccq80 :: ro2 caq77 ccq78 S75.cell :: ro96 caq79 ccq80 S75.log :: pts b6 (.cells #[.int .i64 0, .int .i64 0, .int .i64 0, .int .i64 0, .int .i64 0, .int .i64 0, .int .i64 0, .int .i64 0, .int .i64 0] 50) :: L)) _ := h
                  refine then_normal ?_
                  refine wp_seq ?_
                  refine wp_region_lit ?_
                  refine op_val (wn rfl) rfl rfl hr (v := .agg #[.int .i64 S74.head_t_Base, .int .i64 S74.head_t_Frames, .int .i64 S74.head_frame, .int .i64 (wi (S74.head_stands + (1 : Int))), .int .i64 S74.head_code, .int .i64 S74.head_v, .int .i64 S74.kind, .int .i64 S74.slot, .int .i64 S74.give]) (rlm (cs := [.int .i64 S74.head_t_Base, .int .i64 S74.head_t_Frames, .int .i64 S74.head_frame, .int .i64 (wi (S74.head_stands + (1 : Int))), .int .i64 S74.head_code, .int .i64 S74.head_v, .int .i64 S74.kind, .int .i64 S74.slot, .int .i64 S74.give]) rfl (by kernel_rfl) (by kernel_rfl) (by kernel_rfl) ⟨h.cell 0 rfl, h.cell 1 rfl, h.cell 2 rfl, h.cell 3 rfl, h.cell 4 rfl, h.cell 5 rfl, h.cell 6 rfl, h.cell 7 rfl, h.cell 8 rfl, trivial⟩) ?_; clear hr a; intro a hr
                  replace h : Fit z (sepL (pts b6 (.cells #[.int .i64 0, .int .i64 0, .int .i64 0, .int .i64 0, .int .i64 0, .int .i64 0, .int .i64 0, .int .i64 0, .int .i64 0] 50) :: pts b5 (.cells #[.int .i64 S74.head_t_Base, .int .i64 S74.head_t_Frames, .int .i64 S74.head_frame, .int .i64 (wi (S74.head_stands + (1 : Int))), .int .i64 S74.head_code, .int .i64 S74.head_v, .int .i64 S74.kind, .int .i64 S74.slot, .int .i64 S74.give] 50) :: ob103 B0 S75 caq77 ccq78 caq79 ccq80 :: ro2 caq77 ccq78 S75.cell :: ro96 caq79 ccq80 S75.log :: L)) _ := h.sel 5 [4, 0, 1, 2, 3] (by kernel_rfl) (by kernel_rfl)
                  refine op_stores (wn rfl) rfl hr rfl (by kernel_rfl) (by kernel_rfl) (vs := [.int .i64 S74.head_t_Base, .int .i64 S74.head_t_Frames, .int .i64 S74.head_frame, .int .i64 (wi (S74.head_stands + (1 : Int))), .int .i64 S74.head_code, .int .i64 S74.head_v, .int .i64 S74.kind, .int .i64 S74.slot, .int .i64 S74.give]) rfl rfl (by kernel_rfl) h (i := 0) (cs' := #[.int .i64 S74.head_t_Base, .int .i64 S74.head_t_Frames, .int .i64 S74.head_frame, .int .i64 (wi (S74.head_stands + (1 : Int))), .int .i64 S74.head_code, .int .i64 S74.head_v, .int .i64 S74.kind, .int .i64 S74.slot, .int .i64 S74.give]) rfl ?_; clear h; intro w h
                  refine wpList_nil ?_
                  replace h : Fit z (sepL (pts b6 (.cells #[.int .i64 S74.head_t_Base, .int .i64 S74.head_t_Frames, .int .i64 S74.head_frame, .int .i64 (wi (S74.head_stands + (1 : Int))), .int .i64 S74.head_code, .int .i64 S74.head_v, .int .i64 S74.kind, .int .i64 S74.slot, .int .i64 S74.give] 50) :: pts b5 (.cells #[.int .i64 S74.head_t_Base, .int .i64 S74.head_t_Frames, .int .i64 S74.head_frame, .int .i64 (wi (S74.head_stands + (1 : Int))), .int .i64 S74.head_code, .int .i64 S74.head_v, .int .i64 S74.kind, .int .i64 S74.slot, .int .i64 S74.give] 50) :: ob103 B0 S75 caq77 ccq78 caq79 ccq80 :: ro2 caq77 ccq78 S75.cell :: ro96 caq79 ccq80 S75.log :: L)) _ := h
                  refine then_normal ?_
                  refine wp_ret ?_
                  refine end_retC (cs := [.int .i64 S74.head_t_Base, .int .i64 S74.head_t_Frames, .int .i64 S74.head_frame, .int .i64 (wi (S74.head_stands + (1 : Int))), .int .i64 S74.head_code, .int .i64 S74.head_v, .int .i64 S74.kind, .int .i64 S74.slot, .int .i64 S74.give]) rfl hr (by kernel_rfl) (by kernel_rfl) (by kernel_rfl) ⟨h.cell 0 rfl, h.cell 1 rfl, h.cell 2 rfl, h.cell 3 rfl, h.cell 4 rfl, h.cell 5 rfl, h.cell 6 rfl, h.cell 7 rfl, h.cell 8 rfl, trivial⟩ ?_
                  replace h : Fit z (sepL (ob103 B0 S75 caq77 ccq78 caq79 ccq80 :: ro2 caq77 ccq78 S75.cell :: ro96 caq79 ccq80 S75.log :: L)) _ := h.sel 5 [2, 3, 4] (by kernel_rfl) (by kernel_rfl)
                  replace H := ej2 H; obtain ⟨rfl, rfl⟩ := H
                  exact ⟨caq77, ccq78, caq79, ccq80, rfl, h⟩
                ·
                  replace H := ifF c82 H
                  refine cond_ff hr (b := (decide (S74.head_stands > (0 : Int)))) (decide_eq_false c82) ?_
                  refine wp_skip ?_
                  refine then_normal ?_
                  refine wp_seq ?_
                  refine wp_region_lit ?_
                  refine op_val (wn rfl) rfl rfl hr (v := .agg #[.int .i64 S74.head_t_Base, .int .i64 S74.head_t_Frames, .int .i64 S74.head_frame, .int .i64 S74.head_stands, .int .i64 S74.head_code, .int .i64 S74.head_v, .int .i64 S74.kind, .int .i64 S74.slot, .int .i64 S74.give]) (rlm (cs := [.int .i64 S74.head_t_Base, .int .i64 S74.head_t_Frames, .int .i64 S74.head_frame, .int .i64 S74.head_stands, .int .i64 S74.head_code, .int .i64 S74.head_v, .int .i64 S74.kind, .int .i64 S74.slot, .int .i64 S74.give]) rfl (by kernel_rfl) (by kernel_rfl) (by kernel_rfl) ⟨h.cell 0 rfl, h.cell 1 rfl, h.cell 2 rfl, h.cell 3 rfl, h.cell 4 rfl, h.cell 5 rfl, h.cell 6 rfl, h.cell 7 rfl, h.cell 8 rfl, trivial⟩) ?_; clear hr a; intro a hr
                  replace h : Fit z (sepL (pts b6 (.cells #[.int .i64 0, .int .i64 0, .int .i64 0, .int .i64 0, .int .i64 0, .int .i64 0, .int .i64 0, .int .i64 0, .int .i64 0] 50) :: ob50 b5 S74 :: ob103 B0 S75 caq77 ccq78 caq79 ccq80 :: ro2 caq77 ccq78 S75.cell :: ro96 caq79 ccq80 S75.log :: L)) _ := h.sel 5 [4, 0, 1, 2, 3] (by kernel_rfl) (by kernel_rfl)
                  refine op_stores (wn rfl) rfl hr rfl (by kernel_rfl) (by kernel_rfl) (vs := [.int .i64 S74.head_t_Base, .int .i64 S74.head_t_Frames, .int .i64 S74.head_frame, .int .i64 S74.head_stands, .int .i64 S74.head_code, .int .i64 S74.head_v, .int .i64 S74.kind, .int .i64 S74.slot, .int .i64 S74.give]) rfl rfl (by kernel_rfl) h (i := 0) (cs' := #[.int .i64 S74.head_t_Base, .int .i64 S74.head_t_Frames, .int .i64 S74.head_frame, .int .i64 S74.head_stands, .int .i64 S74.head_code, .int .i64 S74.head_v, .int .i64 S74.kind, .int .i64 S74.slot, .int .i64 S74.give]) rfl ?_; clear h; intro w h
                  refine wpList_nil ?_
                  replace h : Fit z (sepL (ob50 b6 S74 :: ob50 b5 S74 :: ob103 B0 S75 caq77 ccq78 caq79 ccq80 :: ro2 caq77 ccq78 S75.cell :: ro96 caq79 ccq80 S75.log :: L)) _ := h
                  refine then_normal ?_
                  refine wp_ret ?_
                  refine end_retC (cs := [.int .i64 S74.head_t_Base, .int .i64 S74.head_t_Frames, .int .i64 S74.head_frame, .int .i64 S74.head_stands, .int .i64 S74.head_code, .int .i64 S74.head_v, .int .i64 S74.kind, .int .i64 S74.slot, .int .i64 S74.give]) rfl hr (by kernel_rfl) (by kernel_rfl) (by kernel_rfl) ⟨h.cell 0 rfl, h.cell 1 rfl, h.cell 2 rfl, h.cell 3 rfl, h.cell 4 rfl, h.cell 5 rfl, h.cell 6 rfl, h.cell 7 rfl, h.cell 8 rfl, trivial⟩ ?_
                  replace h : Fit z (sepL (ob103 B0 S75 caq77 ccq78 caq79 ccq80 :: ro2 caq77 ccq78 S75.cell :: ro96 caq79 ccq80 S75.log :: L)) _ := h.sel 5 [2, 3, 4] (by kernel_rfl) (by kernel_rfl)
                  replace H := ej2 H; obtain ⟨rfl, rfl⟩ := H
                  exact ⟨caq77, ccq78, caq79, ccq80, rfl, h⟩
              ·
                replace H := ifF c81 H
                refine cond_tt hr (b := (r73 != (0 : Int))) (bne_iff_ne.mpr c81) ?_
                refine wp_region_lit ?_
                replace H := bd1 H; obtain ⟨S83, e84, H⟩ := H
                refine ov hr (.pointer (some ⟨b5, 0, none⟩)) (by kernel_rfl) ?_; clear hr a; intro a hr
                have hc := frames_head_end_ok (H := e84) (h := h)
                refine op_call (wn rfl) rfl rfl hr (f := 56) (args := #[.pointer (some ⟨b5, 0, none⟩), .int .i64 1, .int .i64 0]) (by kernel_rfl) hc ?_; clear hc h
                rintro _ w ⟨rfl, h⟩; refine ⟨_, rfl, ?_⟩
                clear hr a; intro a hr
                refine wpList_nil ?_
                refine then_normal ?_
                refine wp_seq ?_
                refine wp_region_lit ?_
                refine op_val (wn rfl) rfl rfl hr (v := .agg #[.int .i64 S83.head_t_Base, .int .i64 S83.head_t_Frames, .int .i64 S83.head_frame, .int .i64 S83.head_stands, .int .i64 S83.head_code, .int .i64 S83.head_v, .int .i64 S83.kind, .int .i64 S83.slot, .int .i64 S83.give]) (rlm (cs := [.int .i64 S83.head_t_Base, .int .i64 S83.head_t_Frames, .int .i64 S83.head_frame, .int .i64 S83.head_stands, .int .i64 S83.head_code, .int .i64 S83.head_v, .int .i64 S83.kind, .int .i64 S83.slot, .int .i64 S83.give]) rfl (by kernel_rfl) (by kernel_rfl) (by kernel_rfl) ⟨h.cell 0 rfl, h.cell 1 rfl, h.cell 2 rfl, h.cell 3 rfl, h.cell 4 rfl, h.cell 5 rfl, h.cell 6 rfl, h.cell 7 rfl, h.cell 8 rfl, trivial⟩) ?_; clear hr a; intro a hr
                replace h : Fit z (sepL (pts b6 (.cells #[.int .i64 0, .int .i64 0, .int .i64 0, .int .i64 0, .int .i64 0, .int .i64 0, .int .i64 0, .int .i64 0, .int .i64 0] 50) :: ob50 b5 S83 :: ob103 B0 S75 caq77 ccq78 caq79 ccq80 :: ro2 caq77 ccq78 S75.cell :: ro96 caq79 ccq80 S75.log :: L)) _ := h.sel 5 [4, 0, 1, 2, 3] (by kernel_rfl) (by kernel_rfl)
                refine op_stores (wn rfl) rfl hr rfl (by kernel_rfl) (by kernel_rfl) (vs := [.int .i64 S83.head_t_Base, .int .i64 S83.head_t_Frames, .int .i64 S83.head_frame, .int .i64 S83.head_stands, .int .i64 S83.head_code, .int .i64 S83.head_v, .int .i64 S83.kind, .int .i64 S83.slot, .int .i64 S83.give]) rfl rfl (by kernel_rfl) h (i := 0) (cs' := #[.int .i64 S83.head_t_Base, .int .i64 S83.head_t_Frames, .int .i64 S83.head_frame, .int .i64 S83.head_stands, .int .i64 S83.head_code, .int .i64 S83.head_v, .int .i64 S83.kind, .int .i64 S83.slot, .int .i64 S83.give]) rfl ?_; clear h; intro w h
                refine wpList_nil ?_
                replace h : Fit z (sepL (ob50 b6 S83 :: ob50 b5 S83 :: ob103 B0 S75 caq77 ccq78 caq79 ccq80 :: ro2 caq77 ccq78 S75.cell :: ro96 caq79 ccq80 S75.log :: L)) _ := h
                refine then_normal ?_
                refine wp_ret ?_
                refine end_retC (cs := [.int .i64 S83.head_t_Base, .int .i64 S83.head_t_Frames, .int .i64 S83.head_frame, .int .i64 S83.head_stands, .int .i64 S83.head_code, .int .i64 S83.head_v, .int .i64 S83.kind, .int .i64 S83.slot, .int .i64 S83.give]) rfl hr (by kernel_rfl) (by kernel_rfl) (by kernel_rfl) ⟨h.cell 0 rfl, h.cell 1 rfl, h.cell 2 rfl, h.cell 3 rfl, h.cell 4 rfl, h.cell 5 rfl, h.cell 6 rfl, h.cell 7 rfl, h.cell 8 rfl, trivial⟩ ?_
                replace h : Fit z (sepL (ob103 B0 S75 caq77 ccq78 caq79 ccq80 :: ro2 caq77 ccq78 S75.cell :: ro96 caq79 ccq80 S75.log :: L)) _ := h.sel 5 [2, 3, 4] (by kernel_rfl) (by kernel_rfl)
                replace H := ej2 H; obtain ⟨rfl, rfl⟩ := H
                exact ⟨caq77, ccq78, caq79, ccq80, rfl, h⟩

/-- (plunder/plunderref8.Op).want -/
def plunderref8_Op__want (p0 : T_plunderref8_Op) : Option (T_api_Act) :=
  (if p0.Kind = (0 : Int) then some (⟨0, 3, p0.Next, 1, 0⟩ : T_api_Act) else (if p0.Kind = (1 : Int) then some (⟨0, 3, p0.Join, 1, 0⟩ : T_api_Act) else (if p0.Kind = (2 : Int) then (if p0.Made = (0 : Int) then some (⟨0, 1, p0.Cell, p0.V, 0⟩ : T_api_Act) else (if p0.Made = (2 : Int) then some (⟨0, 1, p0.Join, 1, 0⟩ : T_api_Act) else some (⟨0, 3, p0.Join, -1, 0⟩ : T_api_Act))) else (if p0.Kind = (3 : Int) then (if p0.Made = (1 : Int) then some (⟨0, 1, p0.Join, 1, 0⟩ : T_api_Act) else some (⟨0, 3, p0.Join, -1, 0⟩ : T_api_Act)) else (if p0.Kind = (4 : Int) then some (⟨0, 3, wi (p0.Join + (1 : Int)), 1, 0⟩ : T_api_Act) else some (⟨0, 0, p0.Cell, 0, 0⟩ : T_api_Act))))))
set_option maxRecDepth 100000 in
set_option maxHeartbeats 4000000 in
theorem plunderref8_Op__want_ok {z w : World} {L : List HProp} {p0 : T_plunderref8_Op} {r0 : T_api_Act} (H : plunderref8_Op__want p0 = some r0) (h : Fit z (sepL (L)) w)  :
    Calls Try.prog 66 #[.agg #[.int .i64 p0.Kind, .int .i64 p0.Join, .int .i64 p0.Cell, .int .i64 p0.V, .int .i64 p0.Next, .int .i64 p0.Frames, .int .i64 p0.Made, .int .i64 p0.Code, .int .i64 p0.Came]] w fun e w => e = .returned (.agg #[.int .i64 r0.Who, .int .i64 r0.Kind, .int .i64 r0.Addr, .int .i64 r0.A, .int .i64 r0.B]) ∧ Fit z (sepL (L)) w := by
  unfold plunderref8_Op__want at H
  refine enter Try.func66 rfl 56 rfl rfl [(0, .agg #[.int .i64 p0.Kind, .int .i64 p0.Join, .int .i64 p0.Cell, .int .i64 p0.V, .int .i64 p0.Next, .int .i64 p0.Frames, .int .i64 p0.Made, .int .i64 p0.Code, .int .i64 p0.Came])] ⟨rfl, trivial⟩ ?_
  intro j a hr
  refine wp_seq ?_
  refine wp_region_lit ?_
  refine op_new (wn rfl) rfl rfl hr h (vf := fun b => .pointer (some ⟨b, 0, none⟩)) (cs := #[.int .i64 p0.Kind, .int .i64 p0.Join, .int .i64 p0.Cell, .int .i64 p0.V, .int .i64 p0.Next, .int .i64 p0.Frames, .int .i64 p0.Made, .int .i64 p0.Code, .int .i64 p0.Came]) (T := 78) (by kernel_rfl) ?_; clear h hr a; intro b1 w a h hr
  refine op_new (wn rfl) rfl rfl hr h (vf := fun b => .pointer (some ⟨b, 0, none⟩)) (cs := #[.int .i64 0, .int .i64 0, .int .i64 0, .int .i64 0, .int .i64 0]) (T := 69) (by kernel_rfl) ?_; clear h hr a; intro b2 w a h hr
  refine wpList_nil ?_
  refine then_normal ?_
  refine wp_seq ?_
  refine wp_region_lit ?_
  refine ov hr (.pointer (some ⟨b1, 1, none⟩)) (by kernel_rfl) ?_; clear hr a; intro a hr
  refine op_val (wn rfl) rfl rfl hr (v := .int .i64 p0.Join) (rl rfl (by kernel_rfl) (by kernel_rfl) ((h.pick 1).cell 1 rfl)) ?_; clear hr a; intro a hr
  refine ov hr (.agg #[.int .i64 0, .int .i64 3, .int .i64 p0.Join, .int .i64 1, .int .i64 0]) (by kernel_rfl) ?_; clear hr a; intro a hr
  refine op_new (wn rfl) rfl rfl hr h (vf := fun b => .pointer (some ⟨b, 0, none⟩)) (cs := #[.int .i64 0, .int .i64 0, .int .i64 0, .int .i64 0, .int .i64 0]) (T := 69) (by kernel_rfl) ?_; clear h hr a; intro b3 w a h hr
  refine op_stores (wn rfl) rfl hr rfl (by kernel_rfl) (by kernel_rfl) (vs := [.int .i64 0, .int .i64 3, .int .i64 p0.Join, .int .i64 1, .int .i64 0]) rfl rfl (by kernel_rfl) h (i := 0) (cs' := #[.int .i64 0, .int .i64 3, .int .i64 p0.Join, .int .i64 1, .int .i64 0]) rfl ?_; clear h; intro w h
  refine wpList_nil ?_
  replace h : Fit z (sepL (pts b3 (.cells #[.int .i64 0, .int .i64 3, .int .i64 p0.Join, .int .i64 1, .int .i64 0] 69) :: pts b2 (.cells #[.int .i64 0, .int .i64 0, .int .i64 0, .int .i64 0, .int .i64 0] 69) :: ob78 b1 p0 :: L)) _ := h
  refine then_normal ?_
  refine wp_seq ?_
  refine wp_region_lit ?_
  refine ov hr (.pointer (some ⟨b1, 1, none⟩)) (by kernel_rfl) ?_; clear hr a; intro a hr
  refine op_val (wn rfl) rfl rfl hr (v := .int .i64 p0.Join) (rl rfl (by kernel_rfl) (by kernel_rfl) ((h.pick 2).cell 1 rfl)) ?_; clear hr a; intro a hr
  refine ov hr (.agg #[.int .i64 0, .int .i64 1, .int .i64 p0.Join, .int .i64 1, .int .i64 0]) (by kernel_rfl) ?_; clear hr a; intro a hr
  refine op_new (wn rfl) rfl rfl hr h (vf := fun b => .pointer (some ⟨b, 0, none⟩)) (cs := #[.int .i64 0, .int .i64 0, .int .i64 0, .int .i64 0, .int .i64 0]) (T := 69) (by kernel_rfl) ?_; clear h hr a; intro b4 w a h hr
  refine op_stores (wn rfl) rfl hr rfl (by kernel_rfl) (by kernel_rfl) (vs := [.int .i64 0, .int .i64 1, .int .i64 p0.Join, .int .i64 1, .int .i64 0]) rfl rfl (by kernel_rfl) h (i := 0) (cs' := #[.int .i64 0, .int .i64 1, .int .i64 p0.Join, .int .i64 1, .int .i64 0]) rfl ?_; clear h; intro w h
  refine wpList_nil ?_
  replace h : Fit z (sepL (pts b4 (.cells #[.int .i64 0, .int .i64 1, .int .i64 p0.Join, .int .i64 1, .int .i64 0] 69) :: pts b3 (.cells #[.int .i64 0, .int .i64 3, .int .i64 p0.Join, .int .i64 1, .int .i64 0] 69) :: pts b2 (.cells #[.int .i64 0, .int .i64 0, .int .i64 0, .int .i64 0, .int .i64 0] 69) :: ob78 b1 p0 :: L)) _ := h
  refine then_normal ?_
  refine wp_seq ?_
  refine wp_seq ?_
  refine wp_region_lit ?_
  refine ov hr (.pointer (some ⟨b1, 0, none⟩)) (by kernel_rfl) ?_; clear hr a; intro a hr
  refine op_val (wn rfl) rfl rfl hr (v := .int .i64 p0.Kind) (rl rfl (by kernel_rfl) (by kernel_rfl) ((h.pick 3).cell 0 rfl)) ?_; clear hr a; intro a hr
  refine wpList_nil ?_
  refine then_normal ?_
  refine wp_block ?_
  refine wp_seq ?_
  refine wp_region_lit ?_
  refine ovs [14, 13] [.bool (p0.Kind == (0 : Int)), .bool (p0.Kind == (0 : Int))] hr ⟨rfl, rfl⟩ (by kernel_rfl) ?_; clear hr a; intro a hr
  refine wpList_nil ?_
  refine then_normal ?_
  by_cases c5 : p0.Kind = (0 : Int)
  ·
    replace H := ifT c5 H
    refine cond_tt hr (b := (p0.Kind == (0 : Int))) (beq_iff_eq.mpr c5) ?_
    refine wp_seq ?_
    refine wp_region_lit ?_
    refine ov hr (.pointer (some ⟨b1, 4, none⟩)) (by kernel_rfl) ?_; clear hr a; intro a hr
    refine op_val (wn rfl) rfl rfl hr (v := .int .i64 p0.Next) (rl rfl (by kernel_rfl) (by kernel_rfl) ((h.pick 3).cell 4 rfl)) ?_; clear hr a; intro a hr
    refine ov hr (.pointer (some ⟨b3, 2, none⟩)) (by kernel_rfl) ?_; clear hr a; intro a hr
    replace h : Fit z (sepL (pts b3 (.cells #[.int .i64 0, .int .i64 3, .int .i64 p0.Join, .int .i64 1, .int .i64 0] 69) :: pts b4 (.cells #[.int .i64 0, .int .i64 1, .int .i64 p0.Join, .int .i64 1, .int .i64 0] 69) :: pts b2 (.cells #[.int .i64 0, .int .i64 0, .int .i64 0, .int .i64 0, .int .i64 0] 69) :: ob78 b1 p0 :: L)) _ := h.sel 4 [1, 0, 2, 3] (by kernel_rfl) (by kernel_rfl)
    refine op_store (wn rfl) rfl hr rfl (by kernel_rfl) (by kernel_rfl) (v := .int .i64 p0.Next) rfl rfl (by kernel_rfl) h (i := 2) rfl ?_; clear h; intro w h
    refine wpList_nil ?_
    replace h : Fit z (sepL (pts b3 (.cells #[.int .i64 0, .int .i64 3, .int .i64 p0.Next, .int .i64 1, .int .i64 0] 69) :: pts b4 (.cells #[.int .i64 0, .int .i64 1, .int .i64 p0.Join, .int .i64 1, .int .i64 0] 69) :: pts b2 (.cells #[.int .i64 0, .int .i64 0, .int .i64 0, .int .i64 0, .int .i64 0] 69) :: ob78 b1 p0 :: L)) _ := h
    refine then_normal ?_
    refine wp_seq ?_
    refine wp_region_lit ?_
    refine op_val (wn rfl) rfl rfl hr (v := .agg #[.int .i64 0, .int .i64 3, .int .i64 p0.Next, .int .i64 1, .int .i64 0]) (rlm (cs := [.int .i64 0, .int .i64 3, .int .i64 p0.Next, .int .i64 1, .int .i64 0]) rfl (by kernel_rfl) (by kernel_rfl) (by kernel_rfl) ⟨h.cell 0 rfl, h.cell 1 rfl, h.cell 2 rfl, h.cell 3 rfl, h.cell 4 rfl, trivial⟩) ?_; clear hr a; intro a hr
    replace h : Fit z (sepL (pts b2 (.cells #[.int .i64 0, .int .i64 0, .int .i64 0, .int .i64 0, .int .i64 0] 69) :: pts b3 (.cells #[.int .i64 0, .int .i64 3, .int .i64 p0.Next, .int .i64 1, .int .i64 0] 69) :: pts b4 (.cells #[.int .i64 0, .int .i64 1, .int .i64 p0.Join, .int .i64 1, .int .i64 0] 69) :: ob78 b1 p0 :: L)) _ := h.sel 4 [2, 0, 1, 3] (by kernel_rfl) (by kernel_rfl)
    refine op_stores (wn rfl) rfl hr rfl (by kernel_rfl) (by kernel_rfl) (vs := [.int .i64 0, .int .i64 3, .int .i64 p0.Next, .int .i64 1, .int .i64 0]) rfl rfl (by kernel_rfl) h (i := 0) (cs' := #[.int .i64 0, .int .i64 3, .int .i64 p0.Next, .int .i64 1, .int .i64 0]) rfl ?_; clear h; intro w h
    refine wpList_nil ?_
    replace h : Fit z (sepL (pts b2 (.cells #[.int .i64 0, .int .i64 3, .int .i64 p0.Next, .int .i64 1, .int .i64 0] 69) :: pts b3 (.cells #[.int .i64 0, .int .i64 3, .int .i64 p0.Next, .int .i64 1, .int .i64 0] 69) :: pts b4 (.cells #[.int .i64 0, .int .i64 1, .int .i64 p0.Join, .int .i64 1, .int .i64 0] 69) :: ob78 b1 p0 :: L)) _ := h
    refine then_normal ?_
    refine wp_ret ?_
    refine blk_ret ?_
    refine then_ret ?_
    refine end_retC (cs := [.int .i64 0, .int .i64 3, .int .i64 p0.Next, .int .i64 1, .int .i64 0]) rfl hr (by kernel_rfl) (by kernel_rfl) (by kernel_rfl) ⟨h.cell 0 rfl, h.cell 1 rfl, h.cell 2 rfl, h.cell 3 rfl, h.cell 4 rfl, trivial⟩ ?_
    replace h : Fit z (sepL (L)) _ := h.sel 4 [] (by kernel_rfl) (by kernel_rfl)
    replace H := ej1 H; subst H
    exact ⟨rfl, h⟩
  ·
    replace H := ifF c5 H
    refine cond_ff hr (b := (p0.Kind == (0 : Int))) (beq_eq_false_iff_ne.mpr c5) ?_
    refine wp_seq ?_
    refine wp_region_lit ?_
    refine ovs [20, 19] [.bool (p0.Kind == (1 : Int)), .bool (p0.Kind == (1 : Int))] hr ⟨rfl, rfl⟩ (by kernel_rfl) ?_; clear hr a; intro a hr
    refine wpList_nil ?_
    refine then_normal ?_
    by_cases c6 : p0.Kind = (1 : Int)
    ·
      replace H := ifT c6 H
      refine cond_tt hr (b := (p0.Kind == (1 : Int))) (beq_iff_eq.mpr c6) ?_
      refine wp_seq ?_
      refine wp_region_lit ?_
      refine op_val (wn rfl) rfl rfl hr (v := .agg #[.int .i64 0, .int .i64 3, .int .i64 p0.Join, .int .i64 1, .int .i64 0]) (rlm (cs := [.int .i64 0, .int .i64 3, .int .i64 p0.Join, .int .i64 1, .int .i64 0]) rfl (by kernel_rfl) (by kernel_rfl) (by kernel_rfl) ⟨(h.pick 1).cell 0 rfl, (h.pick 1).cell 1 rfl, (h.pick 1).cell 2 rfl, (h.pick 1).cell 3 rfl, (h.pick 1).cell 4 rfl, trivial⟩) ?_; clear hr a; intro a hr
      replace h : Fit z (sepL (pts b2 (.cells #[.int .i64 0, .int .i64 0, .int .i64 0, .int .i64 0, .int .i64 0] 69) :: pts b4 (.cells #[.int .i64 0, .int .i64 1, .int .i64 p0.Join, .int .i64 1, .int .i64 0] 69) :: pts b3 (.cells #[.int .i64 0, .int .i64 3, .int .i64 p0.Join, .int .i64 1, .int .i64 0] 69) :: ob78 b1 p0 :: L)) _ := h.sel 4 [2, 0, 1, 3] (by kernel_rfl) (by kernel_rfl)
      refine op_stores (wn rfl) rfl hr rfl (by kernel_rfl) (by kernel_rfl) (vs := [.int .i64 0, .int .i64 3, .int .i64 p0.Join, .int .i64 1, .int .i64 0]) rfl rfl (by kernel_rfl) h (i := 0) (cs' := #[.int .i64 0, .int .i64 3, .int .i64 p0.Join, .int .i64 1, .int .i64 0]) rfl ?_; clear h; intro w h
      refine wpList_nil ?_
      replace h : Fit z (sepL (pts b2 (.cells #[.int .i64 0, .int .i64 3, .int .i64 p0.Join, .int .i64 1, .int .i64 0] 69) :: pts b4 (.cells #[.int .i64 0, .int .i64 1, .int .i64 p0.Join, .int .i64 1, .int .i64 0] 69) :: pts b3 (.cells #[.int .i64 0, .int .i64 3, .int .i64 p0.Join, .int .i64 1, .int .i64 0] 69) :: ob78 b1 p0 :: L)) _ := h
      refine then_normal ?_
      refine wp_ret ?_
      refine blk_ret ?_
      refine then_ret ?_
      refine end_retC (cs := [.int .i64 0, .int .i64 3, .int .i64 p0.Join, .int .i64 1, .int .i64 0]) rfl hr (by kernel_rfl) (by kernel_rfl) (by kernel_rfl) ⟨h.cell 0 rfl, h.cell 1 rfl, h.cell 2 rfl, h.cell 3 rfl, h.cell 4 rfl, trivial⟩ ?_
      replace h : Fit z (sepL (L)) _ := h.sel 4 [] (by kernel_rfl) (by kernel_rfl)
      replace H := ej1 H; subst H
      exact ⟨rfl, h⟩
    ·
      replace H := ifF c6 H
      refine cond_ff hr (b := (p0.Kind == (1 : Int))) (beq_eq_false_iff_ne.mpr c6) ?_
      refine wp_seq ?_
      refine wp_region_lit ?_
      refine ovs [23, 22] [.bool (p0.Kind == (2 : Int)), .bool (p0.Kind == (2 : Int))] hr ⟨rfl, rfl⟩ (by kernel_rfl) ?_; clear hr a; intro a hr
      refine wpList_nil ?_
      refine then_normal ?_
      by_cases c7 : p0.Kind = (2 : Int)
      ·
        replace H := ifT c7 H
        refine cond_tt hr (b := (p0.Kind == (2 : Int))) (beq_iff_eq.mpr c7) ?_
        refine wp_seq ?_
        refine wp_seq ?_
        refine wp_region_lit ?_
        refine ov hr (.pointer (some ⟨b1, 6, none⟩)) (by kernel_rfl) ?_; clear hr a; intro a hr
        refine op_val (wn rfl) rfl rfl hr (v := .int .i64 p0.Made) (rl rfl (by kernel_rfl) (by kernel_rfl) ((h.pick 3).cell 6 rfl)) ?_; clear hr a; intro a hr
        refine ov hr (.bool (p0.Made == (0 : Int))) (by kernel_rfl) ?_; clear hr a; intro a hr
        refine wpList_nil ?_
        refine then_normal ?_
        by_cases c8 : p0.Made = (0 : Int)
        ·
          replace H := ifT c8 H
          refine cond_tt hr (b := (p0.Made == (0 : Int))) (beq_iff_eq.mpr c8) ?_
          refine wp_seq ?_
          refine wp_region_lit ?_
          refine ov hr (.pointer (some ⟨b1, 2, none⟩)) (by kernel_rfl) ?_; clear hr a; intro a hr
          refine op_val (wn rfl) rfl rfl hr (v := .int .i64 p0.Cell) (rl rfl (by kernel_rfl) (by kernel_rfl) ((h.pick 3).cell 2 rfl)) ?_; clear hr a; intro a hr
          refine ov hr (.pointer (some ⟨b1, 3, none⟩)) (by kernel_rfl) ?_; clear hr a; intro a hr
          refine op_val (wn rfl) rfl rfl hr (v := .int .i64 p0.V) (rl rfl (by kernel_rfl) (by kernel_rfl) ((h.pick 3).cell 3 rfl)) ?_; clear hr a; intro a hr
          refine ov hr (.agg #[.int .i64 0, .int .i64 1, .int .i64 p0.Cell, .int .i64 p0.V, .int .i64 0]) (by kernel_rfl) ?_; clear hr a; intro a hr
          replace h : Fit z (sepL (pts b2 (.cells #[.int .i64 0, .int .i64 0, .int .i64 0, .int .i64 0, .int .i64 0] 69) :: pts b4 (.cells #[.int .i64 0, .int .i64 1, .int .i64 p0.Join, .int .i64 1, .int .i64 0] 69) :: pts b3 (.cells #[.int .i64 0, .int .i64 3, .int .i64 p0.Join, .int .i64 1, .int .i64 0] 69) :: ob78 b1 p0 :: L)) _ := h.sel 4 [2, 0, 1, 3] (by kernel_rfl) (by kernel_rfl)
          refine op_stores (wn rfl) rfl hr rfl (by kernel_rfl) (by kernel_rfl) (vs := [.int .i64 0, .int .i64 1, .int .i64 p0.Cell, .int .i64 p0.V, .int .i64 0]) rfl rfl (by kernel_rfl) h (i := 0) (cs' := #[.int .i64 0, .int .i64 1, .int .i64 p0.Cell, .int .i64 p0.V, .int .i64 0]) rfl ?_; clear h; intro w h
          refine wpList_nil ?_
          replace h : Fit z (sepL (pts b2 (.cells #[.int .i64 0, .int .i64 1, .int .i64 p0.Cell, .int .i64 p0.V, .int .i64 0] 69) :: pts b4 (.cells #[.int .i64 0, .int .i64 1, .int .i64 p0.Join, .int .i64 1, .int .i64 0] 69) :: pts b3 (.cells #[.int .i64 0, .int .i64 3, .int .i64 p0.Join, .int .i64 1, .int .i64 0] 69) :: ob78 b1 p0 :: L)) _ := h
          refine then_normal ?_
          refine wp_ret ?_
          refine then_ret ?_
          refine blk_ret ?_
          refine then_ret ?_
          refine end_retC (cs := [.int .i64 0, .int .i64 1, .int .i64 p0.Cell, .int .i64 p0.V, .int .i64 0]) rfl hr (by kernel_rfl) (by kernel_rfl) (by kernel_rfl) ⟨h.cell 0 rfl, h.cell 1 rfl, h.cell 2 rfl, h.cell 3 rfl, h.cell 4 rfl, trivial⟩ ?_
          replace h : Fit z (sepL (L)) _ := h.sel 4 [] (by kernel_rfl) (by kernel_rfl)
          replace H := ej1 H; subst H
          exact ⟨rfl, h⟩
        ·
          replace H := ifF c8 H
          refine cond_ff hr (b := (p0.Made == (0 : Int))) (beq_eq_false_iff_ne.mpr c8) ?_
          refine wp_skip ?_
          refine then_normal ?_
          refine wp_seq ?_
          refine wp_seq ?_
          refine wp_region_lit ?_
          refine ov hr (.pointer (some ⟨b1, 6, none⟩)) (by kernel_rfl) ?_; clear hr a; intro a hr
          refine op_val (wn rfl) rfl rfl hr (v := .int .i64 p0.Made) (rl rfl (by kernel_rfl) (by kernel_rfl) ((h.pick 3).cell 6 rfl)) ?_; clear hr a; intro a hr
          refine ov hr (.bool (p0.Made == (2 : Int))) (by kernel_rfl) ?_; clear hr a; intro a hr
          refine wpList_nil ?_
          refine then_normal ?_
          by_cases c9 : p0.Made = (2 : Int)
          ·
            replace H := ifT c9 H
            refine cond_tt hr (b := (p0.Made == (2 : Int))) (beq_iff_eq.mpr c9) ?_
            refine wp_seq ?_
            refine wp_region_lit ?_
            refine op_val (wn rfl) rfl rfl hr (v := .agg #[.int .i64 0, .int .i64 1, .int .i64 p0.Join, .int .i64 1, .int .i64 0]) (rlm (cs := [.int .i64 0, .int .i64 1, .int .i64 p0.Join, .int .i64 1, .int .i64 0]) rfl (by kernel_rfl) (by kernel_rfl) (by kernel_rfl) ⟨h.cell 0 rfl, h.cell 1 rfl, h.cell 2 rfl, h.cell 3 rfl, h.cell 4 rfl, trivial⟩) ?_; clear hr a; intro a hr
            replace h : Fit z (sepL (pts b2 (.cells #[.int .i64 0, .int .i64 0, .int .i64 0, .int .i64 0, .int .i64 0] 69) :: pts b4 (.cells #[.int .i64 0, .int .i64 1, .int .i64 p0.Join, .int .i64 1, .int .i64 0] 69) :: pts b3 (.cells #[.int .i64 0, .int .i64 3, .int .i64 p0.Join, .int .i64 1, .int .i64 0] 69) :: ob78 b1 p0 :: L)) _ := h.sel 4 [2, 0, 1, 3] (by kernel_rfl) (by kernel_rfl)
            refine op_stores (wn rfl) rfl hr rfl (by kernel_rfl) (by kernel_rfl) (vs := [.int .i64 0, .int .i64 1, .int .i64 p0.Join, .int .i64 1, .int .i64 0]) rfl rfl (by kernel_rfl) h (i := 0) (cs' := #[.int .i64 0, .int .i64 1, .int .i64 p0.Join, .int .i64 1, .int .i64 0]) rfl ?_; clear h; intro w h
            refine wpList_nil ?_
            replace h : Fit z (sepL (pts b2 (.cells #[.int .i64 0, .int .i64 1, .int .i64 p0.Join, .int .i64 1, .int .i64 0] 69) :: pts b4 (.cells #[.int .i64 0, .int .i64 1, .int .i64 p0.Join, .int .i64 1, .int .i64 0] 69) :: pts b3 (.cells #[.int .i64 0, .int .i64 3, .int .i64 p0.Join, .int .i64 1, .int .i64 0] 69) :: ob78 b1 p0 :: L)) _ := h
            refine then_normal ?_
            refine wp_ret ?_
            refine then_ret ?_
            refine blk_ret ?_
            refine then_ret ?_
            refine end_retC (cs := [.int .i64 0, .int .i64 1, .int .i64 p0.Join, .int .i64 1, .int .i64 0]) rfl hr (by kernel_rfl) (by kernel_rfl) (by kernel_rfl) ⟨h.cell 0 rfl, h.cell 1 rfl, h.cell 2 rfl, h.cell 3 rfl, h.cell 4 rfl, trivial⟩ ?_
            replace h : Fit z (sepL (L)) _ := h.sel 4 [] (by kernel_rfl) (by kernel_rfl)
            replace H := ej1 H; subst H
            exact ⟨rfl, h⟩
          ·
            replace H := ifF c9 H
            refine cond_ff hr (b := (p0.Made == (2 : Int))) (beq_eq_false_iff_ne.mpr c9) ?_
            refine wp_skip ?_
            refine then_normal ?_
            refine wp_seq ?_
            refine wp_region_lit ?_
            refine ov hr (.pointer (some ⟨b3, 3, none⟩)) (by kernel_rfl) ?_; clear hr a; intro a hr
            replace h : Fit z (sepL (pts b3 (.cells #[.int .i64 0, .int .i64 3, .int .i64 p0.Join, .int .i64 1, .int .i64 0] 69) :: pts b4 (.cells #[.int .i64 0, .int .i64 1, .int .i64 p0.Join, .int .i64 1, .int .i64 0] 69) :: pts b2 (.cells #[.int .i64 0, .int .i64 0, .int .i64 0, .int .i64 0, .int .i64 0] 69) :: ob78 b1 p0 :: L)) _ := h.sel 4 [1, 0, 2, 3] (by kernel_rfl) (by kernel_rfl)
            refine op_store (wn rfl) rfl hr rfl (by kernel_rfl) (by kernel_rfl) (v := .int .i64 (-1)) rfl rfl (by kernel_rfl) h (i := 3) rfl ?_; clear h; intro w h
            refine wpList_nil ?_
            replace h : Fit z (sepL (pts b3 (.cells #[.int .i64 0, .int .i64 3, .int .i64 p0.Join, .int .i64 (-1), .int .i64 0] 69) :: pts b4 (.cells #[.int .i64 0, .int .i64 1, .int .i64 p0.Join, .int .i64 1, .int .i64 0] 69) :: pts b2 (.cells #[.int .i64 0, .int .i64 0, .int .i64 0, .int .i64 0, .int .i64 0] 69) :: ob78 b1 p0 :: L)) _ := h
            refine then_normal ?_
            refine wp_seq ?_
            refine wp_region_lit ?_
            refine op_val (wn rfl) rfl rfl hr (v := .agg #[.int .i64 0, .int .i64 3, .int .i64 p0.Join, .int .i64 (-1), .int .i64 0]) (rlm (cs := [.int .i64 0, .int .i64 3, .int .i64 p0.Join, .int .i64 (-1), .int .i64 0]) rfl (by kernel_rfl) (by kernel_rfl) (by kernel_rfl) ⟨h.cell 0 rfl, h.cell 1 rfl, h.cell 2 rfl, h.cell 3 rfl, h.cell 4 rfl, trivial⟩) ?_; clear hr a; intro a hr
            replace h : Fit z (sepL (pts b2 (.cells #[.int .i64 0, .int .i64 0, .int .i64 0, .int .i64 0, .int .i64 0] 69) :: pts b3 (.cells #[.int .i64 0, .int .i64 3, .int .i64 p0.Join, .int .i64 (-1), .int .i64 0] 69) :: pts b4 (.cells #[.int .i64 0, .int .i64 1, .int .i64 p0.Join, .int .i64 1, .int .i64 0] 69) :: ob78 b1 p0 :: L)) _ := h.sel 4 [2, 0, 1, 3] (by kernel_rfl) (by kernel_rfl)
            refine op_stores (wn rfl) rfl hr rfl (by kernel_rfl) (by kernel_rfl) (vs := [.int .i64 0, .int .i64 3, .int .i64 p0.Join, .int .i64 (-1), .int .i64 0]) rfl rfl (by kernel_rfl) h (i := 0) (cs' := #[.int .i64 0, .int .i64 3, .int .i64 p0.Join, .int .i64 (-1), .int .i64 0]) rfl ?_; clear h; intro w h
            refine wpList_nil ?_
            replace h : Fit z (sepL (pts b2 (.cells #[.int .i64 0, .int .i64 3, .int .i64 p0.Join, .int .i64 (-1), .int .i64 0] 69) :: pts b3 (.cells #[.int .i64 0, .int .i64 3, .int .i64 p0.Join, .int .i64 (-1), .int .i64 0] 69) :: pts b4 (.cells #[.int .i64 0, .int .i64 1, .int .i64 p0.Join, .int .i64 1, .int .i64 0] 69) :: ob78 b1 p0 :: L)) _ := h
            refine then_normal ?_
            refine wp_ret ?_
            refine blk_ret ?_
            refine then_ret ?_
            refine end_retC (cs := [.int .i64 0, .int .i64 3, .int .i64 p0.Join, .int .i64 (-1), .int .i64 0]) rfl hr (by kernel_rfl) (by kernel_rfl) (by kernel_rfl) ⟨h.cell 0 rfl, h.cell 1 rfl, h.cell 2 rfl, h.cell 3 rfl, h.cell 4 rfl, trivial⟩ ?_
            replace h : Fit z (sepL (L)) _ := h.sel 4 [] (by kernel_rfl) (by kernel_rfl)
            replace H := ej1 H; subst H
            exact ⟨rfl, h⟩
      ·
        replace H := ifF c7 H
        refine cond_ff hr (b := (p0.Kind == (2 : Int))) (beq_eq_false_iff_ne.mpr c7) ?_
        refine wp_seq ?_
        refine wp_region_lit ?_
        refine ovs [39, 38] [.bool (p0.Kind == (3 : Int)), .bool (p0.Kind == (3 : Int))] hr ⟨rfl, rfl⟩ (by kernel_rfl) ?_; clear hr a; intro a hr
        refine wpList_nil ?_
        refine then_normal ?_
        by_cases c10 : p0.Kind = (3 : Int)
        ·
          replace H := ifT c10 H
          refine cond_tt hr (b := (p0.Kind == (3 : Int))) (beq_iff_eq.mpr c10) ?_
          refine wp_seq ?_
          refine wp_seq ?_
          refine wp_region_lit ?_
          refine ov hr (.pointer (some ⟨b1, 6, none⟩)) (by kernel_rfl) ?_; clear hr a; intro a hr
          refine op_val (wn rfl) rfl rfl hr (v := .int .i64 p0.Made) (rl rfl (by kernel_rfl) (by kernel_rfl) ((h.pick 3).cell 6 rfl)) ?_; clear hr a; intro a hr
          refine ov hr (.bool (p0.Made == (1 : Int))) (by kernel_rfl) ?_; clear hr a; intro a hr
          refine wpList_nil ?_
          refine then_normal ?_
          by_cases c11 : p0.Made = (1 : Int)
          ·
            replace H := ifT c11 H
            refine cond_tt hr (b := (p0.Made == (1 : Int))) (beq_iff_eq.mpr c11) ?_
            refine wp_seq ?_
            refine wp_region_lit ?_
            refine op_val (wn rfl) rfl rfl hr (v := .agg #[.int .i64 0, .int .i64 1, .int .i64 p0.Join, .int .i64 1, .int .i64 0]) (rlm (cs := [.int .i64 0, .int .i64 1, .int .i64 p0.Join, .int .i64 1, .int .i64 0]) rfl (by kernel_rfl) (by kernel_rfl) (by kernel_rfl) ⟨h.cell 0 rfl, h.cell 1 rfl, h.cell 2 rfl, h.cell 3 rfl, h.cell 4 rfl, trivial⟩) ?_; clear hr a; intro a hr
            replace h : Fit z (sepL (pts b2 (.cells #[.int .i64 0, .int .i64 0, .int .i64 0, .int .i64 0, .int .i64 0] 69) :: pts b4 (.cells #[.int .i64 0, .int .i64 1, .int .i64 p0.Join, .int .i64 1, .int .i64 0] 69) :: pts b3 (.cells #[.int .i64 0, .int .i64 3, .int .i64 p0.Join, .int .i64 1, .int .i64 0] 69) :: ob78 b1 p0 :: L)) _ := h.sel 4 [2, 0, 1, 3] (by kernel_rfl) (by kernel_rfl)
            refine op_stores (wn rfl) rfl hr rfl (by kernel_rfl) (by kernel_rfl) (vs := [.int .i64 0, .int .i64 1, .int .i64 p0.Join, .int .i64 1, .int .i64 0]) rfl rfl (by kernel_rfl) h (i := 0) (cs' := #[.int .i64 0, .int .i64 1, .int .i64 p0.Join, .int .i64 1, .int .i64 0]) rfl ?_; clear h; intro w h
            refine wpList_nil ?_
            replace h : Fit z (sepL (pts b2 (.cells #[.int .i64 0, .int .i64 1, .int .i64 p0.Join, .int .i64 1, .int .i64 0] 69) :: pts b4 (.cells #[.int .i64 0, .int .i64 1, .int .i64 p0.Join, .int .i64 1, .int .i64 0] 69) :: pts b3 (.cells #[.int .i64 0, .int .i64 3, .int .i64 p0.Join, .int .i64 1, .int .i64 0] 69) :: ob78 b1 p0 :: L)) _ := h
            refine then_normal ?_
            refine wp_ret ?_
            refine then_ret ?_
            refine blk_ret ?_
            refine then_ret ?_
            refine end_retC (cs := [.int .i64 0, .int .i64 1, .int .i64 p0.Join, .int .i64 1, .int .i64 0]) rfl hr (by kernel_rfl) (by kernel_rfl) (by kernel_rfl) ⟨h.cell 0 rfl, h.cell 1 rfl, h.cell 2 rfl, h.cell 3 rfl, h.cell 4 rfl, trivial⟩ ?_
            replace h : Fit z (sepL (L)) _ := h.sel 4 [] (by kernel_rfl) (by kernel_rfl)
            replace H := ej1 H; subst H
            exact ⟨rfl, h⟩
          ·
            replace H := ifF c11 H
            refine cond_ff hr (b := (p0.Made == (1 : Int))) (beq_eq_false_iff_ne.mpr c11) ?_
            refine wp_skip ?_
            refine then_normal ?_
            refine wp_seq ?_
            refine wp_region_lit ?_
            refine ov hr (.pointer (some ⟨b3, 3, none⟩)) (by kernel_rfl) ?_; clear hr a; intro a hr
            replace h : Fit z (sepL (pts b3 (.cells #[.int .i64 0, .int .i64 3, .int .i64 p0.Join, .int .i64 1, .int .i64 0] 69) :: pts b4 (.cells #[.int .i64 0, .int .i64 1, .int .i64 p0.Join, .int .i64 1, .int .i64 0] 69) :: pts b2 (.cells #[.int .i64 0, .int .i64 0, .int .i64 0, .int .i64 0, .int .i64 0] 69) :: ob78 b1 p0 :: L)) _ := h.sel 4 [1, 0, 2, 3] (by kernel_rfl) (by kernel_rfl)
            refine op_store (wn rfl) rfl hr rfl (by kernel_rfl) (by kernel_rfl) (v := .int .i64 (-1)) rfl rfl (by kernel_rfl) h (i := 3) rfl ?_; clear h; intro w h
            refine wpList_nil ?_
            replace h : Fit z (sepL (pts b3 (.cells #[.int .i64 0, .int .i64 3, .int .i64 p0.Join, .int .i64 (-1), .int .i64 0] 69) :: pts b4 (.cells #[.int .i64 0, .int .i64 1, .int .i64 p0.Join, .int .i64 1, .int .i64 0] 69) :: pts b2 (.cells #[.int .i64 0, .int .i64 0, .int .i64 0, .int .i64 0, .int .i64 0] 69) :: ob78 b1 p0 :: L)) _ := h
            refine then_normal ?_
            refine wp_seq ?_
            refine wp_region_lit ?_
            refine op_val (wn rfl) rfl rfl hr (v := .agg #[.int .i64 0, .int .i64 3, .int .i64 p0.Join, .int .i64 (-1), .int .i64 0]) (rlm (cs := [.int .i64 0, .int .i64 3, .int .i64 p0.Join, .int .i64 (-1), .int .i64 0]) rfl (by kernel_rfl) (by kernel_rfl) (by kernel_rfl) ⟨h.cell 0 rfl, h.cell 1 rfl, h.cell 2 rfl, h.cell 3 rfl, h.cell 4 rfl, trivial⟩) ?_; clear hr a; intro a hr
            replace h : Fit z (sepL (pts b2 (.cells #[.int .i64 0, .int .i64 0, .int .i64 0, .int .i64 0, .int .i64 0] 69) :: pts b3 (.cells #[.int .i64 0, .int .i64 3, .int .i64 p0.Join, .int .i64 (-1), .int .i64 0] 69) :: pts b4 (.cells #[.int .i64 0, .int .i64 1, .int .i64 p0.Join, .int .i64 1, .int .i64 0] 69) :: ob78 b1 p0 :: L)) _ := h.sel 4 [2, 0, 1, 3] (by kernel_rfl) (by kernel_rfl)
            refine op_stores (wn rfl) rfl hr rfl (by kernel_rfl) (by kernel_rfl) (vs := [.int .i64 0, .int .i64 3, .int .i64 p0.Join, .int .i64 (-1), .int .i64 0]) rfl rfl (by kernel_rfl) h (i := 0) (cs' := #[.int .i64 0, .int .i64 3, .int .i64 p0.Join, .int .i64 (-1), .int .i64 0]) rfl ?_; clear h; intro w h
            refine wpList_nil ?_
            replace h : Fit z (sepL (pts b2 (.cells #[.int .i64 0, .int .i64 3, .int .i64 p0.Join, .int .i64 (-1), .int .i64 0] 69) :: pts b3 (.cells #[.int .i64 0, .int .i64 3, .int .i64 p0.Join, .int .i64 (-1), .int .i64 0] 69) :: pts b4 (.cells #[.int .i64 0, .int .i64 1, .int .i64 p0.Join, .int .i64 1, .int .i64 0] 69) :: ob78 b1 p0 :: L)) _ := h
            refine then_normal ?_
            refine wp_ret ?_
            refine blk_ret ?_
            refine then_ret ?_
            refine end_retC (cs := [.int .i64 0, .int .i64 3, .int .i64 p0.Join, .int .i64 (-1), .int .i64 0]) rfl hr (by kernel_rfl) (by kernel_rfl) (by kernel_rfl) ⟨h.cell 0 rfl, h.cell 1 rfl, h.cell 2 rfl, h.cell 3 rfl, h.cell 4 rfl, trivial⟩ ?_
            replace h : Fit z (sepL (L)) _ := h.sel 4 [] (by kernel_rfl) (by kernel_rfl)
            replace H := ej1 H; subst H
            exact ⟨rfl, h⟩
        ·
          replace H := ifF c10 H
          refine cond_ff hr (b := (p0.Kind == (3 : Int))) (beq_eq_false_iff_ne.mpr c10) ?_
          refine wp_seq ?_
          refine wp_region_lit ?_
          refine ovs [47, 46] [.bool (p0.Kind == (4 : Int)), .bool (p0.Kind == (4 : Int))] hr ⟨rfl, rfl⟩ (by kernel_rfl) ?_; clear hr a; intro a hr
          refine wpList_nil ?_
          refine then_normal ?_
          by_cases c12 : p0.Kind = (4 : Int)
          ·
            replace H := ifT c12 H
            refine cond_tt hr (b := (p0.Kind == (4 : Int))) (beq_iff_eq.mpr c12) ?_
            refine wp_seq ?_
            refine wp_region_lit ?_
            refine ov hr (.pointer (some ⟨b1, 1, none⟩)) (by kernel_rfl) ?_; clear hr a; intro a hr
            refine op_val (wn rfl) rfl rfl hr (v := .int .i64 p0.Join) (rl rfl (by kernel_rfl) (by kernel_rfl) ((h.pick 3).cell 1 rfl)) ?_; clear hr a; intro a hr
            refine ovs [50, 51] [.int .i64 (wi (p0.Join + (1 : Int))), .pointer (some ⟨b3, 2, none⟩)] hr ⟨rfl, rfl⟩ (by kernel_rfl) ?_; clear hr a; intro a hr
            replace h : Fit z (sepL (pts b3 (.cells #[.int .i64 0, .int .i64 3, .int .i64 p0.Join, .int .i64 1, .int .i64 0] 69) :: pts b4 (.cells #[.int .i64 0, .int .i64 1, .int .i64 p0.Join, .int .i64 1, .int .i64 0] 69) :: pts b2 (.cells #[.int .i64 0, .int .i64 0, .int .i64 0, .int .i64 0, .int .i64 0] 69) :: ob78 b1 p0 :: L)) _ := h.sel 4 [1, 0, 2, 3] (by kernel_rfl) (by kernel_rfl)
            refine op_store (wn rfl) rfl hr rfl (by kernel_rfl) (by kernel_rfl) (v := .int .i64 (wi (p0.Join + (1 : Int)))) rfl rfl (by kernel_rfl) h (i := 2) rfl ?_; clear h; intro w h
            refine wpList_nil ?_
            replace h : Fit z (sepL (pts b3 (.cells #[.int .i64 0, .int .i64 3, .int .i64 (wi (p0.Join + (1 : Int))), .int .i64 1, .int .i64 0] 69) :: pts b4 (.cells #[.int .i64 0, .int .i64 1, .int .i64 p0.Join, .int .i64 1, .int .i64 0] 69) :: pts b2 (.cells #[.int .i64 0, .int .i64 0, .int .i64 0, .int .i64 0, .int .i64 0] 69) :: ob78 b1 p0 :: L)) _ := h
            refine then_normal ?_
            refine wp_seq ?_
            refine wp_region_lit ?_
            refine op_val (wn rfl) rfl rfl hr (v := .agg #[.int .i64 0, .int .i64 3, .int .i64 (wi (p0.Join + (1 : Int))), .int .i64 1, .int .i64 0]) (rlm (cs := [.int .i64 0, .int .i64 3, .int .i64 (wi (p0.Join + (1 : Int))), .int .i64 1, .int .i64 0]) rfl (by kernel_rfl) (by kernel_rfl) (by kernel_rfl) ⟨h.cell 0 rfl, h.cell 1 rfl, h.cell 2 rfl, h.cell 3 rfl, h.cell 4 rfl, trivial⟩) ?_; clear hr a; intro a hr
            replace h : Fit z (sepL (pts b2 (.cells #[.int .i64 0, .int .i64 0, .int .i64 0, .int .i64 0, .int .i64 0] 69) :: pts b3 (.cells #[.int .i64 0, .int .i64 3, .int .i64 (wi (p0.Join + (1 : Int))), .int .i64 1, .int .i64 0] 69) :: pts b4 (.cells #[.int .i64 0, .int .i64 1, .int .i64 p0.Join, .int .i64 1, .int .i64 0] 69) :: ob78 b1 p0 :: L)) _ := h.sel 4 [2, 0, 1, 3] (by kernel_rfl) (by kernel_rfl)
            refine op_stores (wn rfl) rfl hr rfl (by kernel_rfl) (by kernel_rfl) (vs := [.int .i64 0, .int .i64 3, .int .i64 (wi (p0.Join + (1 : Int))), .int .i64 1, .int .i64 0]) rfl rfl (by kernel_rfl) h (i := 0) (cs' := #[.int .i64 0, .int .i64 3, .int .i64 (wi (p0.Join + (1 : Int))), .int .i64 1, .int .i64 0]) rfl ?_; clear h; intro w h
            refine wpList_nil ?_
            replace h : Fit z (sepL (pts b2 (.cells #[.int .i64 0, .int .i64 3, .int .i64 (wi (p0.Join + (1 : Int))), .int .i64 1, .int .i64 0] 69) :: pts b3 (.cells #[.int .i64 0, .int .i64 3, .int .i64 (wi (p0.Join + (1 : Int))), .int .i64 1, .int .i64 0] 69) :: pts b4 (.cells #[.int .i64 0, .int .i64 1, .int .i64 p0.Join, .int .i64 1, .int .i64 0] 69) :: ob78 b1 p0 :: L)) _ := h
            refine then_normal ?_
            refine wp_ret ?_
            refine blk_ret ?_
            refine then_ret ?_
            refine end_retC (cs := [.int .i64 0, .int .i64 3, .int .i64 (wi (p0.Join + (1 : Int))), .int .i64 1, .int .i64 0]) rfl hr (by kernel_rfl) (by kernel_rfl) (by kernel_rfl) ⟨h.cell 0 rfl, h.cell 1 rfl, h.cell 2 rfl, h.cell 3 rfl, h.cell 4 rfl, trivial⟩ ?_
            replace h : Fit z (sepL (L)) _ := h.sel 4 [] (by kernel_rfl) (by kernel_rfl)
            replace H := ej1 H; subst H
            exact ⟨rfl, h⟩
          ·
            replace H := ifF c12 H
            refine cond_ff hr (b := (p0.Kind == (4 : Int))) (beq_eq_false_iff_ne.mpr c12) ?_
            refine wp_skip ?_
            refine blk_normal ?_
            refine then_normal ?_
            refine wp_seq ?_
            refine wp_region_lit ?_
            refine ov hr (.pointer (some ⟨b1, 2, none⟩)) (by kernel_rfl) ?_; clear hr a; intro a hr
            refine op_val (wn rfl) rfl rfl hr (v := .int .i64 p0.Cell) (rl rfl (by kernel_rfl) (by kernel_rfl) ((h.pick 3).cell 2 rfl)) ?_; clear hr a; intro a hr
            refine ov hr (.agg #[.int .i64 0, .int .i64 0, .int .i64 p0.Cell, .int .i64 0, .int .i64 0]) (by kernel_rfl) ?_; clear hr a; intro a hr
            replace h : Fit z (sepL (pts b2 (.cells #[.int .i64 0, .int .i64 0, .int .i64 0, .int .i64 0, .int .i64 0] 69) :: pts b4 (.cells #[.int .i64 0, .int .i64 1, .int .i64 p0.Join, .int .i64 1, .int .i64 0] 69) :: pts b3 (.cells #[.int .i64 0, .int .i64 3, .int .i64 p0.Join, .int .i64 1, .int .i64 0] 69) :: ob78 b1 p0 :: L)) _ := h.sel 4 [2, 0, 1, 3] (by kernel_rfl) (by kernel_rfl)
            refine op_stores (wn rfl) rfl hr rfl (by kernel_rfl) (by kernel_rfl) (vs := [.int .i64 0, .int .i64 0, .int .i64 p0.Cell, .int .i64 0, .int .i64 0]) rfl rfl (by kernel_rfl) h (i := 0) (cs' := #[.int .i64 0, .int .i64 0, .int .i64 p0.Cell, .int .i64 0, .int .i64 0]) rfl ?_; clear h; intro w h
            refine wpList_nil ?_
            replace h : Fit z (sepL (pts b2 (.cells #[.int .i64 0, .int .i64 0, .int .i64 p0.Cell, .int .i64 0, .int .i64 0] 69) :: pts b4 (.cells #[.int .i64 0, .int .i64 1, .int .i64 p0.Join, .int .i64 1, .int .i64 0] 69) :: pts b3 (.cells #[.int .i64 0, .int .i64 3, .int .i64 p0.Join, .int .i64 1, .int .i64 0] 69) :: ob78 b1 p0 :: L)) _ := h
            refine then_normal ?_
            refine wp_ret ?_
            refine end_retC (cs := [.int .i64 0, .int .i64 0, .int .i64 p0.Cell, .int .i64 0, .int .i64 0]) rfl hr (by kernel_rfl) (by kernel_rfl) (by kernel_rfl) ⟨h.cell 0 rfl, h.cell 1 rfl, h.cell 2 rfl, h.cell 3 rfl, h.cell 4 rfl, trivial⟩ ?_
            replace h : Fit z (sepL (L)) _ := h.sel 4 [] (by kernel_rfl) (by kernel_rfl)
            replace H := ej1 H; subst H
            exact ⟨rfl, h⟩

/-- (plunder/plunderref8.Op).ended -/
def plunderref8_Op__ended (p0 : T_plunderref8_Op) (p1 : Int) (p2 : Int) : Option (T_plunderref8_Op) :=
  some ({ p0 with Code := p1, Came := p2 })
set_option maxRecDepth 100000 in
set_option maxHeartbeats 4000000 in
theorem plunderref8_Op__ended_ok {z w : World} {L : List HProp} {p0 : T_plunderref8_Op} {p1 : Int} {p2 : Int} {r0 : T_plunderref8_Op} (H : plunderref8_Op__ended p0 p1 p2 = some r0) (h : Fit z (sepL (L)) w)  :
    Calls Try.prog 67 #[.agg #[.int .i64 p0.Kind, .int .i64 p0.Join, .int .i64 p0.Cell, .int .i64 p0.V, .int .i64 p0.Next, .int .i64 p0.Frames, .int .i64 p0.Made, .int .i64 p0.Code, .int .i64 p0.Came], .int .i64 p1, .int .i64 p2] w fun e w => e = .returned (.agg #[.int .i64 r0.Kind, .int .i64 r0.Join, .int .i64 r0.Cell, .int .i64 r0.V, .int .i64 r0.Next, .int .i64 r0.Frames, .int .i64 r0.Made, .int .i64 r0.Code, .int .i64 r0.Came]) ∧ Fit z (sepL (L)) w := by
  unfold plunderref8_Op__ended at H
  refine enter Try.func67 rfl 12 rfl rfl [(0, .agg #[.int .i64 p0.Kind, .int .i64 p0.Join, .int .i64 p0.Cell, .int .i64 p0.V, .int .i64 p0.Next, .int .i64 p0.Frames, .int .i64 p0.Made, .int .i64 p0.Code, .int .i64 p0.Came]), (1, .int .i64 p1), (2, .int .i64 p2)] ⟨rfl, rfl, rfl, trivial⟩ ?_
  intro j a hr
  refine wp_seq ?_
  refine wp_region_lit ?_
  refine op_new (wn rfl) rfl rfl hr h (vf := fun b => .pointer (some ⟨b, 0, none⟩)) (cs := #[.int .i64 p0.Kind, .int .i64 p0.Join, .int .i64 p0.Cell, .int .i64 p0.V, .int .i64 p0.Next, .int .i64 p0.Frames, .int .i64 p0.Made, .int .i64 p0.Code, .int .i64 p0.Came]) (T := 78) (by kernel_rfl) ?_; clear h hr a; intro b1 w a h hr
  refine op_new (wn rfl) rfl rfl hr h (vf := fun b => .pointer (some ⟨b, 0, none⟩)) (cs := #[.int .i64 0, .int .i64 0, .int .i64 0, .int .i64 0, .int .i64 0, .int .i64 0, .int .i64 0, .int .i64 0, .int .i64 0]) (T := 78) (by kernel_rfl) ?_; clear h hr a; intro b2 w a h hr
  refine wpList_nil ?_
  refine then_normal ?_
  refine wp_seq ?_
  refine wp_region_lit ?_
  refine ovs [7, 8] [.int .i64 p1, .pointer (some ⟨b1, 7, none⟩)] hr ⟨rfl, rfl⟩ (by kernel_rfl) ?_; clear hr a; intro a hr
  replace h : Fit z (sepL (ob78 b1 p0 :: pts b2 (.cells #[.int .i64 0, .int .i64 0, .int .i64 0, .int .i64 0, .int .i64 0, .int .i64 0, .int .i64 0, .int .i64 0, .int .i64 0] 78) :: L)) _ := h.sel 2 [1, 0] (by kernel_rfl) (by kernel_rfl)
  refine op_store (wn rfl) rfl hr rfl (by kernel_rfl) (by kernel_rfl) (v := .int .i64 p1) rfl rfl (by kernel_rfl) h (i := 7) rfl ?_; clear h; intro w h
  refine wpList_nil ?_
  replace h : Fit z (sepL (pts b1 (.cells #[.int .i64 p0.Kind, .int .i64 p0.Join, .int .i64 p0.Cell, .int .i64 p0.V, .int .i64 p0.Next, .int .i64 p0.Frames, .int .i64 p0.Made, .int .i64 p1, .int .i64 p0.Came] 78) :: pts b2 (.cells #[.int .i64 0, .int .i64 0, .int .i64 0, .int .i64 0, .int .i64 0, .int .i64 0, .int .i64 0, .int .i64 0, .int .i64 0] 78) :: L)) _ := h
  refine then_normal ?_
  refine wp_seq ?_
  refine wp_region_lit ?_
  refine ovs [9, 10] [.int .i64 p2, .pointer (some ⟨b1, 8, none⟩)] hr ⟨rfl, rfl⟩ (by kernel_rfl) ?_; clear hr a; intro a hr
  refine op_store (wn rfl) rfl hr rfl (by kernel_rfl) (by kernel_rfl) (v := .int .i64 p2) rfl rfl (by kernel_rfl) h (i := 8) rfl ?_; clear h; intro w h
  refine wpList_nil ?_
  replace h : Fit z (sepL (pts b1 (.cells #[.int .i64 p0.Kind, .int .i64 p0.Join, .int .i64 p0.Cell, .int .i64 p0.V, .int .i64 p0.Next, .int .i64 p0.Frames, .int .i64 p0.Made, .int .i64 p1, .int .i64 p2] 78) :: pts b2 (.cells #[.int .i64 0, .int .i64 0, .int .i64 0, .int .i64 0, .int .i64 0, .int .i64 0, .int .i64 0, .int .i64 0, .int .i64 0] 78) :: L)) _ := h
  refine then_normal ?_
  refine wp_seq ?_
  refine wp_region_lit ?_
  refine op_val (wn rfl) rfl rfl hr (v := .agg #[.int .i64 p0.Kind, .int .i64 p0.Join, .int .i64 p0.Cell, .int .i64 p0.V, .int .i64 p0.Next, .int .i64 p0.Frames, .int .i64 p0.Made, .int .i64 p1, .int .i64 p2]) (rlm (cs := [.int .i64 p0.Kind, .int .i64 p0.Join, .int .i64 p0.Cell, .int .i64 p0.V, .int .i64 p0.Next, .int .i64 p0.Frames, .int .i64 p0.Made, .int .i64 p1, .int .i64 p2]) rfl (by kernel_rfl) (by kernel_rfl) (by kernel_rfl) ⟨h.cell 0 rfl, h.cell 1 rfl, h.cell 2 rfl, h.cell 3 rfl, h.cell 4 rfl, h.cell 5 rfl, h.cell 6 rfl, h.cell 7 rfl, h.cell 8 rfl, trivial⟩) ?_; clear hr a; intro a hr
  replace h : Fit z (sepL (pts b2 (.cells #[.int .i64 0, .int .i64 0, .int .i64 0, .int .i64 0, .int .i64 0, .int .i64 0, .int .i64 0, .int .i64 0, .int .i64 0] 78) :: pts b1 (.cells #[.int .i64 p0.Kind, .int .i64 p0.Join, .int .i64 p0.Cell, .int .i64 p0.V, .int .i64 p0.Next, .int .i64 p0.Frames, .int .i64 p0.Made, .int .i64 p1, .int .i64 p2] 78) :: L)) _ := h.sel 2 [1, 0] (by kernel_rfl) (by kernel_rfl)
  refine op_stores (wn rfl) rfl hr rfl (by kernel_rfl) (by kernel_rfl) (vs := [.int .i64 p0.Kind, .int .i64 p0.Join, .int .i64 p0.Cell, .int .i64 p0.V, .int .i64 p0.Next, .int .i64 p0.Frames, .int .i64 p0.Made, .int .i64 p1, .int .i64 p2]) rfl rfl (by kernel_rfl) h (i := 0) (cs' := #[.int .i64 p0.Kind, .int .i64 p0.Join, .int .i64 p0.Cell, .int .i64 p0.V, .int .i64 p0.Next, .int .i64 p0.Frames, .int .i64 p0.Made, .int .i64 p1, .int .i64 p2]) rfl ?_; clear h; intro w h
  refine wpList_nil ?_
  replace h : Fit z (sepL (pts b2 (.cells #[.int .i64 p0.Kind, .int .i64 p0.Join, .int .i64 p0.Cell, .int .i64 p0.V, .int .i64 p0.Next, .int .i64 p0.Frames, .int .i64 p0.Made, .int .i64 p1, .int .i64 p2] 78) :: pts b1 (.cells #[.int .i64 p0.Kind, .int .i64 p0.Join, .int .i64 p0.Cell, .int .i64 p0.V, .int .i64 p0.Next, .int .i64 p0.Frames, .int .i64 p0.Made, .int .i64 p1, .int .i64 p2] 78) :: L)) _ := h
  refine then_normal ?_
  refine wp_ret ?_
  refine end_retC (cs := [.int .i64 p0.Kind, .int .i64 p0.Join, .int .i64 p0.Cell, .int .i64 p0.V, .int .i64 p0.Next, .int .i64 p0.Frames, .int .i64 p0.Made, .int .i64 p1, .int .i64 p2]) rfl hr (by kernel_rfl) (by kernel_rfl) (by kernel_rfl) ⟨h.cell 0 rfl, h.cell 1 rfl, h.cell 2 rfl, h.cell 3 rfl, h.cell 4 rfl, h.cell 5 rfl, h.cell 6 rfl, h.cell 7 rfl, h.cell 8 rfl, trivial⟩ ?_
  replace h : Fit z (sepL (L)) _ := h.sel 2 [] (by kernel_rfl) (by kernel_rfl)
  replace H := ej1 H; subst H
  exact ⟨rfl, h⟩

/-- (plunder/plunderref8.Op).behind -/
def plunderref8_Op__behind (p0 : T_plunderref8_Op) (p1 : Int) : Option (T_plunderref8_Op) :=
  (if p0.Kind = (0 : Int) then (if p1 ≥ (1 : Int) then (if p1 ≤ p0.Frames then ob1 (plunderref8_Op__ended ({ p0 with Made := wi (p0.Made + (1 : Int)) }) 4 (wi (p1 - (1 : Int)))) (fun r6 => some r6) else ob1 (plunderref8_Op__ended ({ p0 with Made := wi (p0.Made + (1 : Int)) }) 3 0) (fun r8 => some r8)) else ob1 (plunderref8_Op__ended ({ p0 with Made := wi (p0.Made + (1 : Int)) }) 3 0) (fun r10 => some r10)) else (if p0.Kind = (1 : Int) then ob1 (plunderref8_Op__ended ({ p0 with Made := wi (p0.Made + (1 : Int)) }) 9 p1) (fun r13 => some r13) else (if p0.Kind = (2 : Int) then jn0 ((if (wi (p0.Made + (1 : Int))) = (2 : Int) then (if p1 = (0 : Int) then some (.inl ()) else ob1 (plunderref8_Op__ended ({ p0 with Made := wi (p0.Made + (1 : Int)) }) 10 p1) (fun r20 => some (.inr r20))) else some (.inl ()))) ((if (wi (p0.Made + (1 : Int))) = (3 : Int) then ob1 (plunderref8_Op__ended ({ p0 with Made := wi (p0.Made + (1 : Int)) }) 11 0) (fun r23 => some r23) else some ({ p0 with Made := wi (p0.Made + (1 : Int)) }))) else (if p0.Kind = (3 : Int) then jn0 ((if (wi (p0.Made + (1 : Int))) = (1 : Int) then (if p1 = (0 : Int) then some (.inl ()) else ob1 (plunderref8_Op__ended ({ p0 with Made := wi (p0.Made + (1 : Int)) }) 12 p1) (fun r30 => some (.inr r30))) else some (.inl ()))) ((if (wi (p0.Made + (1 : Int))) = (2 : Int) then ob1 (plunderref8_Op__ended ({ p0 with Made := wi (p0.Made + (1 : Int)) }) 13 0) (fun r33 => some r33) else some ({ p0 with Made := wi (p0.Made + (1 : Int)) }))) else (if p0.Kind = (4 : Int) then ob1 (plunderref8_Op__ended ({ p0 with Made := wi (p0.Made + (1 : Int)) }) 14 p1) (fun r36 => some r36) else ob1 (plunderref8_Op__ended ({ p0 with Made := wi (p0.Made + (1 : Int)) }) 15 p1) (fun r38 => some r38))))))
set_option maxRecDepth 100000 in
set_option maxHeartbeats 4000000 in
theorem plunderref8_Op__behind_ok {z w : World} {L : List HProp} {p0 : T_plunderref8_Op} {p1 : Int} {r0 : T_plunderref8_Op} (H : plunderref8_Op__behind p0 p1 = some r0) (h : Fit z (sepL (L)) w)  :
    Calls Try.prog 68 #[.agg #[.int .i64 p0.Kind, .int .i64 p0.Join, .int .i64 p0.Cell, .int .i64 p0.V, .int .i64 p0.Next, .int .i64 p0.Frames, .int .i64 p0.Made, .int .i64 p0.Code, .int .i64 p0.Came], .int .i64 p1] w fun e w => e = .returned (.agg #[.int .i64 r0.Kind, .int .i64 r0.Join, .int .i64 r0.Cell, .int .i64 r0.V, .int .i64 r0.Next, .int .i64 r0.Frames, .int .i64 r0.Made, .int .i64 r0.Code, .int .i64 r0.Came]) ∧ Fit z (sepL (L)) w := by
  unfold plunderref8_Op__behind at H
  refine enter Try.func68 rfl 76 rfl rfl [(0, .agg #[.int .i64 p0.Kind, .int .i64 p0.Join, .int .i64 p0.Cell, .int .i64 p0.V, .int .i64 p0.Next, .int .i64 p0.Frames, .int .i64 p0.Made, .int .i64 p0.Code, .int .i64 p0.Came]), (1, .int .i64 p1)] ⟨rfl, rfl, trivial⟩ ?_
  intro j a hr
  refine wp_seq ?_
  refine wp_region_lit ?_
  refine op_new (wn rfl) rfl rfl hr h (vf := fun b => .pointer (some ⟨b, 0, none⟩)) (cs := #[.int .i64 p0.Kind, .int .i64 p0.Join, .int .i64 p0.Cell, .int .i64 p0.V, .int .i64 p0.Next, .int .i64 p0.Frames, .int .i64 p0.Made, .int .i64 p0.Code, .int .i64 p0.Came]) (T := 78) (by kernel_rfl) ?_; clear h hr a; intro b1 w a h hr
  refine op_new (wn rfl) rfl rfl hr h (vf := fun b => .pointer (some ⟨b, 0, none⟩)) (cs := #[.int .i64 0, .int .i64 0, .int .i64 0, .int .i64 0, .int .i64 0, .int .i64 0, .int .i64 0, .int .i64 0, .int .i64 0]) (T := 78) (by kernel_rfl) ?_; clear h hr a; intro b2 w a h hr
  refine wpList_nil ?_
  refine then_normal ?_
  refine wp_seq ?_
  refine wp_region_lit ?_
  refine ov hr (.pointer (some ⟨b1, 6, none⟩)) (by kernel_rfl) ?_; clear hr a; intro a hr
  refine op_val (wn rfl) rfl rfl hr (v := .int .i64 p0.Made) (rl rfl (by kernel_rfl) (by kernel_rfl) ((h.pick 1).cell 6 rfl)) ?_; clear hr a; intro a hr
  refine ovs [7, 8] [.int .i64 (wi (p0.Made + (1 : Int))), .pointer (some ⟨b1, 6, none⟩)] hr ⟨rfl, rfl⟩ (by kernel_rfl) ?_; clear hr a; intro a hr
  replace h : Fit z (sepL (ob78 b1 p0 :: pts b2 (.cells #[.int .i64 0, .int .i64 0, .int .i64 0, .int .i64 0, .int .i64 0, .int .i64 0, .int .i64 0, .int .i64 0, .int .i64 0] 78) :: L)) _ := h.sel 2 [1, 0] (by kernel_rfl) (by kernel_rfl)
  refine op_store (wn rfl) rfl hr rfl (by kernel_rfl) (by kernel_rfl) (v := .int .i64 (wi (p0.Made + (1 : Int)))) rfl rfl (by kernel_rfl) h (i := 6) rfl ?_; clear h; intro w h
  refine wpList_nil ?_
  replace h : Fit z (sepL (pts b1 (.cells #[.int .i64 p0.Kind, .int .i64 p0.Join, .int .i64 p0.Cell, .int .i64 p0.V, .int .i64 p0.Next, .int .i64 p0.Frames, .int .i64 (wi (p0.Made + (1 : Int))), .int .i64 p0.Code, .int .i64 p0.Came] 78) :: pts b2 (.cells #[.int .i64 0, .int .i64 0, .int .i64 0, .int .i64 0, .int .i64 0, .int .i64 0, .int .i64 0, .int .i64 0, .int .i64 0] 78) :: L)) _ := h
  refine then_normal ?_
  refine wp_seq ?_
  refine wp_seq ?_
  refine wp_region_lit ?_
  refine ov hr (.pointer (some ⟨b1, 0, none⟩)) (by kernel_rfl) ?_; clear hr a; intro a hr
  refine op_val (wn rfl) rfl rfl hr (v := .int .i64 p0.Kind) (rl rfl (by kernel_rfl) (by kernel_rfl) (h.cell 0 rfl)) ?_; clear hr a; intro a hr
  refine wpList_nil ?_
  refine then_normal ?_
  refine wp_block ?_
  refine wp_seq ?_
  refine wp_region_lit ?_
  refine ovs [12, 11] [.bool (p0.Kind == (0 : Int)), .bool (p0.Kind == (0 : Int))] hr ⟨rfl, rfl⟩ (by kernel_rfl) ?_; clear hr a; intro a hr
  refine wpList_nil ?_
  refine then_normal ?_
  by_cases c3 : p0.Kind = (0 : Int)
  ·
    replace H := ifT c3 H
    refine cond_tt hr (b := (p0.Kind == (0 : Int))) (beq_iff_eq.mpr c3) ?_
    refine wp_seq ?_
    refine wp_seq ?_
    refine wp_region_lit ?_
    refine ovs [13, 14, 15] [.int .i64 p1, .bool (decide (p1 ≥ (1 : Int))), .bool (decide (p1 ≥ (1 : Int)))] hr ⟨rfl, rfl⟩ (by kernel_rfl) ?_; clear hr a; intro a hr
    by_cases c4 : p1 ≥ (1 : Int)
    ·
      replace H := ifT c4 H
      refine op_val ((wg hr rfl rfl rfl (b' := (decide (p1 ≥ (1 : Int)))) (by kernel_rfl)).trans (by rw [show (decide (p1 ≥ (1 : Int))) = true from (decide_eq_true c4)]; rfl)) rfl rfl hr (v := .int .i64 p1) (by kernel_rfl) ?_; clear hr a; intro a hr
      refine op_val ((wg hr rfl rfl rfl (b' := (decide (p1 ≥ (1 : Int)))) (by kernel_rfl)).trans (by rw [show (decide (p1 ≥ (1 : Int))) = true from (decide_eq_true c4)]; rfl)) rfl rfl hr (v := .pointer (some ⟨b1, 5, none⟩)) (by kernel_rfl) ?_; clear hr a; intro a hr
      refine op_val ((wg hr rfl rfl rfl (b' := (decide (p1 ≥ (1 : Int)))) (by kernel_rfl)).trans (by rw [show (decide (p1 ≥ (1 : Int))) = true from (decide_eq_true c4)]; rfl)) rfl rfl hr (v := .int .i64 p0.Frames) (rl rfl (by kernel_rfl) (by kernel_rfl) (h.cell 5 rfl)) ?_; clear hr a; intro a hr
      refine op_val ((wg hr rfl rfl rfl (b' := (decide (p1 ≥ (1 : Int)))) (by kernel_rfl)).trans (by rw [show (decide (p1 ≥ (1 : Int))) = true from (decide_eq_true c4)]; rfl)) rfl rfl hr (v := .bool (decide (p1 ≤ p0.Frames))) (by kernel_rfl) ?_; clear hr a; intro a hr
      refine op_val (wn rfl) rfl rfl hr (v := .bool (decide (p1 ≤ p0.Frames))) (rp_t (b := (decide (p1 ≥ (1 : Int)))) rfl (by kernel_rfl) (decide_eq_true c4) (by kernel_rfl)) ?_; clear hr a; intro a hr
      refine wpList_nil ?_
      refine then_normal ?_
      by_cases c5 : p1 ≤ p0.Frames
      ·
        replace H := ifT c5 H
        refine cond_tt hr (b := (decide (p1 ≤ p0.Frames))) (decide_eq_true c5) ?_
        refine wp_seq ?_
        refine wp_region_lit ?_
        refine op_val (wn rfl) rfl rfl hr (v := .agg #[.int .i64 p0.Kind, .int .i64 p0.Join, .int .i64 p0.Cell, .int .i64 p0.V, .int .i64 p0.Next, .int .i64 p0.Frames, .int .i64 (wi (p0.Made + (1 : Int))), .int .i64 p0.Code, .int .i64 p0.Came]) (rlm (cs := [.int .i64 p0.Kind, .int .i64 p0.Join, .int .i64 p0.Cell, .int .i64 p0.V, .int .i64 p0.Next, .int .i64 p0.Frames, .int .i64 (wi (p0.Made + (1 : Int))), .int .i64 p0.Code, .int .i64 p0.Came]) rfl (by kernel_rfl) (by kernel_rfl) (by kernel_rfl) ⟨h.cell 0 rfl, h.cell 1 rfl, h.cell 2 rfl, h.cell 3 rfl, h.cell 4 rfl, h.cell 5 rfl, h.cell 6 rfl, h.cell 7 rfl, h.cell 8 rfl, trivial⟩) ?_; clear hr a; intro a hr
        replace H := bd1 H; obtain ⟨r6, e7, H⟩ := H
        refine ovs [22, 23] [.int .i64 p1, .int .i64 (wi (p1 - (1 : Int)))] hr ⟨rfl, rfl⟩ (by kernel_rfl) ?_; clear hr a; intro a hr
        have hc := plunderref8_Op__ended_ok (H := e7) (h := h)
        refine op_call (wn rfl) rfl rfl hr (f := 67) (args := #[.agg #[.int .i64 p0.Kind, .int .i64 p0.Join, .int .i64 p0.Cell, .int .i64 p0.V, .int .i64 p0.Next, .int .i64 p0.Frames, .int .i64 (wi (p0.Made + (1 : Int))), .int .i64 p0.Code, .int .i64 p0.Came], .int .i64 4, .int .i64 (wi (p1 - (1 : Int)))]) (by kernel_rfl) hc ?_; clear hc h
        rintro _ w ⟨rfl, h⟩; refine ⟨_, rfl, ?_⟩
        clear hr a; intro a hr
        replace h : Fit z (sepL (pts b2 (.cells #[.int .i64 0, .int .i64 0, .int .i64 0, .int .i64 0, .int .i64 0, .int .i64 0, .int .i64 0, .int .i64 0, .int .i64 0] 78) :: pts b1 (.cells #[.int .i64 p0.Kind, .int .i64 p0.Join, .int .i64 p0.Cell, .int .i64 p0.V, .int .i64 p0.Next, .int .i64 p0.Frames, .int .i64 (wi (p0.Made + (1 : Int))), .int .i64 p0.Code, .int .i64 p0.Came] 78) :: L)) _ := h.sel 2 [1, 0] (by kernel_rfl) (by kernel_rfl)
        refine op_stores (wn rfl) rfl hr rfl (by kernel_rfl) (by kernel_rfl) (vs := [.int .i64 r6.Kind, .int .i64 r6.Join, .int .i64 r6.Cell, .int .i64 r6.V, .int .i64 r6.Next, .int .i64 r6.Frames, .int .i64 r6.Made, .int .i64 r6.Code, .int .i64 r6.Came]) rfl rfl (by kernel_rfl) h (i := 0) (cs' := #[.int .i64 r6.Kind, .int .i64 r6.Join, .int .i64 r6.Cell, .int .i64 r6.V, .int .i64 r6.Next, .int .i64 r6.Frames, .int .i64 r6.Made, .int .i64 r6.Code, .int .i64 r6.Came]) rfl ?_; clear h; intro w h
        refine wpList_nil ?_
        replace h : Fit z (sepL (ob78 b2 r6 :: pts b1 (.cells #[.int .i64 p0.Kind, .int .i64 p0.Join, .int .i64 p0.Cell, .int .i64 p0.V, .int .i64 p0.Next, .int .i64 p0.Frames, .int .i64 (wi (p0.Made + (1 : Int))), .int .i64 p0.Code, .int .i64 p0.Came] 78) :: L)) _ := h
        refine then_normal ?_
        refine wp_ret ?_
        refine then_ret ?_
        refine blk_ret ?_
        refine then_ret ?_
        refine end_retC (cs := [.int .i64 r6.Kind, .int .i64 r6.Join, .int .i64 r6.Cell, .int .i64 r6.V, .int .i64 r6.Next, .int .i64 r6.Frames, .int .i64 r6.Made, .int .i64 r6.Code, .int .i64 r6.Came]) rfl hr (by kernel_rfl) (by kernel_rfl) (by kernel_rfl) ⟨h.cell 0 rfl, h.cell 1 rfl, h.cell 2 rfl, h.cell 3 rfl, h.cell 4 rfl, h.cell 5 rfl, h.cell 6 rfl, h.cell 7 rfl, h.cell 8 rfl, trivial⟩ ?_
        replace h : Fit z (sepL (L)) _ := h.sel 2 [] (by kernel_rfl) (by kernel_rfl)
        replace H := ej1 H; subst H
        exact ⟨rfl, h⟩
      ·
        replace H := ifF c5 H
        refine cond_ff hr (b := (decide (p1 ≤ p0.Frames))) (decide_eq_false c5) ?_
        refine wp_skip ?_
        refine then_normal ?_
        refine wp_seq ?_
        refine wp_region_lit ?_
        refine op_val (wn rfl) rfl rfl hr (v := .agg #[.int .i64 p0.Kind, .int .i64 p0.Join, .int .i64 p0.Cell, .int .i64 p0.V, .int .i64 p0.Next, .int .i64 p0.Frames, .int .i64 (wi (p0.Made + (1 : Int))), .int .i64 p0.Code, .int .i64 p0.Came]) (rlm (cs := [.int .i64 p0.Kind, .int .i64 p0.Join, .int .i64 p0.Cell, .int .i64 p0.V, .int .i64 p0.Next, .int .i64 p0.Frames, .int .i64 (wi (p0.Made + (1 : Int))), .int .i64 p0.Code, .int .i64 p0.Came]) rfl (by kernel_rfl) (by kernel_rfl) (by kernel_rfl) ⟨h.cell 0 rfl, h.cell 1 rfl, h.cell 2 rfl, h.cell 3 rfl, h.cell 4 rfl, h.cell 5 rfl, h.cell 6 rfl, h.cell 7 rfl, h.cell 8 rfl, trivial⟩) ?_; clear hr a; intro a hr
        replace H := bd1 H; obtain ⟨r8, e9, H⟩ := H
        have hc := plunderref8_Op__ended_ok (H := e9) (h := h)
        refine op_call (wn rfl) rfl rfl hr (f := 67) (args := #[.agg #[.int .i64 p0.Kind, .int .i64 p0.Join, .int .i64 p0.Cell, .int .i64 p0.V, .int .i64 p0.Next, .int .i64 p0.Frames, .int .i64 (wi (p0.Made + (1 : Int))), .int .i64 p0.Code, .int .i64 p0.Came], .int .i64 3, .int .i64 0]) (by kernel_rfl) hc ?_; clear hc h
        rintro _ w ⟨rfl, h⟩; refine ⟨_, rfl, ?_⟩
        clear hr a; intro a hr
        replace h : Fit z (sepL (pts b2 (.cells #[.int .i64 0, .int .i64 0, .int .i64 0, .int .i64 0, .int .i64 0, .int .i64 0, .int .i64 0, .int .i64 0, .int .i64 0] 78) :: pts b1 (.cells #[.int .i64 p0.Kind, .int .i64 p0.Join, .int .i64 p0.Cell, .int .i64 p0.V, .int .i64 p0.Next, .int .i64 p0.Frames, .int .i64 (wi (p0.Made + (1 : Int))), .int .i64 p0.Code, .int .i64 p0.Came] 78) :: L)) _ := h.sel 2 [1, 0] (by kernel_rfl) (by kernel_rfl)
        refine op_stores (wn rfl) rfl hr rfl (by kernel_rfl) (by kernel_rfl) (vs := [.int .i64 r8.Kind, .int .i64 r8.Join, .int .i64 r8.Cell, .int .i64 r8.V, .int .i64 r8.Next, .int .i64 r8.Frames, .int .i64 r8.Made, .int .i64 r8.Code, .int .i64 r8.Came]) rfl rfl (by kernel_rfl) h (i := 0) (cs' := #[.int .i64 r8.Kind, .int .i64 r8.Join, .int .i64 r8.Cell, .int .i64 r8.V, .int .i64 r8.Next, .int .i64 r8.Frames, .int .i64 r8.Made, .int .i64 r8.Code, .int .i64 r8.Came]) rfl ?_; clear h; intro w h
        refine wpList_nil ?_
        replace h : Fit z (sepL (ob78 b2 r8 :: pts b1 (.cells #[.int .i64 p0.Kind, .int .i64 p0.Join, .int .i64 p0.Cell, .int .i64 p0.V, .int .i64 p0.Next, .int .i64 p0.Frames, .int .i64 (wi (p0.Made + (1 : Int))), .int .i64 p0.Code, .int .i64 p0.Came] 78) :: L)) _ := h
        refine then_normal ?_
        refine wp_ret ?_
        refine blk_ret ?_
        refine then_ret ?_
        refine end_retC (cs := [.int .i64 r8.Kind, .int .i64 r8.Join, .int .i64 r8.Cell, .int .i64 r8.V, .int .i64 r8.Next, .int .i64 r8.Frames, .int .i64 r8.Made, .int .i64 r8.Code, .int .i64 r8.Came]) rfl hr (by kernel_rfl) (by kernel_rfl) (by kernel_rfl) ⟨h.cell 0 rfl, h.cell 1 rfl, h.cell 2 rfl, h.cell 3 rfl, h.cell 4 rfl, h.cell 5 rfl, h.cell 6 rfl, h.cell 7 rfl, h.cell 8 rfl, trivial⟩ ?_
        replace h : Fit z (sepL (L)) _ := h.sel 2 [] (by kernel_rfl) (by kernel_rfl)
        replace H := ej1 H; subst H
        exact ⟨rfl, h⟩
    ·
      replace H := ifF c4 H
      refine op_off ((wg hr rfl rfl rfl (b' := (decide (p1 ≥ (1 : Int)))) (by kernel_rfl)).trans (by rw [show (decide (p1 ≥ (1 : Int))) = false from (decide_eq_false c4)]; rfl)) rfl rfl hr ?_; clear hr a; intro a hr
      refine op_off ((wg hr rfl rfl rfl (b' := (decide (p1 ≥ (1 : Int)))) (by kernel_rfl)).trans (by rw [show (decide (p1 ≥ (1 : Int))) = false from (decide_eq_false c4)]; rfl)) rfl rfl hr ?_; clear hr a; intro a hr
      refine op_off ((wg hr rfl rfl rfl (b' := (decide (p1 ≥ (1 : Int)))) (by kernel_rfl)).trans (by rw [show (decide (p1 ≥ (1 : Int))) = false from (decide_eq_false c4)]; rfl)) rfl rfl hr ?_; clear hr a; intro a hr
      refine op_off ((wg hr rfl rfl rfl (b' := (decide (p1 ≥ (1 : Int)))) (by kernel_rfl)).trans (by rw [show (decide (p1 ≥ (1 : Int))) = false from (decide_eq_false c4)]; rfl)) rfl rfl hr ?_; clear hr a; intro a hr
      refine op_val (wn rfl) rfl rfl hr (v := .bool false) (rp_f (b := (decide (p1 ≥ (1 : Int)))) rfl (by kernel_rfl) (decide_eq_false c4) (by kernel_rfl)) ?_; clear hr a; intro a hr
      refine wpList_nil ?_
      refine then_normal ?_
      refine cond_ff hr (b := false) rfl ?_
      refine wp_skip ?_
      refine then_normal ?_
      refine wp_seq ?_
      refine wp_region_lit ?_
      refine op_val (wn rfl) rfl rfl hr (v := .agg #[.int .i64 p0.Kind, .int .i64 p0.Join, .int .i64 p0.Cell, .int .i64 p0.V, .int .i64 p0.Next, .int .i64 p0.Frames, .int .i64 (wi (p0.Made + (1 : Int))), .int .i64 p0.Code, .int .i64 p0.Came]) (rlm (cs := [.int .i64 p0.Kind, .int .i64 p0.Join, .int .i64 p0.Cell, .int .i64 p0.V, .int .i64 p0.Next, .int .i64 p0.Frames, .int .i64 (wi (p0.Made + (1 : Int))), .int .i64 p0.Code, .int .i64 p0.Came]) rfl (by kernel_rfl) (by kernel_rfl) (by kernel_rfl) ⟨h.cell 0 rfl, h.cell 1 rfl, h.cell 2 rfl, h.cell 3 rfl, h.cell 4 rfl, h.cell 5 rfl, h.cell 6 rfl, h.cell 7 rfl, h.cell 8 rfl, trivial⟩) ?_; clear hr a; intro a hr
      replace H := bd1 H; obtain ⟨r10, e11, H⟩ := H
      have hc := plunderref8_Op__ended_ok (H := e11) (h := h)
      refine op_call (wn rfl) rfl rfl hr (f := 67) (args := #[.agg #[.int .i64 p0.Kind, .int .i64 p0.Join, .int .i64 p0.Cell, .int .i64 p0.V, .int .i64 p0.Next, .int .i64 p0.Frames, .int .i64 (wi (p0.Made + (1 : Int))), .int .i64 p0.Code, .int .i64 p0.Came], .int .i64 3, .int .i64 0]) (by kernel_rfl) hc ?_; clear hc h
      rintro _ w ⟨rfl, h⟩; refine ⟨_, rfl, ?_⟩
      clear hr a; intro a hr
      replace h : Fit z (sepL (pts b2 (.cells #[.int .i64 0, .int .i64 0, .int .i64 0, .int .i64 0, .int .i64 0, .int .i64 0, .int .i64 0, .int .i64 0, .int .i64 0] 78) :: pts b1 (.cells #[.int .i64 p0.Kind, .int .i64 p0.Join, .int .i64 p0.Cell, .int .i64 p0.V, .int .i64 p0.Next, .int .i64 p0.Frames, .int .i64 (wi (p0.Made + (1 : Int))), .int .i64 p0.Code, .int .i64 p0.Came] 78) :: L)) _ := h.sel 2 [1, 0] (by kernel_rfl) (by kernel_rfl)
      refine op_stores (wn rfl) rfl hr rfl (by kernel_rfl) (by kernel_rfl) (vs := [.int .i64 r10.Kind, .int .i64 r10.Join, .int .i64 r10.Cell, .int .i64 r10.V, .int .i64 r10.Next, .int .i64 r10.Frames, .int .i64 r10.Made, .int .i64 r10.Code, .int .i64 r10.Came]) rfl rfl (by kernel_rfl) h (i := 0) (cs' := #[.int .i64 r10.Kind, .int .i64 r10.Join, .int .i64 r10.Cell, .int .i64 r10.V, .int .i64 r10.Next, .int .i64 r10.Frames, .int .i64 r10.Made, .int .i64 r10.Code, .int .i64 r10.Came]) rfl ?_; clear h; intro w h
      refine wpList_nil ?_
      replace h : Fit z (sepL (ob78 b2 r10 :: pts b1 (.cells #[.int .i64 p0.Kind, .int .i64 p0.Join, .int .i64 p0.Cell, .int .i64 p0.V, .int .i64 p0.Next, .int .i64 p0.Frames, .int .i64 (wi (p0.Made + (1 : Int))), .int .i64 p0.Code, .int .i64 p0.Came] 78) :: L)) _ := h
      refine then_normal ?_
      refine wp_ret ?_
      refine blk_ret ?_
      refine then_ret ?_
      refine end_retC (cs := [.int .i64 r10.Kind, .int .i64 r10.Join, .int .i64 r10.Cell, .int .i64 r10.V, .int .i64 r10.Next, .int .i64 r10.Frames, .int .i64 r10.Made, .int .i64 r10.Code, .int .i64 r10.Came]) rfl hr (by kernel_rfl) (by kernel_rfl) (by kernel_rfl) ⟨h.cell 0 rfl, h.cell 1 rfl, h.cell 2 rfl, h.cell 3 rfl, h.cell 4 rfl, h.cell 5 rfl, h.cell 6 rfl, h.cell 7 rfl, h.cell 8 rfl, trivial⟩ ?_
      replace h : Fit z (sepL (L)) _ := h.sel 2 [] (by kernel_rfl) (by kernel_rfl)
      replace H := ej1 H; subst H
      exact ⟨rfl, h⟩
  ·
    replace H := ifF c3 H
    refine cond_ff hr (b := (p0.Kind == (0 : Int))) (beq_eq_false_iff_ne.mpr c3) ?_
    refine wp_seq ?_
    refine wp_region_lit ?_
    refine ovs [28, 27] [.bool (p0.Kind == (1 : Int)), .bool (p0.Kind == (1 : Int))] hr ⟨rfl, rfl⟩ (by kernel_rfl) ?_; clear hr a; intro a hr
    refine wpList_nil ?_
    refine then_normal ?_
    by_cases c12 : p0.Kind = (1 : Int)
    ·
      replace H := ifT c12 H
      refine cond_tt hr (b := (p0.Kind == (1 : Int))) (beq_iff_eq.mpr c12) ?_
      refine wp_seq ?_
      refine wp_region_lit ?_
      refine op_val (wn rfl) rfl rfl hr (v := .agg #[.int .i64 p0.Kind, .int .i64 p0.Join, .int .i64 p0.Cell, .int .i64 p0.V, .int .i64 p0.Next, .int .i64 p0.Frames, .int .i64 (wi (p0.Made + (1 : Int))), .int .i64 p0.Code, .int .i64 p0.Came]) (rlm (cs := [.int .i64 p0.Kind, .int .i64 p0.Join, .int .i64 p0.Cell, .int .i64 p0.V, .int .i64 p0.Next, .int .i64 p0.Frames, .int .i64 (wi (p0.Made + (1 : Int))), .int .i64 p0.Code, .int .i64 p0.Came]) rfl (by kernel_rfl) (by kernel_rfl) (by kernel_rfl) ⟨h.cell 0 rfl, h.cell 1 rfl, h.cell 2 rfl, h.cell 3 rfl, h.cell 4 rfl, h.cell 5 rfl, h.cell 6 rfl, h.cell 7 rfl, h.cell 8 rfl, trivial⟩) ?_; clear hr a; intro a hr
      replace H := bd1 H; obtain ⟨r13, e14, H⟩ := H
      refine ov hr (.int .i64 p1) (by kernel_rfl) ?_; clear hr a; intro a hr
      have hc := plunderref8_Op__ended_ok (H := e14) (h := h)
      refine op_call (wn rfl) rfl rfl hr (f := 67) (args := #[.agg #[.int .i64 p0.Kind, .int .i64 p0.Join, .int .i64 p0.Cell, .int .i64 p0.V, .int .i64 p0.Next, .int .i64 p0.Frames, .int .i64 (wi (p0.Made + (1 : Int))), .int .i64 p0.Code, .int .i64 p0.Came], .int .i64 9, .int .i64 p1]) (by kernel_rfl) hc ?_; clear hc h
      rintro _ w ⟨rfl, h⟩; refine ⟨_, rfl, ?_⟩
      clear hr a; intro a hr
      replace h : Fit z (sepL (pts b2 (.cells #[.int .i64 0, .int .i64 0, .int .i64 0, .int .i64 0, .int .i64 0, .int .i64 0, .int .i64 0, .int .i64 0, .int .i64 0] 78) :: pts b1 (.cells #[.int .i64 p0.Kind, .int .i64 p0.Join, .int .i64 p0.Cell, .int .i64 p0.V, .int .i64 p0.Next, .int .i64 p0.Frames, .int .i64 (wi (p0.Made + (1 : Int))), .int .i64 p0.Code, .int .i64 p0.Came] 78) :: L)) _ := h.sel 2 [1, 0] (by kernel_rfl) (by kernel_rfl)
      refine op_stores (wn rfl) rfl hr rfl (by kernel_rfl) (by kernel_rfl) (vs := [.int .i64 r13.Kind, .int .i64 r13.Join, .int .i64 r13.Cell, .int .i64 r13.V, .int .i64 r13.Next, .int .i64 r13.Frames, .int .i64 r13.Made, .int .i64 r13.Code, .int .i64 r13.Came]) rfl rfl (by kernel_rfl) h (i := 0) (cs' := #[.int .i64 r13.Kind, .int .i64 r13.Join, .int .i64 r13.Cell, .int .i64 r13.V, .int .i64 r13.Next, .int .i64 r13.Frames, .int .i64 r13.Made, .int .i64 r13.Code, .int .i64 r13.Came]) rfl ?_; clear h; intro w h
      refine wpList_nil ?_
      replace h : Fit z (sepL (ob78 b2 r13 :: pts b1 (.cells #[.int .i64 p0.Kind, .int .i64 p0.Join, .int .i64 p0.Cell, .int .i64 p0.V, .int .i64 p0.Next, .int .i64 p0.Frames, .int .i64 (wi (p0.Made + (1 : Int))), .int .i64 p0.Code, .int .i64 p0.Came] 78) :: L)) _ := h
      refine then_normal ?_
      refine wp_ret ?_
      refine blk_ret ?_
      refine then_ret ?_
      refine end_retC (cs := [.int .i64 r13.Kind, .int .i64 r13.Join, .int .i64 r13.Cell, .int .i64 r13.V, .int .i64 r13.Next, .int .i64 r13.Frames, .int .i64 r13.Made, .int .i64 r13.Code, .int .i64 r13.Came]) rfl hr (by kernel_rfl) (by kernel_rfl) (by kernel_rfl) ⟨h.cell 0 rfl, h.cell 1 rfl, h.cell 2 rfl, h.cell 3 rfl, h.cell 4 rfl, h.cell 5 rfl, h.cell 6 rfl, h.cell 7 rfl, h.cell 8 rfl, trivial⟩ ?_
      replace h : Fit z (sepL (L)) _ := h.sel 2 [] (by kernel_rfl) (by kernel_rfl)
      replace H := ej1 H; subst H
      exact ⟨rfl, h⟩
    ·
      replace H := ifF c12 H
      refine cond_ff hr (b := (p0.Kind == (1 : Int))) (beq_eq_false_iff_ne.mpr c12) ?_
      refine wp_seq ?_
      refine wp_region_lit ?_
      refine ovs [33, 32] [.bool (p0.Kind == (2 : Int)), .bool (p0.Kind == (2 : Int))] hr ⟨rfl, rfl⟩ (by kernel_rfl) ?_; clear hr a; intro a hr
      refine wpList_nil ?_
      refine then_normal ?_
      by_cases c15 : p0.Kind = (2 : Int)
      ·
        replace H := ifT c15 H
        refine cond_tt hr (b := (p0.Kind == (2 : Int))) (beq_iff_eq.mpr c15) ?_
        replace H := jd0 H; obtain ⟨o17, H, hK16⟩ := H
        refine cut_rule (β := Unit) (fun _ a w => .inl () = o17 ∧ ∃ j, Rep 76 (lk [(2, .pointer (some ⟨b1, 0, none⟩)), (4, .pointer (some ⟨b2, 0, none⟩))] j) a ∧ Fit z (sepL (pts b1 (.cells #[.int .i64 p0.Kind, .int .i64 p0.Join, .int .i64 p0.Cell, .int .i64 p0.V, .int .i64 p0.Next, .int .i64 p0.Frames, .int .i64 (wi (p0.Made + (1 : Int))), .int .i64 p0.Code, .int .i64 p0.Came] 78) :: pts b2 (.cells #[.int .i64 0, .int .i64 0, .int .i64 0, .int .i64 0, .int .i64 0, .int .i64 0, .int .i64 0, .int .i64 0, .int .i64 0] 78) :: L)) w) ?_ ?_
        ·
          refine wp_seq ?_
          refine wp_region_lit ?_
          refine ov hr (.pointer (some ⟨b1, 6, none⟩)) (by kernel_rfl) ?_; clear hr a; intro a hr
          refine op_val (wn rfl) rfl rfl hr (v := .int .i64 (wi (p0.Made + (1 : Int)))) (rl rfl (by kernel_rfl) (by kernel_rfl) (h.cell 6 rfl)) ?_; clear hr a; intro a hr
          refine ovs [36, 37] [.bool ((wi (p0.Made + (1 : Int))) == (2 : Int)), .bool ((wi (p0.Made + (1 : Int))) == (2 : Int))] hr ⟨rfl, rfl⟩ (by kernel_rfl) ?_; clear hr a; intro a hr
          by_cases c18 : (wi (p0.Made + (1 : Int))) = (2 : Int)
          ·
            replace H := ifT c18 H
            refine op_val ((wg hr rfl rfl rfl (b' := ((wi (p0.Made + (1 : Int))) == (2 : Int))) (by kernel_rfl)).trans (by rw [show ((wi (p0.Made + (1 : Int))) == (2 : Int)) = true from (beq_iff_eq.mpr c18)]; rfl)) rfl rfl hr (v := .int .i64 p1) (by kernel_rfl) ?_; clear hr a; intro a hr
            refine op_val ((wg hr rfl rfl rfl (b' := ((wi (p0.Made + (1 : Int))) == (2 : Int))) (by kernel_rfl)).trans (by rw [show ((wi (p0.Made + (1 : Int))) == (2 : Int)) = true from (beq_iff_eq.mpr c18)]; rfl)) rfl rfl hr (v := .bool (p1 != (0 : Int))) (by kernel_rfl) ?_; clear hr a; intro a hr
            refine op_val (wn rfl) rfl rfl hr (v := .bool (p1 != (0 : Int))) (rp_t (b := ((wi (p0.Made + (1 : Int))) == (2 : Int))) rfl (by kernel_rfl) (beq_iff_eq.mpr c18) (by kernel_rfl)) ?_; clear hr a; intro a hr
            refine wpList_nil ?_
            refine then_normal ?_
            by_cases c19 : p1 = (0 : Int)
            ·
              replace H := ifT c19 H
              refine cond_ff hr (b := (p1 != (0 : Int))) (bne_eq_false_iff_eq.mpr c19) ?_
              refine wp_skip ?_
              refine then_normal ?_
              replace hr := hr.fold2 [(2, .pointer (some ⟨b1, 0, none⟩)), (4, .pointer (some ⟨b2, 0, none⟩))] (by kernel_rfl); obtain ⟨j, hr⟩ := hr
              exact ⟨(), sinj H, j, hr, h⟩
            ·
              replace H := ifF c19 H
              refine cond_tt hr (b := (p1 != (0 : Int))) (bne_iff_ne.mpr c19) ?_
              refine wp_seq ?_
              refine wp_region_lit ?_
              refine op_val (wn rfl) rfl rfl hr (v := .agg #[.int .i64 p0.Kind, .int .i64 p0.Join, .int .i64 p0.Cell, .int .i64 p0.V, .int .i64 p0.Next, .int .i64 p0.Frames, .int .i64 (wi (p0.Made + (1 : Int))), .int .i64 p0.Code, .int .i64 p0.Came]) (rlm (cs := [.int .i64 p0.Kind, .int .i64 p0.Join, .int .i64 p0.Cell, .int .i64 p0.V, .int .i64 p0.Next, .int .i64 p0.Frames, .int .i64 (wi (p0.Made + (1 : Int))), .int .i64 p0.Code, .int .i64 p0.Came]) rfl (by kernel_rfl) (by kernel_rfl) (by kernel_rfl) ⟨h.cell 0 rfl, h.cell 1 rfl, h.cell 2 rfl, h.cell 3 rfl, h.cell 4 rfl, h.cell 5 rfl, h.cell 6 rfl, h.cell 7 rfl, h.cell 8 rfl, trivial⟩) ?_; clear hr a; intro a hr
              replace H := bd1 H; obtain ⟨r20, e21, H⟩ := H
              refine ov hr (.int .i64 p1) (by kernel_rfl) ?_; clear hr a; intro a hr
              have hc := plunderref8_Op__ended_ok (H := e21) (h := h)
              refine op_call (wn rfl) rfl rfl hr (f := 67) (args := #[.agg #[.int .i64 p0.Kind, .int .i64 p0.Join, .int .i64 p0.Cell, .int .i64 p0.V, .int .i64 p0.Next, .int .i64 p0.Frames, .int .i64 (wi (p0.Made + (1 : Int))), .int .i64 p0.Code, .int .i64 p0.Came], .int .i64 10, .int .i64 p1]) (by kernel_rfl) hc ?_; clear hc h
              rintro _ w ⟨rfl, h⟩; refine ⟨_, rfl, ?_⟩
              clear hr a; intro a hr
              replace h : Fit z (sepL (pts b2 (.cells #[.int .i64 0, .int .i64 0, .int .i64 0, .int .i64 0, .int .i64 0, .int .i64 0, .int .i64 0, .int .i64 0, .int .i64 0] 78) :: pts b1 (.cells #[.int .i64 p0.Kind, .int .i64 p0.Join, .int .i64 p0.Cell, .int .i64 p0.V, .int .i64 p0.Next, .int .i64 p0.Frames, .int .i64 (wi (p0.Made + (1 : Int))), .int .i64 p0.Code, .int .i64 p0.Came] 78) :: L)) _ := h.sel 2 [1, 0] (by kernel_rfl) (by kernel_rfl)
              refine op_stores (wn rfl) rfl hr rfl (by kernel_rfl) (by kernel_rfl) (vs := [.int .i64 r20.Kind, .int .i64 r20.Join, .int .i64 r20.Cell, .int .i64 r20.V, .int .i64 r20.Next, .int .i64 r20.Frames, .int .i64 r20.Made, .int .i64 r20.Code, .int .i64 r20.Came]) rfl rfl (by kernel_rfl) h (i := 0) (cs' := #[.int .i64 r20.Kind, .int .i64 r20.Join, .int .i64 r20.Cell, .int .i64 r20.V, .int .i64 r20.Next, .int .i64 r20.Frames, .int .i64 r20.Made, .int .i64 r20.Code, .int .i64 r20.Came]) rfl ?_; clear h; intro w h
              refine wpList_nil ?_
              replace h : Fit z (sepL (ob78 b2 r20 :: pts b1 (.cells #[.int .i64 p0.Kind, .int .i64 p0.Join, .int .i64 p0.Cell, .int .i64 p0.V, .int .i64 p0.Next, .int .i64 p0.Frames, .int .i64 (wi (p0.Made + (1 : Int))), .int .i64 p0.Code, .int .i64 p0.Came] 78) :: L)) _ := h
              refine then_normal ?_
              refine wp_ret ?_
              refine then_ret ?_
              refine blk_ret ?_
              refine then_ret ?_
              refine end_retC (cs := [.int .i64 r20.Kind, .int .i64 r20.Join, .int .i64 r20.Cell, .int .i64 r20.V, .int .i64 r20.Next, .int .i64 r20.Frames, .int .i64 r20.Made, .int .i64 r20.Code, .int .i64 r20.Came]) rfl hr (by kernel_rfl) (by kernel_rfl) (by kernel_rfl) ⟨h.cell 0 rfl, h.cell 1 rfl, h.cell 2 rfl, h.cell 3 rfl, h.cell 4 rfl, h.cell 5 rfl, h.cell 6 rfl, h.cell 7 rfl, h.cell 8 rfl, trivial⟩ ?_
              replace H := jx0 H hK16
              replace h : Fit z (sepL (L)) _ := h.sel 2 [] (by kernel_rfl) (by kernel_rfl)
              replace H := ej1 H; subst H
              exact ⟨rfl, h⟩
          ·
            replace H := ifF c18 H
            refine op_off ((wg hr rfl rfl rfl (b' := ((wi (p0.Made + (1 : Int))) == (2 : Int))) (by kernel_rfl)).trans (by rw [show ((wi (p0.Made + (1 : Int))) == (2 : Int)) = false from (beq_eq_false_iff_ne.mpr c18)]; rfl)) rfl rfl hr ?_; clear hr a; intro a hr
            refine op_off ((wg hr rfl rfl rfl (b' := ((wi (p0.Made + (1 : Int))) == (2 : Int))) (by kernel_rfl)).trans (by rw [show ((wi (p0.Made + (1 : Int))) == (2 : Int)) = false from (beq_eq_false_iff_ne.mpr c18)]; rfl)) rfl rfl hr ?_; clear hr a; intro a hr
            refine op_val (wn rfl) rfl rfl hr (v := .bool false) (rp_f (b := ((wi (p0.Made + (1 : Int))) == (2 : Int))) rfl (by kernel_rfl) (beq_eq_false_iff_ne.mpr c18) (by kernel_rfl)) ?_; clear hr a; intro a hr
            refine wpList_nil ?_
            refine then_normal ?_
            refine cond_ff hr (b := false) rfl ?_
            refine wp_skip ?_
            refine then_normal ?_
            replace hr := hr.fold2 [(2, .pointer (some ⟨b1, 0, none⟩)), (4, .pointer (some ⟨b2, 0, none⟩))] (by kernel_rfl); obtain ⟨j, hr⟩ := hr
            exact ⟨(), sinj H, j, hr, h⟩
        clear h hr a; rintro _ a w ⟨rfl, j, hr, h⟩
        replace H := jk0 hK16
        refine wp_seq ?_
        refine wp_seq ?_
        refine wp_region_lit ?_
        refine ov hr (.pointer (some ⟨b1, 6, none⟩)) (by kernel_rfl) ?_; clear hr a; intro a hr
        refine op_val (wn rfl) rfl rfl hr (v := .int .i64 (wi (p0.Made + (1 : Int)))) (rl rfl (by kernel_rfl) (by kernel_rfl) (h.cell 6 rfl)) ?_; clear hr a; intro a hr
        refine ov hr (.bool ((wi (p0.Made + (1 : Int))) == (3 : Int))) (by kernel_rfl) ?_; clear hr a; intro a hr
        refine wpList_nil ?_
        refine then_normal ?_
        by_cases c22 : (wi (p0.Made + (1 : Int))) = (3 : Int)
        ·
          replace H := ifT c22 H
          refine cond_tt hr (b := ((wi (p0.Made + (1 : Int))) == (3 : Int))) (beq_iff_eq.mpr c22) ?_
          refine wp_seq ?_
          refine wp_region_lit ?_
          refine op_val (wn rfl) rfl rfl hr (v := .agg #[.int .i64 p0.Kind, .int .i64 p0.Join, .int .i64 p0.Cell, .int .i64 p0.V, .int .i64 p0.Next, .int .i64 p0.Frames, .int .i64 (wi (p0.Made + (1 : Int))), .int .i64 p0.Code, .int .i64 p0.Came]) (rlm (cs := [.int .i64 p0.Kind, .int .i64 p0.Join, .int .i64 p0.Cell, .int .i64 p0.V, .int .i64 p0.Next, .int .i64 p0.Frames, .int .i64 (wi (p0.Made + (1 : Int))), .int .i64 p0.Code, .int .i64 p0.Came]) rfl (by kernel_rfl) (by kernel_rfl) (by kernel_rfl) ⟨h.cell 0 rfl, h.cell 1 rfl, h.cell 2 rfl, h.cell 3 rfl, h.cell 4 rfl, h.cell 5 rfl, h.cell 6 rfl, h.cell 7 rfl, h.cell 8 rfl, trivial⟩) ?_; clear hr a; intro a hr
          replace H := bd1 H; obtain ⟨r23, e24, H⟩ := H
          have hc := plunderref8_Op__ended_ok (H := e24) (h := h)
          refine op_call (wn rfl) rfl rfl hr (f := 67) (args := #[.agg #[.int .i64 p0.Kind, .int .i64 p0.Join, .int .i64 p0.Cell, .int .i64 p0.V, .int .i64 p0.Next, .int .i64 p0.Frames, .int .i64 (wi (p0.Made + (1 : Int))), .int .i64 p0.Code, .int .i64 p0.Came], .int .i64 11, .int .i64 0]) (by kernel_rfl) hc ?_; clear hc h
          rintro _ w ⟨rfl, h⟩; refine ⟨_, rfl, ?_⟩
          clear hr a; intro a hr
          replace h : Fit z (sepL (pts b2 (.cells #[.int .i64 0, .int .i64 0, .int .i64 0, .int .i64 0, .int .i64 0, .int .i64 0, .int .i64 0, .int .i64 0, .int .i64 0] 78) :: pts b1 (.cells #[.int .i64 p0.Kind, .int .i64 p0.Join, .int .i64 p0.Cell, .int .i64 p0.V, .int .i64 p0.Next, .int .i64 p0.Frames, .int .i64 (wi (p0.Made + (1 : Int))), .int .i64 p0.Code, .int .i64 p0.Came] 78) :: L)) _ := h.sel 2 [1, 0] (by kernel_rfl) (by kernel_rfl)
          refine op_stores (wn rfl) rfl hr rfl (by kernel_rfl) (by kernel_rfl) (vs := [.int .i64 r23.Kind, .int .i64 r23.Join, .int .i64 r23.Cell, .int .i64 r23.V, .int .i64 r23.Next, .int .i64 r23.Frames, .int .i64 r23.Made, .int .i64 r23.Code, .int .i64 r23.Came]) rfl rfl (by kernel_rfl) h (i := 0) (cs' := #[.int .i64 r23.Kind, .int .i64 r23.Join, .int .i64 r23.Cell, .int .i64 r23.V, .int .i64 r23.Next, .int .i64 r23.Frames, .int .i64 r23.Made, .int .i64 r23.Code, .int .i64 r23.Came]) rfl ?_; clear h; intro w h
          refine wpList_nil ?_
          replace h : Fit z (sepL (ob78 b2 r23 :: pts b1 (.cells #[.int .i64 p0.Kind, .int .i64 p0.Join, .int .i64 p0.Cell, .int .i64 p0.V, .int .i64 p0.Next, .int .i64 p0.Frames, .int .i64 (wi (p0.Made + (1 : Int))), .int .i64 p0.Code, .int .i64 p0.Came] 78) :: L)) _ := h
          refine then_normal ?_
          refine wp_ret ?_
          refine then_ret ?_
          refine blk_ret ?_
          refine then_ret ?_
          refine end_retC (cs := [.int .i64 r23.Kind, .int .i64 r23.Join, .int .i64 r23.Cell, .int .i64 r23.V, .int .i64 r23.Next, .int .i64 r23.Frames, .int .i64 r23.Made, .int .i64 r23.Code, .int .i64 r23.Came]) rfl hr (by kernel_rfl) (by kernel_rfl) (by kernel_rfl) ⟨h.cell 0 rfl, h.cell 1 rfl, h.cell 2 rfl, h.cell 3 rfl, h.cell 4 rfl, h.cell 5 rfl, h.cell 6 rfl, h.cell 7 rfl, h.cell 8 rfl, trivial⟩ ?_
          replace h : Fit z (sepL (L)) _ := h.sel 2 [] (by kernel_rfl) (by kernel_rfl)
          replace H := ej1 H; subst H
          exact ⟨rfl, h⟩
        ·
          replace H := ifF c22 H
          refine cond_ff hr (b := ((wi (p0.Made + (1 : Int))) == (3 : Int))) (beq_eq_false_iff_ne.mpr c22) ?_
          refine wp_skip ?_
          refine then_normal ?_
          refine wp_seq ?_
          refine wp_region_lit ?_
          refine op_val (wn rfl) rfl rfl hr (v := .agg #[.int .i64 p0.Kind, .int .i64 p0.Join, .int .i64 p0.Cell, .int .i64 p0.V, .int .i64 p0.Next, .int .i64 p0.Frames, .int .i64 (wi (p0.Made + (1 : Int))), .int .i64 p0.Code, .int .i64 p0.Came]) (rlm (cs := [.int .i64 p0.Kind, .int .i64 p0.Join, .int .i64 p0.Cell, .int .i64 p0.V, .int .i64 p0.Next, .int .i64 p0.Frames, .int .i64 (wi (p0.Made + (1 : Int))), .int .i64 p0.Code, .int .i64 p0.Came]) rfl (by kernel_rfl) (by kernel_rfl) (by kernel_rfl) ⟨h.cell 0 rfl, h.cell 1 rfl, h.cell 2 rfl, h.cell 3 rfl, h.cell 4 rfl, h.cell 5 rfl, h.cell 6 rfl, h.cell 7 rfl, h.cell 8 rfl, trivial⟩) ?_; clear hr a; intro a hr
          replace h : Fit z (sepL (pts b2 (.cells #[.int .i64 0, .int .i64 0, .int .i64 0, .int .i64 0, .int .i64 0, .int .i64 0, .int .i64 0, .int .i64 0, .int .i64 0] 78) :: pts b1 (.cells #[.int .i64 p0.Kind, .int .i64 p0.Join, .int .i64 p0.Cell, .int .i64 p0.V, .int .i64 p0.Next, .int .i64 p0.Frames, .int .i64 (wi (p0.Made + (1 : Int))), .int .i64 p0.Code, .int .i64 p0.Came] 78) :: L)) _ := h.sel 2 [1, 0] (by kernel_rfl) (by kernel_rfl)
          refine op_stores (wn rfl) rfl hr rfl (by kernel_rfl) (by kernel_rfl) (vs := [.int .i64 p0.Kind, .int .i64 p0.Join, .int .i64 p0.Cell, .int .i64 p0.V, .int .i64 p0.Next, .int .i64 p0.Frames, .int .i64 (wi (p0.Made + (1 : Int))), .int .i64 p0.Code, .int .i64 p0.Came]) rfl rfl (by kernel_rfl) h (i := 0) (cs' := #[.int .i64 p0.Kind, .int .i64 p0.Join, .int .i64 p0.Cell, .int .i64 p0.V, .int .i64 p0.Next, .int .i64 p0.Frames, .int .i64 (wi (p0.Made + (1 : Int))), .int .i64 p0.Code, .int .i64 p0.Came]) rfl ?_; clear h; intro w h
          refine wpList_nil ?_
          replace h : Fit z (sepL (pts b2 (.cells #[.int .i64 p0.Kind, .int .i64 p0.Join, .int .i64 p0.Cell, .int .i64 p0.V, .int .i64 p0.Next, .int .i64 p0.Frames, .int .i64 (wi (p0.Made + (1 : Int))), .int .i64 p0.Code, .int .i64 p0.Came] 78) :: pts b1 (.cells #[.int .i64 p0.Kind, .int .i64 p0.Join, .int .i64 p0.Cell, .int .i64 p0.V, .int .i64 p0.Next, .int .i64 p0.Frames, .int .i64 (wi (p0.Made + (1 : Int))), .int .i64 p0.Code, .int .i64 p0.Came] 78) :: L)) _ := h
          refine then_normal ?_
          refine wp_ret ?_
          refine blk_ret ?_
          refine then_ret ?_
          refine end_retC (cs := [.int .i64 p0.Kind, .int .i64 p0.Join, .int .i64 p0.Cell, .int .i64 p0.V, .int .i64 p0.Next, .int .i64 p0.Frames, .int .i64 (wi (p0.Made + (1 : Int))), .int .i64 p0.Code, .int .i64 p0.Came]) rfl hr (by kernel_rfl) (by kernel_rfl) (by kernel_rfl) ⟨h.cell 0 rfl, h.cell 1 rfl, h.cell 2 rfl, h.cell 3 rfl, h.cell 4 rfl, h.cell 5 rfl, h.cell 6 rfl, h.cell 7 rfl, h.cell 8 rfl, trivial⟩ ?_
          replace h : Fit z (sepL (L)) _ := h.sel 2 [] (by kernel_rfl) (by kernel_rfl)
          replace H := ej1 H; subst H
          exact ⟨rfl, h⟩
      ·
        replace H := ifF c15 H
        refine cond_ff hr (b := (p0.Kind == (2 : Int))) (beq_eq_false_iff_ne.mpr c15) ?_
        refine wp_seq ?_
        refine wp_region_lit ?_
        refine ovs [51, 50] [.bool (p0.Kind == (3 : Int)), .bool (p0.Kind == (3 : Int))] hr ⟨rfl, rfl⟩ (by kernel_rfl) ?_; clear hr a; intro a hr
        refine wpList_nil ?_
        refine then_normal ?_
        by_cases c25 : p0.Kind = (3 : Int)
        ·
          replace H := ifT c25 H
          refine cond_tt hr (b := (p0.Kind == (3 : Int))) (beq_iff_eq.mpr c25) ?_
          replace H := jd0 H; obtain ⟨o27, H, hK26⟩ := H
          refine cut_rule (β := Unit) (fun _ a w => .inl () = o27 ∧ ∃ j, Rep 76 (lk [(2, .pointer (some ⟨b1, 0, none⟩)), (4, .pointer (some ⟨b2, 0, none⟩))] j) a ∧ Fit z (sepL (pts b1 (.cells #[.int .i64 p0.Kind, .int .i64 p0.Join, .int .i64 p0.Cell, .int .i64 p0.V, .int .i64 p0.Next, .int .i64 p0.Frames, .int .i64 (wi (p0.Made + (1 : Int))), .int .i64 p0.Code, .int .i64 p0.Came] 78) :: pts b2 (.cells #[.int .i64 0, .int .i64 0, .int .i64 0, .int .i64 0, .int .i64 0, .int .i64 0, .int .i64 0, .int .i64 0, .int .i64 0] 78) :: L)) w) ?_ ?_
          ·
            refine wp_seq ?_
            refine wp_region_lit ?_
            refine ov hr (.pointer (some ⟨b1, 6, none⟩)) (by kernel_rfl) ?_; clear hr a; intro a hr
            refine op_val (wn rfl) rfl rfl hr (v := .int .i64 (wi (p0.Made + (1 : Int)))) (rl rfl (by kernel_rfl) (by kernel_rfl) (h.cell 6 rfl)) ?_; clear hr a; intro a hr
            refine ovs [54, 55] [.bool ((wi (p0.Made + (1 : Int))) == (1 : Int)), .bool ((wi (p0.Made + (1 : Int))) == (1 : Int))] hr ⟨rfl, rfl⟩ (by kernel_rfl) ?_; clear hr a; intro a hr
            by_cases c28 : (wi (p0.Made + (1 : Int))) = (1 : Int)
            ·
              replace H := ifT c28 H
              refine op_val ((wg hr rfl rfl rfl (b' := ((wi (p0.Made + (1 : Int))) == (1 : Int))) (by kernel_rfl)).trans (by rw [show ((wi (p0.Made + (1 : Int))) == (1 : Int)) = true from (beq_iff_eq.mpr c28)]; rfl)) rfl rfl hr (v := .int .i64 p1) (by kernel_rfl) ?_; clear hr a; intro a hr
              refine op_val ((wg hr rfl rfl rfl (b' := ((wi (p0.Made + (1 : Int))) == (1 : Int))) (by kernel_rfl)).trans (by rw [show ((wi (p0.Made + (1 : Int))) == (1 : Int)) = true from (beq_iff_eq.mpr c28)]; rfl)) rfl rfl hr (v := .bool (p1 != (0 : Int))) (by kernel_rfl) ?_; clear hr a; intro a hr
              refine op_val (wn rfl) rfl rfl hr (v := .bool (p1 != (0 : Int))) (rp_t (b := ((wi (p0.Made + (1 : Int))) == (1 : Int))) rfl (by kernel_rfl) (beq_iff_eq.mpr c28) (by kernel_rfl)) ?_; clear hr a; intro a hr
              refine wpList_nil ?_
              refine then_normal ?_
              by_cases c29 : p1 = (0 : Int)
              ·
                replace H := ifT c29 H
                refine cond_ff hr (b := (p1 != (0 : Int))) (bne_eq_false_iff_eq.mpr c29) ?_
                refine wp_skip ?_
                refine then_normal ?_
                replace hr := hr.fold2 [(2, .pointer (some ⟨b1, 0, none⟩)), (4, .pointer (some ⟨b2, 0, none⟩))] (by kernel_rfl); obtain ⟨j, hr⟩ := hr
                exact ⟨(), sinj H, j, hr, h⟩
              ·
                replace H := ifF c29 H
                refine cond_tt hr (b := (p1 != (0 : Int))) (bne_iff_ne.mpr c29) ?_
                refine wp_seq ?_
                refine wp_region_lit ?_
                refine op_val (wn rfl) rfl rfl hr (v := .agg #[.int .i64 p0.Kind, .int .i64 p0.Join, .int .i64 p0.Cell, .int .i64 p0.V, .int .i64 p0.Next, .int .i64 p0.Frames, .int .i64 (wi (p0.Made + (1 : Int))), .int .i64 p0.Code, .int .i64 p0.Came]) (rlm (cs := [.int .i64 p0.Kind, .int .i64 p0.Join, .int .i64 p0.Cell, .int .i64 p0.V, .int .i64 p0.Next, .int .i64 p0.Frames, .int .i64 (wi (p0.Made + (1 : Int))), .int .i64 p0.Code, .int .i64 p0.Came]) rfl (by kernel_rfl) (by kernel_rfl) (by kernel_rfl) ⟨h.cell 0 rfl, h.cell 1 rfl, h.cell 2 rfl, h.cell 3 rfl, h.cell 4 rfl, h.cell 5 rfl, h.cell 6 rfl, h.cell 7 rfl, h.cell 8 rfl, trivial⟩) ?_; clear hr a; intro a hr
                replace H := bd1 H; obtain ⟨r30, e31, H⟩ := H
                refine ov hr (.int .i64 p1) (by kernel_rfl) ?_; clear hr a; intro a hr
                have hc := plunderref8_Op__ended_ok (H := e31) (h := h)
                refine op_call (wn rfl) rfl rfl hr (f := 67) (args := #[.agg #[.int .i64 p0.Kind, .int .i64 p0.Join, .int .i64 p0.Cell, .int .i64 p0.V, .int .i64 p0.Next, .int .i64 p0.Frames, .int .i64 (wi (p0.Made + (1 : Int))), .int .i64 p0.Code, .int .i64 p0.Came], .int .i64 12, .int .i64 p1]) (by kernel_rfl) hc ?_; clear hc h
                rintro _ w ⟨rfl, h⟩; refine ⟨_, rfl, ?_⟩
                clear hr a; intro a hr
                replace h : Fit z (sepL (pts b2 (.cells #[.int .i64 0, .int .i64 0, .int .i64 0, .int .i64 0, .int .i64 0, .int .i64 0, .int .i64 0, .int .i64 0, .int .i64 0] 78) :: pts b1 (.cells #[.int .i64 p0.Kind, .int .i64 p0.Join, .int .i64 p0.Cell, .int .i64 p0.V, .int .i64 p0.Next, .int .i64 p0.Frames, .int .i64 (wi (p0.Made + (1 : Int))), .int .i64 p0.Code, .int .i64 p0.Came] 78) :: L)) _ := h.sel 2 [1, 0] (by kernel_rfl) (by kernel_rfl)
                refine op_stores (wn rfl) rfl hr rfl (by kernel_rfl) (by kernel_rfl) (vs := [.int .i64 r30.Kind, .int .i64 r30.Join, .int .i64 r30.Cell, .int .i64 r30.V, .int .i64 r30.Next, .int .i64 r30.Frames, .int .i64 r30.Made, .int .i64 r30.Code, .int .i64 r30.Came]) rfl rfl (by kernel_rfl) h (i := 0) (cs' := #[.int .i64 r30.Kind, .int .i64 r30.Join, .int .i64 r30.Cell, .int .i64 r30.V, .int .i64 r30.Next, .int .i64 r30.Frames, .int .i64 r30.Made, .int .i64 r30.Code, .int .i64 r30.Came]) rfl ?_; clear h; intro w h
                refine wpList_nil ?_
                replace h : Fit z (sepL (ob78 b2 r30 :: pts b1 (.cells #[.int .i64 p0.Kind, .int .i64 p0.Join, .int .i64 p0.Cell, .int .i64 p0.V, .int .i64 p0.Next, .int .i64 p0.Frames, .int .i64 (wi (p0.Made + (1 : Int))), .int .i64 p0.Code, .int .i64 p0.Came] 78) :: L)) _ := h
                refine then_normal ?_
                refine wp_ret ?_
                refine then_ret ?_
                refine blk_ret ?_
                refine then_ret ?_
                refine end_retC (cs := [.int .i64 r30.Kind, .int .i64 r30.Join, .int .i64 r30.Cell, .int .i64 r30.V, .int .i64 r30.Next, .int .i64 r30.Frames, .int .i64 r30.Made, .int .i64 r30.Code, .int .i64 r30.Came]) rfl hr (by kernel_rfl) (by kernel_rfl) (by kernel_rfl) ⟨h.cell 0 rfl, h.cell 1 rfl, h.cell 2 rfl, h.cell 3 rfl, h.cell 4 rfl, h.cell 5 rfl, h.cell 6 rfl, h.cell 7 rfl, h.cell 8 rfl, trivial⟩ ?_
                replace H := jx0 H hK26
                replace h : Fit z (sepL (L)) _ := h.sel 2 [] (by kernel_rfl) (by kernel_rfl)
                replace H := ej1 H; subst H
                exact ⟨rfl, h⟩
            ·
              replace H := ifF c28 H
              refine op_off ((wg hr rfl rfl rfl (b' := ((wi (p0.Made + (1 : Int))) == (1 : Int))) (by kernel_rfl)).trans (by rw [show ((wi (p0.Made + (1 : Int))) == (1 : Int)) = false from (beq_eq_false_iff_ne.mpr c28)]; rfl)) rfl rfl hr ?_; clear hr a; intro a hr
              refine op_off ((wg hr rfl rfl rfl (b' := ((wi (p0.Made + (1 : Int))) == (1 : Int))) (by kernel_rfl)).trans (by rw [show ((wi (p0.Made + (1 : Int))) == (1 : Int)) = false from (beq_eq_false_iff_ne.mpr c28)]; rfl)) rfl rfl hr ?_; clear hr a; intro a hr
              refine op_val (wn rfl) rfl rfl hr (v := .bool false) (rp_f (b := ((wi (p0.Made + (1 : Int))) == (1 : Int))) rfl (by kernel_rfl) (beq_eq_false_iff_ne.mpr c28) (by kernel_rfl)) ?_; clear hr a; intro a hr
              refine wpList_nil ?_
              refine then_normal ?_
              refine cond_ff hr (b := false) rfl ?_
              refine wp_skip ?_
              refine then_normal ?_
              replace hr := hr.fold2 [(2, .pointer (some ⟨b1, 0, none⟩)), (4, .pointer (some ⟨b2, 0, none⟩))] (by kernel_rfl); obtain ⟨j, hr⟩ := hr
              exact ⟨(), sinj H, j, hr, h⟩
          clear h hr a; rintro _ a w ⟨rfl, j, hr, h⟩
          replace H := jk0 hK26
          refine wp_seq ?_
          refine wp_seq ?_
          refine wp_region_lit ?_
          refine ov hr (.pointer (some ⟨b1, 6, none⟩)) (by kernel_rfl) ?_; clear hr a; intro a hr
          refine op_val (wn rfl) rfl rfl hr (v := .int .i64 (wi (p0.Made + (1 : Int)))) (rl rfl (by kernel_rfl) (by kernel_rfl) (h.cell 6 rfl)) ?_; clear hr a; intro a hr
          refine ov hr (.bool ((wi (p0.Made + (1 : Int))) == (2 : Int))) (by kernel_rfl) ?_; clear hr a; intro a hr
          refine wpList_nil ?_
          refine then_normal ?_
          by_cases c32 : (wi (p0.Made + (1 : Int))) = (2 : Int)
          ·
            replace H := ifT c32 H
            refine cond_tt hr (b := ((wi (p0.Made + (1 : Int))) == (2 : Int))) (beq_iff_eq.mpr c32) ?_
            refine wp_seq ?_
            refine wp_region_lit ?_
            refine op_val (wn rfl) rfl rfl hr (v := .agg #[.int .i64 p0.Kind, .int .i64 p0.Join, .int .i64 p0.Cell, .int .i64 p0.V, .int .i64 p0.Next, .int .i64 p0.Frames, .int .i64 (wi (p0.Made + (1 : Int))), .int .i64 p0.Code, .int .i64 p0.Came]) (rlm (cs := [.int .i64 p0.Kind, .int .i64 p0.Join, .int .i64 p0.Cell, .int .i64 p0.V, .int .i64 p0.Next, .int .i64 p0.Frames, .int .i64 (wi (p0.Made + (1 : Int))), .int .i64 p0.Code, .int .i64 p0.Came]) rfl (by kernel_rfl) (by kernel_rfl) (by kernel_rfl) ⟨h.cell 0 rfl, h.cell 1 rfl, h.cell 2 rfl, h.cell 3 rfl, h.cell 4 rfl, h.cell 5 rfl, h.cell 6 rfl, h.cell 7 rfl, h.cell 8 rfl, trivial⟩) ?_; clear hr a; intro a hr
            replace H := bd1 H; obtain ⟨r33, e34, H⟩ := H
            have hc := plunderref8_Op__ended_ok (H := e34) (h := h)
            refine op_call (wn rfl) rfl rfl hr (f := 67) (args := #[.agg #[.int .i64 p0.Kind, .int .i64 p0.Join, .int .i64 p0.Cell, .int .i64 p0.V, .int .i64 p0.Next, .int .i64 p0.Frames, .int .i64 (wi (p0.Made + (1 : Int))), .int .i64 p0.Code, .int .i64 p0.Came], .int .i64 13, .int .i64 0]) (by kernel_rfl) hc ?_; clear hc h
            rintro _ w ⟨rfl, h⟩; refine ⟨_, rfl, ?_⟩
            clear hr a; intro a hr
            replace h : Fit z (sepL (pts b2 (.cells #[.int .i64 0, .int .i64 0, .int .i64 0, .int .i64 0, .int .i64 0, .int .i64 0, .int .i64 0, .int .i64 0, .int .i64 0] 78) :: pts b1 (.cells #[.int .i64 p0.Kind, .int .i64 p0.Join, .int .i64 p0.Cell, .int .i64 p0.V, .int .i64 p0.Next, .int .i64 p0.Frames, .int .i64 (wi (p0.Made + (1 : Int))), .int .i64 p0.Code, .int .i64 p0.Came] 78) :: L)) _ := h.sel 2 [1, 0] (by kernel_rfl) (by kernel_rfl)
            refine op_stores (wn rfl) rfl hr rfl (by kernel_rfl) (by kernel_rfl) (vs := [.int .i64 r33.Kind, .int .i64 r33.Join, .int .i64 r33.Cell, .int .i64 r33.V, .int .i64 r33.Next, .int .i64 r33.Frames, .int .i64 r33.Made, .int .i64 r33.Code, .int .i64 r33.Came]) rfl rfl (by kernel_rfl) h (i := 0) (cs' := #[.int .i64 r33.Kind, .int .i64 r33.Join, .int .i64 r33.Cell, .int .i64 r33.V, .int .i64 r33.Next, .int .i64 r33.Frames, .int .i64 r33.Made, .int .i64 r33.Code, .int .i64 r33.Came]) rfl ?_; clear h; intro w h
            refine wpList_nil ?_
            replace h : Fit z (sepL (ob78 b2 r33 :: pts b1 (.cells #[.int .i64 p0.Kind, .int .i64 p0.Join, .int .i64 p0.Cell, .int .i64 p0.V, .int .i64 p0.Next, .int .i64 p0.Frames, .int .i64 (wi (p0.Made + (1 : Int))), .int .i64 p0.Code, .int .i64 p0.Came] 78) :: L)) _ := h
            refine then_normal ?_
            refine wp_ret ?_
            refine then_ret ?_
            refine blk_ret ?_
            refine then_ret ?_
            refine end_retC (cs := [.int .i64 r33.Kind, .int .i64 r33.Join, .int .i64 r33.Cell, .int .i64 r33.V, .int .i64 r33.Next, .int .i64 r33.Frames, .int .i64 r33.Made, .int .i64 r33.Code, .int .i64 r33.Came]) rfl hr (by kernel_rfl) (by kernel_rfl) (by kernel_rfl) ⟨h.cell 0 rfl, h.cell 1 rfl, h.cell 2 rfl, h.cell 3 rfl, h.cell 4 rfl, h.cell 5 rfl, h.cell 6 rfl, h.cell 7 rfl, h.cell 8 rfl, trivial⟩ ?_
            replace h : Fit z (sepL (L)) _ := h.sel 2 [] (by kernel_rfl) (by kernel_rfl)
            replace H := ej1 H; subst H
            exact ⟨rfl, h⟩
          ·
            replace H := ifF c32 H
            refine cond_ff hr (b := ((wi (p0.Made + (1 : Int))) == (2 : Int))) (beq_eq_false_iff_ne.mpr c32) ?_
            refine wp_skip ?_
            refine then_normal ?_
            refine wp_seq ?_
            refine wp_region_lit ?_
            refine op_val (wn rfl) rfl rfl hr (v := .agg #[.int .i64 p0.Kind, .int .i64 p0.Join, .int .i64 p0.Cell, .int .i64 p0.V, .int .i64 p0.Next, .int .i64 p0.Frames, .int .i64 (wi (p0.Made + (1 : Int))), .int .i64 p0.Code, .int .i64 p0.Came]) (rlm (cs := [.int .i64 p0.Kind, .int .i64 p0.Join, .int .i64 p0.Cell, .int .i64 p0.V, .int .i64 p0.Next, .int .i64 p0.Frames, .int .i64 (wi (p0.Made + (1 : Int))), .int .i64 p0.Code, .int .i64 p0.Came]) rfl (by kernel_rfl) (by kernel_rfl) (by kernel_rfl) ⟨h.cell 0 rfl, h.cell 1 rfl, h.cell 2 rfl, h.cell 3 rfl, h.cell 4 rfl, h.cell 5 rfl, h.cell 6 rfl, h.cell 7 rfl, h.cell 8 rfl, trivial⟩) ?_; clear hr a; intro a hr
            replace h : Fit z (sepL (pts b2 (.cells #[.int .i64 0, .int .i64 0, .int .i64 0, .int .i64 0, .int .i64 0, .int .i64 0, .int .i64 0, .int .i64 0, .int .i64 0] 78) :: pts b1 (.cells #[.int .i64 p0.Kind, .int .i64 p0.Join, .int .i64 p0.Cell, .int .i64 p0.V, .int .i64 p0.Next, .int .i64 p0.Frames, .int .i64 (wi (p0.Made + (1 : Int))), .int .i64 p0.Code, .int .i64 p0.Came] 78) :: L)) _ := h.sel 2 [1, 0] (by kernel_rfl) (by kernel_rfl)
            refine op_stores (wn rfl) rfl hr rfl (by kernel_rfl) (by kernel_rfl) (vs := [.int .i64 p0.Kind, .int .i64 p0.Join, .int .i64 p0.Cell, .int .i64 p0.V, .int .i64 p0.Next, .int .i64 p0.Frames, .int .i64 (wi (p0.Made + (1 : Int))), .int .i64 p0.Code, .int .i64 p0.Came]) rfl rfl (by kernel_rfl) h (i := 0) (cs' := #[.int .i64 p0.Kind, .int .i64 p0.Join, .int .i64 p0.Cell, .int .i64 p0.V, .int .i64 p0.Next, .int .i64 p0.Frames, .int .i64 (wi (p0.Made + (1 : Int))), .int .i64 p0.Code, .int .i64 p0.Came]) rfl ?_; clear h; intro w h
            refine wpList_nil ?_
            replace h : Fit z (sepL (pts b2 (.cells #[.int .i64 p0.Kind, .int .i64 p0.Join, .int .i64 p0.Cell, .int .i64 p0.V, .int .i64 p0.Next, .int .i64 p0.Frames, .int .i64 (wi (p0.Made + (1 : Int))), .int .i64 p0.Code, .int .i64 p0.Came] 78) :: pts b1 (.cells #[.int .i64 p0.Kind, .int .i64 p0.Join, .int .i64 p0.Cell, .int .i64 p0.V, .int .i64 p0.Next, .int .i64 p0.Frames, .int .i64 (wi (p0.Made + (1 : Int))), .int .i64 p0.Code, .int .i64 p0.Came] 78) :: L)) _ := h
            refine then_normal ?_
            refine wp_ret ?_
            refine blk_ret ?_
            refine then_ret ?_
            refine end_retC (cs := [.int .i64 p0.Kind, .int .i64 p0.Join, .int .i64 p0.Cell, .int .i64 p0.V, .int .i64 p0.Next, .int .i64 p0.Frames, .int .i64 (wi (p0.Made + (1 : Int))), .int .i64 p0.Code, .int .i64 p0.Came]) rfl hr (by kernel_rfl) (by kernel_rfl) (by kernel_rfl) ⟨h.cell 0 rfl, h.cell 1 rfl, h.cell 2 rfl, h.cell 3 rfl, h.cell 4 rfl, h.cell 5 rfl, h.cell 6 rfl, h.cell 7 rfl, h.cell 8 rfl, trivial⟩ ?_
            replace h : Fit z (sepL (L)) _ := h.sel 2 [] (by kernel_rfl) (by kernel_rfl)
            replace H := ej1 H; subst H
            exact ⟨rfl, h⟩
        ·
          replace H := ifF c25 H
          refine cond_ff hr (b := (p0.Kind == (3 : Int))) (beq_eq_false_iff_ne.mpr c25) ?_
          refine wp_seq ?_
          refine wp_region_lit ?_
          refine ovs [69, 68] [.bool (p0.Kind == (4 : Int)), .bool (p0.Kind == (4 : Int))] hr ⟨rfl, rfl⟩ (by kernel_rfl) ?_; clear hr a; intro a hr
          refine wpList_nil ?_
          refine then_normal ?_
          by_cases c35 : p0.Kind = (4 : Int)
          ·
            replace H := ifT c35 H
            refine cond_tt hr (b := (p0.Kind == (4 : Int))) (beq_iff_eq.mpr c35) ?_
            refine wp_seq ?_
            refine wp_region_lit ?_
            refine op_val (wn rfl) rfl rfl hr (v := .agg #[.int .i64 p0.Kind, .int .i64 p0.Join, .int .i64 p0.Cell, .int .i64 p0.V, .int .i64 p0.Next, .int .i64 p0.Frames, .int .i64 (wi (p0.Made + (1 : Int))), .int .i64 p0.Code, .int .i64 p0.Came]) (rlm (cs := [.int .i64 p0.Kind, .int .i64 p0.Join, .int .i64 p0.Cell, .int .i64 p0.V, .int .i64 p0.Next, .int .i64 p0.Frames, .int .i64 (wi (p0.Made + (1 : Int))), .int .i64 p0.Code, .int .i64 p0.Came]) rfl (by kernel_rfl) (by kernel_rfl) (by kernel_rfl) ⟨h.cell 0 rfl, h.cell 1 rfl, h.cell 2 rfl, h.cell 3 rfl, h.cell 4 rfl, h.cell 5 rfl, h.cell 6 rfl, h.cell 7 rfl, h.cell 8 rfl, trivial⟩) ?_; clear hr a; intro a hr
            replace H := bd1 H; obtain ⟨r36, e37, H⟩ := H
            refine ov hr (.int .i64 p1) (by kernel_rfl) ?_; clear hr a; intro a hr
            have hc := plunderref8_Op__ended_ok (H := e37) (h := h)
            refine op_call (wn rfl) rfl rfl hr (f := 67) (args := #[.agg #[.int .i64 p0.Kind, .int .i64 p0.Join, .int .i64 p0.Cell, .int .i64 p0.V, .int .i64 p0.Next, .int .i64 p0.Frames, .int .i64 (wi (p0.Made + (1 : Int))), .int .i64 p0.Code, .int .i64 p0.Came], .int .i64 14, .int .i64 p1]) (by kernel_rfl) hc ?_; clear hc h
            rintro _ w ⟨rfl, h⟩; refine ⟨_, rfl, ?_⟩
            clear hr a; intro a hr
            replace h : Fit z (sepL (pts b2 (.cells #[.int .i64 0, .int .i64 0, .int .i64 0, .int .i64 0, .int .i64 0, .int .i64 0, .int .i64 0, .int .i64 0, .int .i64 0] 78) :: pts b1 (.cells #[.int .i64 p0.Kind, .int .i64 p0.Join, .int .i64 p0.Cell, .int .i64 p0.V, .int .i64 p0.Next, .int .i64 p0.Frames, .int .i64 (wi (p0.Made + (1 : Int))), .int .i64 p0.Code, .int .i64 p0.Came] 78) :: L)) _ := h.sel 2 [1, 0] (by kernel_rfl) (by kernel_rfl)
            refine op_stores (wn rfl) rfl hr rfl (by kernel_rfl) (by kernel_rfl) (vs := [.int .i64 r36.Kind, .int .i64 r36.Join, .int .i64 r36.Cell, .int .i64 r36.V, .int .i64 r36.Next, .int .i64 r36.Frames, .int .i64 r36.Made, .int .i64 r36.Code, .int .i64 r36.Came]) rfl rfl (by kernel_rfl) h (i := 0) (cs' := #[.int .i64 r36.Kind, .int .i64 r36.Join, .int .i64 r36.Cell, .int .i64 r36.V, .int .i64 r36.Next, .int .i64 r36.Frames, .int .i64 r36.Made, .int .i64 r36.Code, .int .i64 r36.Came]) rfl ?_; clear h; intro w h
            refine wpList_nil ?_
            replace h : Fit z (sepL (ob78 b2 r36 :: pts b1 (.cells #[.int .i64 p0.Kind, .int .i64 p0.Join, .int .i64 p0.Cell, .int .i64 p0.V, .int .i64 p0.Next, .int .i64 p0.Frames, .int .i64 (wi (p0.Made + (1 : Int))), .int .i64 p0.Code, .int .i64 p0.Came] 78) :: L)) _ := h
            refine then_normal ?_
            refine wp_ret ?_
            refine blk_ret ?_
            refine then_ret ?_
            refine end_retC (cs := [.int .i64 r36.Kind, .int .i64 r36.Join, .int .i64 r36.Cell, .int .i64 r36.V, .int .i64 r36.Next, .int .i64 r36.Frames, .int .i64 r36.Made, .int .i64 r36.Code, .int .i64 r36.Came]) rfl hr (by kernel_rfl) (by kernel_rfl) (by kernel_rfl) ⟨h.cell 0 rfl, h.cell 1 rfl, h.cell 2 rfl, h.cell 3 rfl, h.cell 4 rfl, h.cell 5 rfl, h.cell 6 rfl, h.cell 7 rfl, h.cell 8 rfl, trivial⟩ ?_
            replace h : Fit z (sepL (L)) _ := h.sel 2 [] (by kernel_rfl) (by kernel_rfl)
            replace H := ej1 H; subst H
            exact ⟨rfl, h⟩
          ·
            replace H := ifF c35 H
            refine cond_ff hr (b := (p0.Kind == (4 : Int))) (beq_eq_false_iff_ne.mpr c35) ?_
            refine wp_skip ?_
            refine blk_normal ?_
            refine then_normal ?_
            refine wp_seq ?_
            refine wp_region_lit ?_
            refine op_val (wn rfl) rfl rfl hr (v := .agg #[.int .i64 p0.Kind, .int .i64 p0.Join, .int .i64 p0.Cell, .int .i64 p0.V, .int .i64 p0.Next, .int .i64 p0.Frames, .int .i64 (wi (p0.Made + (1 : Int))), .int .i64 p0.Code, .int .i64 p0.Came]) (rlm (cs := [.int .i64 p0.Kind, .int .i64 p0.Join, .int .i64 p0.Cell, .int .i64 p0.V, .int .i64 p0.Next, .int .i64 p0.Frames, .int .i64 (wi (p0.Made + (1 : Int))), .int .i64 p0.Code, .int .i64 p0.Came]) rfl (by kernel_rfl) (by kernel_rfl) (by kernel_rfl) ⟨h.cell 0 rfl, h.cell 1 rfl, h.cell 2 rfl, h.cell 3 rfl, h.cell 4 rfl, h.cell 5 rfl, h.cell 6 rfl, h.cell 7 rfl, h.cell 8 rfl, trivial⟩) ?_; clear hr a; intro a hr
            replace H := bd1 H; obtain ⟨r38, e39, H⟩ := H
            refine ov hr (.int .i64 p1) (by kernel_rfl) ?_; clear hr a; intro a hr
            have hc := plunderref8_Op__ended_ok (H := e39) (h := h)
            refine op_call (wn rfl) rfl rfl hr (f := 67) (args := #[.agg #[.int .i64 p0.Kind, .int .i64 p0.Join, .int .i64 p0.Cell, .int .i64 p0.V, .int .i64 p0.Next, .int .i64 p0.Frames, .int .i64 (wi (p0.Made + (1 : Int))), .int .i64 p0.Code, .int .i64 p0.Came], .int .i64 15, .int .i64 p1]) (by kernel_rfl) hc ?_; clear hc h
            rintro _ w ⟨rfl, h⟩; refine ⟨_, rfl, ?_⟩
            clear hr a; intro a hr
            replace h : Fit z (sepL (pts b2 (.cells #[.int .i64 0, .int .i64 0, .int .i64 0, .int .i64 0, .int .i64 0, .int .i64 0, .int .i64 0, .int .i64 0, .int .i64 0] 78) :: pts b1 (.cells #[.int .i64 p0.Kind, .int .i64 p0.Join, .int .i64 p0.Cell, .int .i64 p0.V, .int .i64 p0.Next, .int .i64 p0.Frames, .int .i64 (wi (p0.Made + (1 : Int))), .int .i64 p0.Code, .int .i64 p0.Came] 78) :: L)) _ := h.sel 2 [1, 0] (by kernel_rfl) (by kernel_rfl)
            refine op_stores (wn rfl) rfl hr rfl (by kernel_rfl) (by kernel_rfl) (vs := [.int .i64 r38.Kind, .int .i64 r38.Join, .int .i64 r38.Cell, .int .i64 r38.V, .int .i64 r38.Next, .int .i64 r38.Frames, .int .i64 r38.Made, .int .i64 r38.Code, .int .i64 r38.Came]) rfl rfl (by kernel_rfl) h (i := 0) (cs' := #[.int .i64 r38.Kind, .int .i64 r38.Join, .int .i64 r38.Cell, .int .i64 r38.V, .int .i64 r38.Next, .int .i64 r38.Frames, .int .i64 r38.Made, .int .i64 r38.Code, .int .i64 r38.Came]) rfl ?_; clear h; intro w h
            refine wpList_nil ?_
            replace h : Fit z (sepL (ob78 b2 r38 :: pts b1 (.cells #[.int .i64 p0.Kind, .int .i64 p0.Join, .int .i64 p0.Cell, .int .i64 p0.V, .int .i64 p0.Next, .int .i64 p0.Frames, .int .i64 (wi (p0.Made + (1 : Int))), .int .i64 p0.Code, .int .i64 p0.Came] 78) :: L)) _ := h
            refine then_normal ?_
            refine wp_ret ?_
            refine end_retC (cs := [.int .i64 r38.Kind, .int .i64 r38.Join, .int .i64 r38.Cell, .int .i64 r38.V, .int .i64 r38.Next, .int .i64 r38.Frames, .int .i64 r38.Made, .int .i64 r38.Code, .int .i64 r38.Came]) rfl hr (by kernel_rfl) (by kernel_rfl) (by kernel_rfl) ⟨h.cell 0 rfl, h.cell 1 rfl, h.cell 2 rfl, h.cell 3 rfl, h.cell 4 rfl, h.cell 5 rfl, h.cell 6 rfl, h.cell 7 rfl, h.cell 8 rfl, trivial⟩ ?_
            replace h : Fit z (sepL (L)) _ := h.sel 2 [] (by kernel_rfl) (by kernel_rfl)
            replace H := ej1 H; subst H
            exact ⟨rfl, h⟩


end Go.Proofs.Ytnghahgfcaolbaa.Mo
