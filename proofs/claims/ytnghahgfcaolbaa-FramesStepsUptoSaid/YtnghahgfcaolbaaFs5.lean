/- what the functions compute, as plain Lean functions, and that they do -/
import Derived.Test.YtnghahgfcaolbaaFs4
namespace Go.Proofs.Ytnghahgfcaolbaa.Mo
open Go Go.RowKit Go.Proofs.Ytnghahgfcaolbaa.SL Go.Proofs.Ytnghahgfcaolbaa.GX
set_option linter.unusedVariables false
set_option linter.unusedSimpArgs false

/-- plunder/plunderref8.Step -/
def plunderref8_Step (K : Nat) (p0 : T_plunderref2_Arena) (p1 : T_plunderref8_Op) : Option (T_plunderref8_Op × T_plunderref2_Arena) :=
  (if p1.Code = (0 : Int) then ob1 (plunderref8_Op__want p1) (fun r8 => ob2 (plunderref2_Arena_Do K p0 r8) (fun r11 S12 => (if r11.Err = (0 : Int) then ob1 (plunderref8_Op__behind p1 r11.V) (fun r20 => some (r20, S12)) else ob1 (plunderref8_Op__ended p1 1 0) (fun r22 => some (r22, S12))))) else some (p1, p0))
set_option maxRecDepth 100000 in
set_option maxHeartbeats 4000000 in
theorem plunderref8_Step_ok {z w : World} {L : List HProp} {K : Nat} {p0 : T_plunderref2_Arena} {p1 : T_plunderref8_Op} {B0 : Nat} {ca1 : Option Addr} {cc2 : Nat} {ca3 : Option Addr} {cc4 : Nat} {r0 : T_plunderref8_Op} {q0 : T_plunderref2_Arena} (H : plunderref8_Step K p0 p1 = some (r0, q0)) (h : Fit z (sepL (ob34 B0 p0 ca1 cc2 ca3 cc4 :: ro2 ca1 cc2 p0.Held :: ro96 ca3 cc4 p0.Book :: L)) w)  :
    Calls Try.prog 40 #[.pointer (some ⟨B0, 0, none⟩), .agg #[.int .i64 p1.Kind, .int .i64 p1.Join, .int .i64 p1.Cell, .int .i64 p1.V, .int .i64 p1.Next, .int .i64 p1.Frames, .int .i64 p1.Made, .int .i64 p1.Code, .int .i64 p1.Came]] w fun e w => ∃ caq0_1 : Option Addr, ∃ ccq0_2 : Nat, ∃ caq0_3 : Option Addr, ∃ ccq0_4 : Nat, e = .returned (.agg #[.int .i64 r0.Kind, .int .i64 r0.Join, .int .i64 r0.Cell, .int .i64 r0.V, .int .i64 r0.Next, .int .i64 r0.Frames, .int .i64 r0.Made, .int .i64 r0.Code, .int .i64 r0.Came]) ∧ Fit z (sepL (ob34 B0 q0 caq0_1 ccq0_2 caq0_3 ccq0_4 :: ro2 caq0_1 ccq0_2 q0.Held :: ro96 caq0_3 ccq0_4 q0.Book :: L)) w := by
  unfold plunderref8_Step at H
  refine enter Try.func40 rfl 25 rfl rfl [(0, .pointer (some ⟨B0, 0, none⟩)), (1, .agg #[.int .i64 p1.Kind, .int .i64 p1.Join, .int .i64 p1.Cell, .int .i64 p1.V, .int .i64 p1.Next, .int .i64 p1.Frames, .int .i64 p1.Made, .int .i64 p1.Code, .int .i64 p1.Came])] ⟨rfl, rfl, trivial⟩ ?_
  intro j a hr
  refine wp_seq ?_
  refine wp_region_lit ?_
  refine op_new (wn rfl) rfl rfl hr h (vf := fun b => .pointer (some ⟨b, 0, none⟩)) (cs := #[.int .i64 p1.Kind, .int .i64 p1.Join, .int .i64 p1.Cell, .int .i64 p1.V, .int .i64 p1.Next, .int .i64 p1.Frames, .int .i64 p1.Made, .int .i64 p1.Code, .int .i64 p1.Came]) (T := 78) (by kernel_rfl) ?_; clear h hr a; intro b5 w a h hr
  refine op_new (wn rfl) rfl rfl hr h (vf := fun b => .pointer (some ⟨b, 0, none⟩)) (cs := #[.int .i64 0, .int .i64 0, .int .i64 0, .int .i64 0, .int .i64 0, .int .i64 0, .int .i64 0, .int .i64 0, .int .i64 0]) (T := 78) (by kernel_rfl) ?_; clear h hr a; intro b6 w a h hr
  refine wpList_nil ?_
  refine then_normal ?_
  refine wp_seq ?_
  refine wp_seq ?_
  refine wp_region_lit ?_
  refine ov hr (.pointer (some ⟨b5, 7, none⟩)) (by kernel_rfl) ?_; clear hr a; intro a hr
  refine op_val (wn rfl) rfl rfl hr (v := .int .i64 p1.Code) (rl rfl (by kernel_rfl) (by kernel_rfl) ((h.pick 1).cell 7 rfl)) ?_; clear hr a; intro a hr
  refine ov hr (.bool (p1.Code != (0 : Int))) (by kernel_rfl) ?_; clear hr a; intro a hr
  refine wpList_nil ?_
  refine then_normal ?_
  by_cases c7 : p1.Code = (0 : Int)
  ·
    replace H := ifT c7 H
    refine cond_ff hr (b := (p1.Code != (0 : Int))) (bne_eq_false_iff_eq.mpr c7) ?_
    refine wp_skip ?_
    refine then_normal ?_
    refine wp_seq ?_
    refine wp_region_lit ?_
    refine op_val (wn rfl) rfl rfl hr (v := .agg #[.int .i64 p1.Kind, .int .i64 p1.Join, .int .i64 p1.Cell, .int .i64 p1.V, .int .i64 p1.Next, .int .i64 p1.Frames, .int .i64 p1.Made, .int .i64 p1.Code, .int .i64 p1.Came]) (rlm (cs := [.int .i64 p1.Kind, .int .i64 p1.Join, .int .i64 p1.Cell, .int .i64 p1.V, .int .i64 p1.Next, .int .i64 p1.Frames, .int .i64 p1.Made, .int .i64 p1.Code, .int .i64 p1.Came]) rfl (by kernel_rfl) (by kernel_rfl) (by kernel_rfl) ⟨(h.pick 1).cell 0 rfl, (h.pick 1).cell 1 rfl, (h.pick 1).cell 2 rfl, (h.pick 1).cell 3 rfl, (h.pick 1).cell 4 rfl, (h.pick 1).cell 5 rfl, (h.pick 1).cell 6 rfl, (h.pick 1).cell 7 rfl, (h.pick 1).cell 8 rfl, trivial⟩) ?_; clear hr a; intro a hr
    replace H := bd1 H; obtain ⟨r8, e9, H⟩ := H
    have hc := plunderref8_Op__want_ok (H := e9) (h := h)
    refine op_call (wn rfl) rfl rfl hr (f := 66) (args := #[.agg #[.int .i64 p1.Kind, .int .i64 p1.Join, .int .i64 p1.Cell, .int .i64 p1.V, .int .i64 p1.Next, .int .i64 p1.Frames, .int .i64 p1.Made, .int .i64 p1.Code, .int .i64 p1.Came]]) (by kernel_rfl) hc ?_; clear hc h
    rintro _ w ⟨rfl, h⟩; refine ⟨_, rfl, ?_⟩
    clear hr a; intro a hr
    refine op_new (wn rfl) rfl rfl hr h (vf := fun b => .pointer (some ⟨b, 0, none⟩)) (cs := #[.int .i64 0, .int .i64 0, .int .i64 0, .int .i64 0, .int .i64 0]) (T := 69) (by kernel_rfl) ?_; clear h hr a; intro b10 w a h hr
    refine op_stores (wn rfl) rfl hr rfl (by kernel_rfl) (by kernel_rfl) (vs := [.int .i64 r8.Who, .int .i64 r8.Kind, .int .i64 r8.Addr, .int .i64 r8.A, .int .i64 r8.B]) rfl rfl (by kernel_rfl) h (i := 0) (cs' := #[.int .i64 r8.Who, .int .i64 r8.Kind, .int .i64 r8.Addr, .int .i64 r8.A, .int .i64 r8.B]) rfl ?_; clear h; intro w h
    refine wpList_nil ?_
    replace h : Fit z (sepL (ob69 b10 r8 :: pts b6 (.cells #[.int .i64 0, .int .i64 0, .int .i64 0, .int .i64 0, .int .i64 0, .int .i64 0, .int .i64 0, .int .i64 0, .int .i64 0] 78) :: ob78 b5 p1 :: ob34 B0 p0 ca1 cc2 ca3 cc4 :: ro2 ca1 cc2 p0.Held :: ro96 ca3 cc4 p0.Book :: L)) _ := h
    refine then_normal ?_
    refine wp_seq ?_
    refine wp_region_lit ?_
    refine ov hr (.pointer (some ⟨B0, 0, none⟩)) (by kernel_rfl) ?_; clear hr a; intro a hr
    refine op_val (wn rfl) rfl rfl hr (v := .agg #[.int .i64 r8.Who, .int .i64 r8.Kind, .int .i64 r8.Addr, .int .i64 r8.A, .int .i64 r8.B]) (rlm (cs := [.int .i64 r8.Who, .int .i64 r8.Kind, .int .i64 r8.Addr, .int .i64 r8.A, .int .i64 r8.B]) rfl (by kernel_rfl) (by kernel_rfl) (by kernel_rfl) ⟨h.cell 0 rfl, h.cell 1 rfl, h.cell 2 rfl, h.cell 3 rfl, h.cell 4 rfl, trivial⟩) ?_; clear hr a; intro a hr
    replace H := bd2 H; obtain ⟨r11, S12, e13, H⟩ := H
    replace h : Fit z (sepL (ob34 B0 p0 ca1 cc2 ca3 cc4 :: ro2 ca1 cc2 p0.Held :: ro96 ca3 cc4 p0.Book :: ob69 b10 r8 :: pts b6 (.cells #[.int .i64 0, .int .i64 0, .int .i64 0, .int .i64 0, .int .i64 0, .int .i64 0, .int .i64 0, .int .i64 0, .int .i64 0] 78) :: ob78 b5 p1 :: L)) _ := h.sel 6 [3, 4, 5, 0, 1, 2] (by kernel_rfl) (by kernel_rfl)
    have hc := plunderref2_Arena_Do_ok (H := e13) (h := h)
    refine op_call (wn rfl) rfl rfl hr (f := 34) (args := #[.pointer (some ⟨B0, 0, none⟩), .agg #[.int .i64 r8.Who, .int .i64 r8.Kind, .int .i64 r8.Addr, .int .i64 r8.A, .int .i64 r8.B]]) (by kernel_rfl) hc ?_; clear hc h
    rintro _ w ⟨caq14, ccq15, caq16, ccq17, rfl, h⟩; refine ⟨_, rfl, ?_⟩
    clear hr a; intro a hr
    refine op_new (wn rfl) rfl rfl hr h (vf := fun b => .pointer (some ⟨b, 0, none⟩)) (cs := #[.int .i64 0, .bool false, .int .i64 0]) (T := 66) (by kernel_rfl) ?_; clear h hr a; intro b18 w a h hr
    refine op_stores (wn rfl) rfl hr rfl (by kernel_rfl) (by kernel_rfl) (vs := [.int .i64 r11.V, .bool r11.OK, .int .i64 r11.Err]) rfl rfl (by kernel_rfl) h (i := 0) (cs' := #[.int .i64 r11.V, .bool r11.OK, .int .i64 r11.Err]) rfl ?_; clear h; intro w h
    refine wpList_nil ?_
    replace h : Fit z (sepL (ob66 b18 r11 :: ob34 B0 S12 caq14 ccq15 caq16 ccq17 :: ro2 caq14 ccq15 S12.Held :: ro96 caq16 ccq17 S12.Book :: ob69 b10 r8 :: pts b6 (.cells #[.int .i64 0, .int .i64 0, .int .i64 0, .int .i64 0, .int .i64 0, .int .i64 0, .int .i64 0, .int .i64 0, .int .i64 0] 78) :: ob78 b5 p1 :: L)) _ := h
    refine then_normal ?_
    refine wp_seq ?_
    refine wp_seq ?_
    refine wp_region_lit ?_
    refine ov hr (.pointer (some ⟨b18, 2, none⟩)) (by kernel_rfl) ?_; clear hr a; intro a hr
    refine op_val (wn rfl) rfl rfl hr (v := .int .i64 r11.Err) (rl rfl (by kernel_rfl) (by kernel_rfl) (h.cell 2 rfl)) ?_; clear hr a; intro a hr
    refine ov hr (.bool (r11.Err != (0 : Int))) (by kernel_rfl) ?_; clear hr a; intro a hr
    refine wpList_nil ?_
    refine then_normal ?_
    by_cases c19 : r11.Err = (0 : Int)
    ·
      replace H := ifT c19 H
      refine cond_ff hr (b := (r11.Err != (0 : Int))) (bne_eq_false_iff_eq.mpr c19) ?_
      refine wp_skip ?_
      refine then_normal ?_
      refine wp_seq ?_
      refine wp_region_lit ?_
      refine op_val (wn rfl) rfl rfl hr (v := .agg #[.int .i64 p1.Kind, .int .i64 p1.Join, .int .i64 p1.Cell, .int .i64 p1.V, .int .i64 p1.Next, .int .i64 p1.Frames, .int .i64 p1.Made, .int .i64 p1.Code, .int .i64 p1.Came]) (rlm (cs := [.int .i64 p1.Kind, .int .i64 p1.Join, .int .i64 p1.Cell, .int .i64 p1.V, .int .i64 p1.Next, .int .i64 p1.Frames, .int .i64 p1.Made, .int .i64 p1.Code, .int .i64 p1.Came]) rfl (by kernel_rfl) (by kernel_rfl) (by kernel_rfl) ⟨(h.pick 6).cell 0 rfl, (h.pick 6).cell 1 rfl, (h.pick 6).cell 2 rfl, (h.pick 6).cell 3 rfl, (h.pick 6).cell 4 rfl, (h.pick 6).cell 5 rfl, (h.pick 6).cell 6 rfl, (h.pick 6).cell 7 rfl, (h.pick 6).cell 8 rfl, trivial⟩) ?_; clear hr a; intro a hr
      refine ov hr (.pointer (some ⟨b18, 0, none⟩)) (by kernel_rfl) ?_; clear hr a; intro a hr
      refine op_val (wn rfl) rfl rfl hr (v := .int .i64 r11.V) (rl rfl (by kernel_rfl) (by kernel_rfl) (h.cell 0 rfl)) ?_; clear hr a; intro a hr
      replace H := bd1 H; obtain ⟨r20, e21, H⟩ := H
      have hc := plunderref8_Op__behind_ok (H := e21) (h := h)
      refine op_call (wn rfl) rfl rfl hr (f := 68) (args := #[.agg #[.int .i64 p1.Kind, .int .i64 p1.Join, .int .i64 p1.Cell, .int .i64 p1.V, .int .i64 p1.Next, .int .i64 p1.Frames, .int .i64 p1.Made, .int .i64 p1.Code, .int .i64 p1.Came], .int .i64 r11.V]) (by kernel_rfl) hc ?_; clear hc h
      rintro _ w ⟨rfl, h⟩; refine ⟨_, rfl, ?_⟩
      clear hr a; intro a hr
      replace h : Fit z (sepL (pts b6 (.cells #[.int .i64 0, .int .i64 0, .int .i64 0, .int .i64 0, .int .i64 0, .int .i64 0, .int .i64 0, .int .i64 0, .int .i64 0] 78) :: ob66 b18 r11 :: ob34 B0 S12 caq14 ccq15 caq16 ccq17 :: ro2 caq14 ccq15 S12.Held :: ro96 caq16 ccq17 S12.Book :: ob69 b10 r8 :: ob78 b5 p1 :: L)) _ := h.sel 7 [5, 0, 1, 2, 3, 4, 6] (by kernel_rfl) (by kernel_rfl)
      refine op_stores (wn rfl) rfl hr rfl (by kernel_rfl) (by kernel_rfl) (vs := [.int .i64 r20.Kind, .int .i64 r20.Join, .int .i64 r20.Cell, .int .i64 r20.V, .int .i64 r20.Next, .int .i64 r20.Frames, .int .i64 r20.Made, .int .i64 r20.Code, .int .i64 r20.Came]) rfl rfl (by kernel_rfl) h (i := 0) (cs' := #[.int .i64 r20.Kind, .int .i64 r20.Join, .int .i64 r20.Cell, .int .i64 r20.V, .int .i64 r20.Next, .int .i64 r20.Frames, .int .i64 r20.Made, .int .i64 r20.Code, .int .i64 r20.Came]) rfl ?_; clear h; intro w h
      refine wpList_nil ?_
      replace h : Fit z (sepL (ob78 b6 r20 :: ob66 b18 r11 :: ob34 B0 S12 caq14 ccq15 caq16 ccq17 :: ro2 caq14 ccq15 S12.Held :: ro96 caq16 ccq17 S12.Book :: ob69 b10 r8 :: ob78 b5 p1 :: L)) _ := h
      refine then_normal ?_
      refine wp_ret ?_
      refine end_retC (cs := [.int .i64 r20.Kind, .int .i64 r20.Join, .int .i64 r20.Cell, .int .i64 r20.V, .int .i64 r20.Next, .int .i64 r20.Frames, .int .i64 r20.Made, .int .i64 r20.Code, .int .i64 r20.Came]) rfl hr (by kernel_rfl) (by kernel_rfl) (by kernel_rfl) ⟨h.cell 0 rfl, h.cell 1 rfl, h.cell 2 rfl, h.cell 3 rfl, h.cell 4 rfl, h.cell 5 rfl, h.cell 6 rfl, h.cell 7 rfl, h.cell 8 rfl, trivial⟩ ?_
      replace h : Fit z (sepL (ob34 B0 S12 caq14 ccq15 caq16 ccq17 :: ro2 caq14 ccq15 S12.Held :: ro96 caq16 ccq17 S12.Book :: L)) _ := h.sel 7 [2, 3, 4] (by kernel_rfl) (by kernel_rfl)
      replace H := ej2 H; obtain ⟨rfl, rfl⟩ := H
      exact ⟨caq14, ccq15, caq16, ccq17, rfl, h⟩
    ·
      replace H := ifF c19 H
      refine cond_tt hr (b := (r11.Err != (0 : Int))) (bne_iff_ne.mpr c19) ?_
      refine wp_seq ?_
      refine wp_region_lit ?_
      refine op_val (wn rfl) rfl rfl hr (v := .agg #[.int .i64 p1.Kind, .int .i64 p1.Join, .int .i64 p1.Cell, .int .i64 p1.V, .int .i64 p1.Next, .int .i64 p1.Frames, .int .i64 p1.Made, .int .i64 p1.Code, .int .i64 p1.Came]) (rlm (cs := [.int .i64 p1.Kind, .int .i64 p1.Join, .int .i64 p1.Cell, .int .i64 p1.V, .int .i64 p1.Next, .int .i64 p1.Frames, .int .i64 p1.Made, .int .i64 p1.Code, .int .i64 p1.Came]) rfl (by kernel_rfl) (by kernel_rfl) (by kernel_rfl) ⟨(h.pick 6).cell 0 rfl, (h.pick 6).cell 1 rfl, (h.pick 6).cell 2 rfl, (h.pick 6).cell 3 rfl, (h.pick 6).cell 4 rfl, (h.pick 6).cell 5 rfl, (h.pick 6).cell 6 rfl, (h.pick 6).cell 7 rfl, (h.pick 6).cell 8 rfl, trivial⟩) ?_; clear hr a; intro a hr
      replace H := bd1 H; obtain ⟨r22, e23, H⟩ := H
      have hc := plunderref8_Op__ended_ok (H := e23) (h := h)
      refine op_call (wn rfl) rfl rfl hr (f := 67) (args := #[.agg #[.int .i64 p1.Kind, .int .i64 p1.Join, .int .i64 p1.Cell, .int .i64 p1.V, .int .i64 p1.Next, .int .i64 p1.Frames, .int .i64 p1.Made, .int .i64 p1.Code, .int .i64 p1.Came], .int .i64 1, .int .i64 0]) (by kernel_rfl) hc ?_; clear hc h
      rintro _ w ⟨rfl, h⟩; refine ⟨_, rfl, ?_⟩
      clear hr a; intro a hr
      replace h : Fit z (sepL (pts b6 (.cells #[.int .i64 0, .int .i64 0, .int .i64 0, .int .i64 0, .int .i64 0, .int .i64 0, .int .i64 0, .int .i64 0, .int .i64 0] 78) :: ob66 b18 r11 :: ob34 B0 S12 caq14 ccq15 caq16 ccq17 :: ro2 caq14 ccq15 S12.Held :: ro96 caq16 ccq17 S12.Book :: ob69 b10 r8 :: ob78 b5 p1 :: L)) _ := h.sel 7 [5, 0, 1, 2, 3, 4, 6] (by kernel_rfl) (by kernel_rfl)
      refine op_stores (wn rfl) rfl hr rfl (by kernel_rfl) (by kernel_rfl) (vs := [.int .i64 r22.Kind, .int .i64 r22.Join, .int .i64 r22.Cell, .int .i64 r22.V, .int .i64 r22.Next, .int .i64 r22.Frames, .int .i64 r22.Made, .int .i64 r22.Code, .int .i64 r22.Came]) rfl rfl (by kernel_rfl) h (i := 0) (cs' := #[.int .i64 r22.Kind, .int .i64 r22.Join, .int .i64 r22.Cell, .int .i64 r22.V, .int .i64 r22.Next, .int .i64 r22.Frames, .int .i64 r22.Made, .int .i64 r22.Code, .int .i64 r22.Came]) rfl ?_; clear h; intro w h
      refine wpList_nil ?_
      replace h : Fit z (sepL (ob78 b6 r22 :: ob66 b18 r11 :: ob34 B0 S12 caq14 ccq15 caq16 ccq17 :: ro2 caq14 ccq15 S12.Held :: ro96 caq16 ccq17 S12.Book :: ob69 b10 r8 :: ob78 b5 p1 :: L)) _ := h
      refine then_normal ?_
      refine wp_ret ?_
      refine then_ret ?_
      refine end_retC (cs := [.int .i64 r22.Kind, .int .i64 r22.Join, .int .i64 r22.Cell, .int .i64 r22.V, .int .i64 r22.Next, .int .i64 r22.Frames, .int .i64 r22.Made, .int .i64 r22.Code, .int .i64 r22.Came]) rfl hr (by kernel_rfl) (by kernel_rfl) (by kernel_rfl) ⟨h.cell 0 rfl, h.cell 1 rfl, h.cell 2 rfl, h.cell 3 rfl, h.cell 4 rfl, h.cell 5 rfl, h.cell 6 rfl, h.cell 7 rfl, h.cell 8 rfl, trivial⟩ ?_
      replace h : Fit z (sepL (ob34 B0 S12 caq14 ccq15 caq16 ccq17 :: ro2 caq14 ccq15 S12.Held :: ro96 caq16 ccq17 S12.Book :: L)) _ := h.sel 7 [2, 3, 4] (by kernel_rfl) (by kernel_rfl)
      replace H := ej2 H; obtain ⟨rfl, rfl⟩ := H
      exact ⟨caq14, ccq15, caq16, ccq17, rfl, h⟩
  ·
    replace H := ifF c7 H
    refine cond_tt hr (b := (p1.Code != (0 : Int))) (bne_iff_ne.mpr c7) ?_
    refine wp_seq ?_
    refine wp_region_lit ?_
    refine op_val (wn rfl) rfl rfl hr (v := .agg #[.int .i64 p1.Kind, .int .i64 p1.Join, .int .i64 p1.Cell, .int .i64 p1.V, .int .i64 p1.Next, .int .i64 p1.Frames, .int .i64 p1.Made, .int .i64 p1.Code, .int .i64 p1.Came]) (rlm (cs := [.int .i64 p1.Kind, .int .i64 p1.Join, .int .i64 p1.Cell, .int .i64 p1.V, .int .i64 p1.Next, .int .i64 p1.Frames, .int .i64 p1.Made, .int .i64 p1.Code, .int .i64 p1.Came]) rfl (by kernel_rfl) (by kernel_rfl) (by kernel_rfl) ⟨(h.pick 1).cell 0 rfl, (h.pick 1).cell 1 rfl, (h.pick 1).cell 2 rfl, (h.pick 1).cell 3 rfl, (h.pick 1).cell 4 rfl, (h.pick 1).cell 5 rfl, (h.pick 1).cell 6 rfl, (h.pick 1).cell 7 rfl, (h.pick 1).cell 8 rfl, trivial⟩) ?_; clear hr a; intro a hr
    refine op_stores (wn rfl) rfl hr rfl (by kernel_rfl) (by kernel_rfl) (vs := [.int .i64 p1.Kind, .int .i64 p1.Join, .int .i64 p1.Cell, .int .i64 p1.V, .int .i64 p1.Next, .int .i64 p1.Frames, .int .i64 p1.Made, .int .i64 p1.Code, .int .i64 p1.Came]) rfl rfl (by kernel_rfl) h (i := 0) (cs' := #[.int .i64 p1.Kind, .int .i64 p1.Join, .int .i64 p1.Cell, .int .i64 p1.V, .int .i64 p1.Next, .int .i64 p1.Frames, .int .i64 p1.Made, .int .i64 p1.Code, .int .i64 p1.Came]) rfl ?_; clear h; intro w h
    refine wpList_nil ?_
    replace h : Fit z (sepL (ob78 b6 p1 :: ob78 b5 p1 :: ob34 B0 p0 ca1 cc2 ca3 cc4 :: ro2 ca1 cc2 p0.Held :: ro96 ca3 cc4 p0.Book :: L)) _ := h
    refine then_normal ?_
    refine wp_ret ?_
    refine then_ret ?_
    refine end_retC (cs := [.int .i64 p1.Kind, .int .i64 p1.Join, .int .i64 p1.Cell, .int .i64 p1.V, .int .i64 p1.Next, .int .i64 p1.Frames, .int .i64 p1.Made, .int .i64 p1.Code, .int .i64 p1.Came]) rfl hr (by kernel_rfl) (by kernel_rfl) (by kernel_rfl) ⟨h.cell 0 rfl, h.cell 1 rfl, h.cell 2 rfl, h.cell 3 rfl, h.cell 4 rfl, h.cell 5 rfl, h.cell 6 rfl, h.cell 7 rfl, h.cell 8 rfl, trivial⟩ ?_
    replace h : Fit z (sepL (ob34 B0 p0 ca1 cc2 ca3 cc4 :: ro2 ca1 cc2 p0.Held :: ro96 ca3 cc4 p0.Book :: L)) _ := h.sel 5 [2, 3, 4] (by kernel_rfl) (by kernel_rfl)
    replace H := ej2 H; obtain ⟨rfl, rfl⟩ := H
    exact ⟨ca1, cc2, ca3, cc4, rfl, h⟩

/-- (*plunder/cells.Arena).Log -/
def cells_Arena_Log (p0 : T_cells_Arena) : Option ((List T_api_Access)) :=
  if 0 ≤ ((p0.log.length : Nat) : Int) ∧ ((p0.log.length : Nat) : Int) * 48 ≤ 140737488355328 then if p0.log.length = (List.replicate p0.log.length (⟨0, 0, 0, 0, 0, false⟩ : T_api_Access)).length then some p0.log else none else none
set_option maxRecDepth 100000 in
set_option maxHeartbeats 4000000 in
theorem cells_Arena_Log_ok {z w : World} {L : List HProp} {p0 : T_cells_Arena} {B0 : Nat} {ca1 : Option Addr} {cc2 : Nat} {ca3 : Option Addr} {cc4 : Nat} {r0 : List T_api_Access} (H : cells_Arena_Log p0 = some r0) (h : Fit z (sepL (ob103 B0 p0 ca1 cc2 ca3 cc4 :: ro2 ca1 cc2 p0.cell :: ro96 ca3 cc4 p0.log :: L)) w)  :
    Calls Try.prog 24 #[.pointer (some ⟨B0, 0, none⟩)] w fun e w => ∃ car0_1 : Option Addr, e = .returned (.slice car0_1 r0.length r0.length) ∧ Fit z (sepL (ob103 B0 p0 ca1 cc2 ca3 cc4 :: ro2 ca1 cc2 p0.cell :: ro96 ca3 cc4 p0.log :: ro96 car0_1 r0.length r0 :: L)) w := by
  unfold cells_Arena_Log at H
  refine enter Try.func24 rfl 19 rfl rfl [(0, .pointer (some ⟨B0, 0, none⟩))] ⟨rfl, trivial⟩ ?_
  intro j a hr
  refine wp_seq ?_
  refine wp_region_lit ?_
  refine ov hr (.slice none 0 0) (by kernel_rfl) ?_; clear hr a; intro a hr
  refine wpList_nil ?_
  refine then_normal ?_
  refine wp_seq ?_
  refine wp_seq ?_
  refine wp_region_lit ?_
  refine ovs [4, 5] [.pointer (some ⟨B0, 0, none⟩), .bool false] hr ⟨rfl, rfl⟩ (by kernel_rfl) ?_; clear hr a; intro a hr
  refine wpList_nil ?_
  refine then_normal ?_
  refine cond_ff hr (b := false) rfl ?_
  refine wp_skip ?_
  refine then_normal ?_
  refine wp_seq ?_
  refine wp_region_lit ?_
  refine ovs [6, 7, 8] [.pointer (some ⟨B0, 0, none⟩), .pointer (some ⟨B0, 0, none⟩), .pointer (some ⟨B0, 3, none⟩)] hr ⟨rfl, rfl⟩ (by kernel_rfl) ?_; clear hr a; intro a hr
  refine op_val (wn rfl) rfl rfl hr (v := .slice ca3 p0.log.length cc4) (rl rfl (by kernel_rfl) (by kernel_rfl) (h.cell 3 rfl)) ?_; clear hr a; intro a hr
  replace H := gd H; obtain ⟨c5, H⟩ := H
  refine ov hr (.int .i64 ((p0.log.length : Nat) : Int)) (by kernel_rfl) ?_; clear hr a; intro a hr
  refine op_make_row (i := ((p0.log.length : Nat) : Int)) (bytes := 48) (zc := #[.int .i64 0, .int .i64 0, .int .i64 0, .int .i64 0, .int .i64 0, .bool false]) (⟨0, 0, 0, 0, 0, false⟩ : T_api_Access) (wn rfl) rfl rfl hr rfl (by kernel_rfl) (by kernel_rfl) c5 enc_T_api_Access_ok (E := 96) (by kernel_rfl) (by kernel_rfl) rfl rfl h ?_; clear h hr a; intro ca6 w a h hr
  refine ov hr (.slice ca6 ((List.replicate p0.log.length (⟨0, 0, 0, 0, 0, false⟩ : T_api_Access)).length) p0.log.length) (by kernel_rfl) ?_; clear hr a; intro a hr
  refine wpList_nil ?_
  replace h : Fit z (sepL (ro96 ca6 p0.log.length (List.replicate p0.log.length (⟨0, 0, 0, 0, 0, false⟩ : T_api_Access)) :: ob103 B0 p0 ca1 cc2 ca3 cc4 :: ro2 ca1 cc2 p0.cell :: ro96 ca3 cc4 p0.log :: L)) _ := h
  refine then_normal ?_
  refine wp_seq ?_
  refine wp_region_lit ?_
  refine ovs [12, 13, 14, 15] [.slice ca6 ((List.replicate p0.log.length (⟨0, 0, 0, 0, 0, false⟩ : T_api_Access)).length) p0.log.length, .pointer (some ⟨B0, 0, none⟩), .pointer (some ⟨B0, 0, none⟩), .pointer (some ⟨B0, 3, none⟩)] hr ⟨rfl, rfl⟩ (by kernel_rfl) ?_; clear hr a; intro a hr
  refine op_val (wn rfl) rfl rfl hr (v := .slice ca3 p0.log.length cc4) (rl rfl (by kernel_rfl) (by kernel_rfl) ((h.pick 1).cell 3 rfl)) ?_; clear hr a; intro a hr
  replace H := gd H; obtain ⟨c7, H⟩ := H
  replace h : Fit z (sepL (ro96 ca6 p0.log.length (List.replicate p0.log.length (⟨0, 0, 0, 0, 0, false⟩ : T_api_Access)) :: ro96 ca3 cc4 p0.log :: ob103 B0 p0 ca1 cc2 ca3 cc4 :: ro2 ca1 cc2 p0.cell :: L)) _ := h.sel 4 [0, 3, 1, 2] (by kernel_rfl) (by kernel_rfl)
  refine op_copy_row (wn rfl) rfl rfl hr rfl (by kernel_rfl) (by kernel_rfl) enc_T_api_Access_ok (E := 96) (by kernel_rfl) (by kernel_rfl) c7 h ?_; clear h hr a; intro w a h hr
  refine wpList_nil ?_
  replace h : Fit z (sepL (rowOf 96 6 enc_T_api_Access (.slice ca6 ((List.replicate p0.log.length (⟨0, 0, 0, 0, 0, false⟩ : T_api_Access)).length) p0.log.length) p0.log :: ro96 ca3 cc4 p0.log :: ob103 B0 p0 ca1 cc2 ca3 cc4 :: ro2 ca1 cc2 p0.cell :: L)) _ := h
  refine then_normal ?_
  refine wp_seq ?_
  refine wp_region_lit ?_
  refine ovs [18, 2] [.slice ca6 ((List.replicate p0.log.length (⟨0, 0, 0, 0, 0, false⟩ : T_api_Access)).length) p0.log.length, .slice ca6 ((List.replicate p0.log.length (⟨0, 0, 0, 0, 0, false⟩ : T_api_Access)).length) p0.log.length] hr ⟨rfl, rfl⟩ (by kernel_rfl) ?_; clear hr a; intro a hr
  refine wpList_nil ?_
  refine then_normal ?_
  refine wp_ret ?_
  refine end_ret1 (v := .slice ca6 ((List.replicate p0.log.length (⟨0, 0, 0, 0, 0, false⟩ : T_api_Access)).length) p0.log.length) rfl hr (by kernel_rfl) ?_
  have hn7 := h.row_n
  replace h : Fit z (sepL (ro96 ca6 p0.log.length p0.log :: ro96 ca3 cc4 p0.log :: ob103 B0 p0 ca1 cc2 ca3 cc4 :: ro2 ca1 cc2 p0.cell :: L)) w := (congrArg (fun q_ : Nat => Fit z (sepL (rowOf 96 6 enc_T_api_Access (.slice ca6 q_ p0.log.length) p0.log :: ro96 ca3 cc4 p0.log :: ob103 B0 p0 ca1 cc2 ca3 cc4 :: ro2 ca1 cc2 p0.cell :: L)) w) h.row_n).mp h
  replace h : Fit z (sepL (ob103 B0 p0 ca1 cc2 ca3 cc4 :: ro2 ca1 cc2 p0.cell :: ro96 ca3 cc4 p0.log :: ro96 ca6 p0.log.length p0.log :: L)) _ := h.sel 4 [2, 3, 1, 0] (by kernel_rfl) (by kernel_rfl)
  replace H := ej1 H; subst H
  exact ⟨ca6, (by simp only [hn7]), h⟩

def plunderref2_Arena_Log_l1 (K : Nat) (p0 : T_plunderref2_Arena) : Nat → (List T_api_Access) → Int → Option ((List T_api_Access))
  | 0, _, _ => none
  | k1 + 1, l7, g8 => (if g8 < ((p0.Book.length : Nat) : Int) then if inr_ g8 p0.Book.length then if (l7.length + 1) * 48 ≤ 140737488355328 then (plunderref2_Arena_Log_l1 K p0 k1 (l7 ++ [at_ p0.Book g8.toNat]) (wi (g8 + (1 : Int)))) else none else none else some l7)
/-- (*plunder/plunderref2.Arena).Log -/
def plunderref2_Arena_Log (K : Nat) (p0 : T_plunderref2_Arena) : Option ((List T_api_Access)) :=
  (plunderref2_Arena_Log_l1 K p0 K ([] : List T_api_Access) 0)
set_option maxRecDepth 100000 in
set_option maxHeartbeats 4000000 in
theorem plunderref2_Arena_Log_ok {z w : World} {L : List HProp} {K : Nat} {p0 : T_plunderref2_Arena} {B0 : Nat} {ca1 : Option Addr} {cc2 : Nat} {ca3 : Option Addr} {cc4 : Nat} {r0 : List T_api_Access} (H : plunderref2_Arena_Log K p0 = some r0) (h : Fit z (sepL (ob34 B0 p0 ca1 cc2 ca3 cc4 :: ro2 ca1 cc2 p0.Held :: ro96 ca3 cc4 p0.Book :: L)) w)  :
    Calls Try.prog 25 #[.pointer (some ⟨B0, 0, none⟩)] w fun e w => ∃ car0_1 : Option Addr, ∃ ccr0_2 : Nat, e = .returned (.slice car0_1 r0.length ccr0_2) ∧ Fit z (sepL (ob34 B0 p0 ca1 cc2 ca3 cc4 :: ro2 ca1 cc2 p0.Held :: ro96 ca3 cc4 p0.Book :: ro96 car0_1 ccr0_2 r0 :: L)) w := by
  unfold plunderref2_Arena_Log at H
  refine enter Try.func25 rfl 25 rfl rfl [(0, .pointer (some ⟨B0, 0, none⟩))] ⟨rfl, trivial⟩ ?_
  intro j a hr
  refine wp_seq ?_
  refine wp_region_lit ?_
  refine ov hr (.slice none 0 0) (by kernel_rfl) ?_; clear hr a; intro a hr
  refine wpList_nil ?_
  refine then_normal ?_
  refine wp_seq ?_
  refine wp_region_lit ?_
  refine ov hr (.slice none 0 0) (by kernel_rfl) ?_; clear hr a; intro a hr
  refine wpList_nil ?_
  refine then_normal ?_
  refine wp_seq ?_
  refine wp_seq ?_
  refine wp_region_lit ?_
  refine ov hr (.int .i64 0) (by kernel_rfl) ?_; clear hr a; intro a hr
  refine wpList_nil ?_
  refine then_normal ?_
  refine wp_block ?_
  replace hr := hr.fold2 [(0, .pointer (some ⟨B0, 0, none⟩)), (3, .slice none (([] : List T_api_Access).length) 0), (4, .int .i64 0)] (by kernel_rfl); obtain ⟨j, hr⟩ := hr
  replace h : Fit z (sepL (rowOf 96 6 enc_T_api_Access (.slice none 0 0) ([] : List T_api_Access) :: ob34 B0 p0 ca1 cc2 ca3 cc4 :: ro2 ca1 cc2 p0.Held :: ro96 ca3 cc4 p0.Book :: L)) _ := h.row_nil
  replace h : Fit z (sepL (ob34 B0 p0 ca1 cc2 ca3 cc4 :: ro2 ca1 cc2 p0.Held :: ro96 ca3 cc4 p0.Book :: rowOf 96 6 enc_T_api_Access (.slice none (([] : List T_api_Access).length) 0) ([] : List T_api_Access) :: L)) _ := h.sel 4 [1, 2, 3, 0] (by kernel_rfl) (by kernel_rfl)
  refine loop_rule (β := Nat) id (fun m a w => ∃ ca5 : Option Addr, ∃ cc6 : Nat, ∃ l7 : List T_api_Access, ∃ g8 : Int, (plunderref2_Arena_Log_l1 K p0 m l7 g8) = some r0 ∧ ∃ j, Rep 25 (lk [(0, .pointer (some ⟨B0, 0, none⟩)), (3, .slice ca5 l7.length cc6), (4, .int .i64 g8)] j) a ∧ Fit z (sepL (ob34 B0 p0 ca1 cc2 ca3 cc4 :: ro2 ca1 cc2 p0.Held :: ro96 ca3 cc4 p0.Book :: ro96 ca5 cc6 l7 :: L)) w) K ⟨none, 0, ([] : List T_api_Access), 0, H, j, hr, h⟩ ?_
  clear h hr a H; rintro k1 a w ⟨ca5, cc6, l7, g8, H, j, hr, h⟩
  cases k1 with
  | zero => exact absurd H (by simp [plunderref2_Arena_Log_l1])
  | succ k1 =>
    rw [plunderref2_Arena_Log_l1] at H
    refine wp_seq ?_
    refine wp_seq ?_
    refine wp_region_lit ?_
    refine ovs [5, 6, 7, 8] [.int .i64 g8, .pointer (some ⟨B0, 0, none⟩), .pointer (some ⟨B0, 0, none⟩), .pointer (some ⟨B0, 4, none⟩)] hr ⟨rfl, rfl⟩ (by kernel_rfl) ?_; clear hr a; intro a hr
    refine op_val (wn rfl) rfl rfl hr (v := .slice ca3 p0.Book.length cc4) (rl rfl (by kernel_rfl) (by kernel_rfl) (h.cell 4 rfl)) ?_; clear hr a; intro a hr
    refine ovs [10, 11] [.int .i64 ((p0.Book.length : Nat) : Int), .bool (decide (g8 < ((p0.Book.length : Nat) : Int)))] hr ⟨rfl, rfl⟩ (by kernel_rfl) ?_; clear hr a; intro a hr
    refine wpList_nil ?_
    refine then_normal ?_
    by_cases c9 : g8 < ((p0.Book.length : Nat) : Int)
    ·
      replace H := ifT c9 H
      refine cond_tt hr (b := (decide (g8 < ((p0.Book.length : Nat) : Int)))) (decide_eq_true c9) ?_
      refine wp_skip ?_
      refine then_normal ?_
      refine wp_seq ?_
      refine wp_block ?_
      refine wp_region_lit ?_
      refine ovs [14, 15, 16, 17] [.slice ca5 l7.length cc6, .pointer (some ⟨B0, 0, none⟩), .pointer (some ⟨B0, 0, none⟩), .pointer (some ⟨B0, 4, none⟩)] hr ⟨rfl, rfl⟩ (by kernel_rfl) ?_; clear hr a; intro a hr
      refine op_val (wn rfl) rfl rfl hr (v := .slice ca3 p0.Book.length cc4) (rl rfl (by kernel_rfl) (by kernel_rfl) (h.cell 4 rfl)) ?_; clear hr a; intro a hr
      replace H := gd H; obtain ⟨c10, H⟩ := H
      refine ov hr (.int .i64 g8) (by kernel_rfl) ?_; clear hr a; intro a hr
      refine op_val (wn rfl) rfl rfl hr (v := .pointer (some ⟨blk ca3, g8.toNat * 6, none⟩)) (ri_row (k := .i64) (E := 96) rfl (by kernel_rfl) (by kernel_rfl) (by kernel_rfl) (by kernel_rfl) (h.pick 2) c10) ?_; clear hr a; intro a hr
      refine op_val (wn rfl) rfl rfl hr (v := .agg #[.int .i64 ((at_ p0.Book g8.toNat).Who), .int .i64 ((at_ p0.Book g8.toNat).Kind), .int .i64 ((at_ p0.Book g8.toNat).Addr), .int .i64 ((at_ p0.Book g8.toNat).A), .int .i64 ((at_ p0.Book g8.toNat).B), .bool ((at_ p0.Book g8.toNat).OK)]) (rlm (cs := [.int .i64 ((at_ p0.Book g8.toNat).Who), .int .i64 ((at_ p0.Book g8.toNat).Kind), .int .i64 ((at_ p0.Book g8.toNat).Addr), .int .i64 ((at_ p0.Book g8.toNat).A), .int .i64 ((at_ p0.Book g8.toNat).B), .bool ((at_ p0.Book g8.toNat).OK)]) rfl (by kernel_rfl) (by kernel_rfl) (by kernel_rfl) ⟨(h.pick 2).row_cell enc_T_api_Access_ok (f := 0) (at_ok c10) rfl, (h.pick 2).row_cell enc_T_api_Access_ok (f := 1) (at_ok c10) rfl, (h.pick 2).row_cell enc_T_api_Access_ok (f := 2) (at_ok c10) rfl, (h.pick 2).row_cell enc_T_api_Access_ok (f := 3) (at_ok c10) rfl, (h.pick 2).row_cell enc_T_api_Access_ok (f := 4) (at_ok c10) rfl, (h.pick 2).row_cell enc_T_api_Access_ok (f := 5) (at_ok c10) rfl, trivial⟩) ?_; clear hr a; intro a hr
      refine op_new (wn rfl) rfl rfl hr h (vf := fun b => .slice (some ⟨b, 0, none⟩) 1 1) (cs := #[.int .i64 ((at_ p0.Book g8.toNat).Who), .int .i64 ((at_ p0.Book g8.toNat).Kind), .int .i64 ((at_ p0.Book g8.toNat).Addr), .int .i64 ((at_ p0.Book g8.toNat).A), .int .i64 ((at_ p0.Book g8.toNat).B), .bool ((at_ p0.Book g8.toNat).OK)]) (T := 96) (by kernel_rfl) ?_; clear h hr a; intro b11 w a h hr
      replace h : Fit z (sepL (ro96 ca5 cc6 l7 :: ob96 b11 (at_ p0.Book g8.toNat) :: ob34 B0 p0 ca1 cc2 ca3 cc4 :: ro2 ca1 cc2 p0.Held :: ro96 ca3 cc4 p0.Book :: L)) _ := h.sel 5 [4, 0, 1, 2, 3] (by kernel_rfl) (by kernel_rfl)
      replace H := gd H; obtain ⟨c14, H⟩ := H
      refine op_append (n0 := l7.length) (c := 1) (bytes := 48) (wn rfl) rfl rfl hr rfl (by kernel_rfl) (by kernel_rfl) enc_T_api_Access_ok (E := 96) (xs := l7) (by kernel_rfl) (by kernel_rfl) h (news := [at_ p0.Book g8.toNat]) (m := 1) rfl ((h.pick 1).news rfl) c14 rfl ?_; clear h hr a; intro ca12 cc13 w a h hr
      refine ov hr (.slice ca12 ((l7 ++ [at_ p0.Book g8.toNat]).length) cc13) (by kernel_rfl) ?_; clear hr a; intro a hr
      refine wpList_nil ?_
      replace h : Fit z (sepL (ro96 ca12 cc13 (l7 ++ [at_ p0.Book g8.toNat]) :: ob96 b11 (at_ p0.Book g8.toNat) :: ob34 B0 p0 ca1 cc2 ca3 cc4 :: ro2 ca1 cc2 p0.Held :: ro96 ca3 cc4 p0.Book :: L)) _ := h
      refine blk_normal ?_
      refine then_normal ?_
      refine wp_region_lit ?_
      refine ovs [12, 13, 4] [.int .i64 g8, .int .i64 (wi (g8 + (1 : Int))), .int .i64 (wi (g8 + (1 : Int)))] hr ⟨rfl, rfl⟩ (by kernel_rfl) ?_; clear hr a; intro a hr
      refine wpList_nil ?_
      refine then_normal ?_
      replace hr := hr.fold2 [(0, .pointer (some ⟨B0, 0, none⟩)), (3, .slice ca12 ((l7 ++ [at_ p0.Book g8.toNat]).length) cc13), (4, .int .i64 (wi (g8 + (1 : Int))))] (by kernel_rfl); obtain ⟨j, hr⟩ := hr
      replace h : Fit z (sepL (ob34 B0 p0 ca1 cc2 ca3 cc4 :: ro2 ca1 cc2 p0.Held :: ro96 ca3 cc4 p0.Book :: ro96 ca12 cc13 (l7 ++ [at_ p0.Book g8.toNat]) :: L)) _ := h.sel 5 [2, 3, 4, 0] (by kernel_rfl) (by kernel_rfl)
      exact ⟨_, ⟨ca12, cc13, (l7 ++ [at_ p0.Book g8.toNat]), (wi (g8 + (1 : Int))), H, j, hr, h⟩, Nat.lt_succ_self _⟩
    ·
      replace H := ifF c9 H
      refine cond_ff hr (b := (decide (g8 < ((p0.Book.length : Nat) : Int)))) (decide_eq_false c9) ?_
      refine wp_exit ?_
      refine then_exit ?_
      refine then_exit ?_
      refine blk_here ?_
      refine then_normal ?_
      refine wp_seq ?_
      refine wp_region_lit ?_
      refine ovs [24, 2] [.slice ca5 l7.length cc6, .slice ca5 l7.length cc6] hr ⟨rfl, rfl⟩ (by kernel_rfl) ?_; clear hr a; intro a hr
      refine wpList_nil ?_
      refine then_normal ?_
      refine wp_ret ?_
      refine end_ret1 (v := .slice ca5 l7.length cc6) rfl hr (by kernel_rfl) ?_
      replace H := ej1 H; subst H
      exact ⟨ca5, cc6, rfl, h⟩

def plunderlaw8_sameLog_l1 (K : Nat) (p0 : List T_api_Access) (p1 : List T_api_Access) : Nat → Int → Option (Bool)
  | 0, _ => none
  | k1 + 1, g2 => (if g2 < ((p0.length : Nat) : Int) then if inr_ g2 p0.length then if inr_ g2 p1.length then (if at_ p0 g2.toNat = at_ p1 g2.toNat then (plunderlaw8_sameLog_l1 K p0 p1 k1 (wi (g2 + (1 : Int)))) else some false) else none else none else some true)
/-- plunder/plunderlaw8.sameLog -/
def plunderlaw8_sameLog (K : Nat) (p0 : List T_api_Access) (p1 : List T_api_Access) : Option (Bool) :=
  (if ((p0.length : Nat) : Int) = ((p1.length : Nat) : Int) then (plunderlaw8_sameLog_l1 K p0 p1 K 0) else some false)
set_option maxRecDepth 100000 in
set_option maxHeartbeats 4000000 in
theorem plunderlaw8_sameLog_ok {z w : World} {L : List HProp} {K : Nat} {p0 : List T_api_Access} {p1 : List T_api_Access} {va0 : Option Addr} {vc0 : Nat} {va1 : Option Addr} {vc1 : Nat} {r0 : Bool} (H : plunderlaw8_sameLog K p0 p1 = some r0) (h : Fit z (sepL (L)) w) (hv0 : RdRow L 6 enc_T_api_Access va0 p0) (hv1 : RdRow L 6 enc_T_api_Access va1 p1) :
    Calls Try.prog 23 #[.slice va0 p0.length vc0, .slice va1 p1.length vc1] w fun e w => e = .returned (.bool r0) ∧ Fit z (sepL (L)) w := by
  unfold plunderlaw8_sameLog at H
  refine enter Try.func23 rfl 26 rfl rfl [(0, .slice va0 p0.length vc0), (1, .slice va1 p1.length vc1)] ⟨rfl, rfl, trivial⟩ ?_
  intro j a hr
  refine wp_seq ?_
  refine wp_region_lit ?_
  refine ov hr (.bool false) (by kernel_rfl) ?_; clear hr a; intro a hr
  refine wpList_nil ?_
  refine then_normal ?_
  refine wp_seq ?_
  refine wp_seq ?_
  refine wp_region_lit ?_
  refine ovs [6, 7, 8, 9, 10] [.slice va0 p0.length vc0, .int .i64 ((p0.length : Nat) : Int), .slice va1 p1.length vc1, .int .i64 ((p1.length : Nat) : Int), .bool (((p0.length : Nat) : Int) != ((p1.length : Nat) : Int))] hr ⟨rfl, rfl⟩ (by kernel_rfl) ?_; clear hr a; intro a hr
  refine wpList_nil ?_
  refine then_normal ?_
  by_cases c1 : ((p0.length : Nat) : Int) = ((p1.length : Nat) : Int)
  ·
    replace H := ifT c1 H
    refine cond_ff hr (b := (((p0.length : Nat) : Int) != ((p1.length : Nat) : Int))) (bne_eq_false_iff_eq.mpr c1) ?_
    refine wp_skip ?_
    refine then_normal ?_
    refine wp_seq ?_
    refine wp_seq ?_
    refine wp_region_lit ?_
    refine ov hr (.int .i64 0) (by kernel_rfl) ?_; clear hr a; intro a hr
    refine wpList_nil ?_
    refine then_normal ?_
    refine wp_block ?_
    replace hr := hr.fold2 [(0, .slice va0 p0.length vc0), (1, .slice va1 p1.length vc1), (5, .int .i64 0)] (by kernel_rfl); obtain ⟨j, hr⟩ := hr
    refine loop_rule (β := Nat) id (fun m a w => ∃ g2 : Int, (plunderlaw8_sameLog_l1 K p0 p1 m g2) = some r0 ∧ ∃ j, Rep 26 (lk [(0, .slice va0 p0.length vc0), (1, .slice va1 p1.length vc1), (5, .int .i64 g2)] j) a ∧ Fit z (sepL (L)) w) K ⟨0, H, j, hr, h⟩ ?_
    clear h hr a H; rintro k1 a w ⟨g2, H, j, hr, h⟩
    cases k1 with
    | zero => exact absurd H (by simp [plunderlaw8_sameLog_l1])
    | succ k1 =>
      rw [plunderlaw8_sameLog_l1] at H
      refine wp_seq ?_
      refine wp_seq ?_
      refine wp_region_lit ?_
      refine ovs [11, 12, 13, 14] [.int .i64 g2, .slice va0 p0.length vc0, .int .i64 ((p0.length : Nat) : Int), .bool (decide (g2 < ((p0.length : Nat) : Int)))] hr ⟨rfl, rfl⟩ (by kernel_rfl) ?_; clear hr a; intro a hr
      refine wpList_nil ?_
      refine then_normal ?_
      by_cases c3 : g2 < ((p0.length : Nat) : Int)
      ·
        replace H := ifT c3 H
        refine cond_tt hr (b := (decide (g2 < ((p0.length : Nat) : Int)))) (decide_eq_true c3) ?_
        refine wp_skip ?_
        refine then_normal ?_
        refine wp_seq ?_
        refine wp_block ?_
        refine wp_seq ?_
        replace H := gd H; obtain ⟨c4, H⟩ := H
        replace H := gd H; obtain ⟨c5, H⟩ := H
        refine reg_E (fun w => heldC w (blk va0) (offs va0 + g2.toNat * 6) [.int .i64 ((at_ p0 g2.toNat).Who), .int .i64 ((at_ p0 g2.toNat).Kind), .int .i64 ((at_ p0 g2.toNat).Addr), .int .i64 ((at_ p0 g2.toNat).A), .int .i64 ((at_ p0 g2.toNat).B), .bool ((at_ p0 g2.toNat).OK)] ∧ heldC w (blk va1) (offs va1 + g2.toNat * 6) [.int .i64 ((at_ p1 g2.toNat).Who), .int .i64 ((at_ p1 g2.toNat).Kind), .int .i64 ((at_ p1 g2.toNat).Addr), .int .i64 ((at_ p1 g2.toNat).A), .int .i64 ((at_ p1 g2.toNat).B), .bool ((at_ p1 g2.toNat).OK)] ∧ True) [2, 6] h (by kernel_rfl) ?_; intro w h
        change wpAnyE _ _ _ _ _ _ 9 (Array.replicate 9 false) a w
        have hgo : ∀ w w', CellsGo w w' → (heldC w (blk va0) (offs va0 + g2.toNat * 6) [.int .i64 ((at_ p0 g2.toNat).Who), .int .i64 ((at_ p0 g2.toNat).Kind), .int .i64 ((at_ p0 g2.toNat).Addr), .int .i64 ((at_ p0 g2.toNat).A), .int .i64 ((at_ p0 g2.toNat).B), .bool ((at_ p0 g2.toNat).OK)] ∧ heldC w (blk va1) (offs va1 + g2.toNat * 6) [.int .i64 ((at_ p1 g2.toNat).Who), .int .i64 ((at_ p1 g2.toNat).Kind), .int .i64 ((at_ p1 g2.toNat).Addr), .int .i64 ((at_ p1 g2.toNat).A), .int .i64 ((at_ p1 g2.toNat).B), .bool ((at_ p1 g2.toNat).OK)] ∧ True) → heldC w' (blk va0) (offs va0 + g2.toNat * 6) [.int .i64 ((at_ p0 g2.toNat).Who), .int .i64 ((at_ p0 g2.toNat).Kind), .int .i64 ((at_ p0 g2.toNat).Addr), .int .i64 ((at_ p0 g2.toNat).A), .int .i64 ((at_ p0 g2.toNat).B), .bool ((at_ p0 g2.toNat).OK)] ∧ heldC w' (blk va1) (offs va1 + g2.toNat * 6) [.int .i64 ((at_ p1 g2.toNat).Who), .int .i64 ((at_ p1 g2.toNat).Kind), .int .i64 ((at_ p1 g2.toNat).Addr), .int .i64 ((at_ p1 g2.toNat).A), .int .i64 ((at_ p1 g2.toNat).B), .bool ((at_ p1 g2.toNat).OK)] ∧ True := fun w w' g hD => ⟨heldC_go _ _ _ _ _ g hD.1, heldC_go _ _ _ _ _ g hD.2.1, trivial⟩
        refine ev 8 0 rfl (by kernel_rfl) (wn rfl) hr (.slice va0 p0.length vc0) (fun w => by kernel_rfl) ?_; clear hr a; intro a hr
        refine ev 7 1 rfl (by kernel_rfl) (wn rfl) hr (.int .i64 g2) (fun w => by kernel_rfl) ?_; clear hr a; intro a hr
        refine evD hgo ⟨⟨hv0.cell c4 (h.dn 0) 0 rfl, hv0.cell c4 (h.dn 0) 1 rfl, hv0.cell c4 (h.dn 0) 2 rfl, hv0.cell c4 (h.dn 0) 3 rfl, hv0.cell c4 (h.dn 0) 4 rfl, hv0.cell c4 (h.dn 0) 5 rfl, trivial⟩, ⟨hv1.cell c5 (h.dn 0) 0 rfl, hv1.cell c5 (h.dn 0) 1 rfl, hv1.cell c5 (h.dn 0) 2 rfl, hv1.cell c5 (h.dn 0) 3 rfl, hv1.cell c5 (h.dn 0) 4 rfl, hv1.cell c5 (h.dn 0) 5 rfl, trivial⟩, trivial⟩ 6 2 rfl (by kernel_rfl) (wn rfl) hr (.pointer (some ⟨blk va0, offs va0 + g2.toNat * 6, none⟩)) (fun w => ri_rd (k := .i64) (E := 96) (cc := vc0) rfl (by kernel_rfl) (by kernel_rfl) rfl (by kernel_rfl) (by kernel_rfl) hv0 c4) ?_; clear hr a; intro a hr
        refine ev 5 4 rfl (by kernel_rfl) (wn rfl) hr (.slice va1 p1.length vc1) (fun w => by kernel_rfl) ?_; clear hr a; intro a hr
        refine ev 4 5 rfl (by kernel_rfl) (wn rfl) hr (.int .i64 g2) (fun w => by kernel_rfl) ?_; clear hr a; intro a hr
        refine evD hgo ⟨⟨hv0.cell c4 (h.dn 0) 0 rfl, hv0.cell c4 (h.dn 0) 1 rfl, hv0.cell c4 (h.dn 0) 2 rfl, hv0.cell c4 (h.dn 0) 3 rfl, hv0.cell c4 (h.dn 0) 4 rfl, hv0.cell c4 (h.dn 0) 5 rfl, trivial⟩, ⟨hv1.cell c5 (h.dn 0) 0 rfl, hv1.cell c5 (h.dn 0) 1 rfl, hv1.cell c5 (h.dn 0) 2 rfl, hv1.cell c5 (h.dn 0) 3 rfl, hv1.cell c5 (h.dn 0) 4 rfl, hv1.cell c5 (h.dn 0) 5 rfl, trivial⟩, trivial⟩ 3 6 rfl (by kernel_rfl) (wn rfl) hr (.pointer (some ⟨blk va1, offs va1 + g2.toNat * 6, none⟩)) (fun w => ri_rd (k := .i64) (E := 96) (cc := vc1) rfl (by kernel_rfl) (by kernel_rfl) rfl (by kernel_rfl) (by kernel_rfl) hv1 c5) ?_; clear hr a; intro a hr
        refine el [2, 6] (b := blk va0) (off := offs va0 + g2.toNat * 6) (cs := [.int .i64 ((at_ p0 g2.toNat).Who), .int .i64 ((at_ p0 g2.toNat).Kind), .int .i64 ((at_ p0 g2.toNat).Addr), .int .i64 ((at_ p0 g2.toNat).A), .int .i64 ((at_ p0 g2.toNat).B), .bool ((at_ p0 g2.toNat).OK)]) (fun _ hk => ⟨hk, fun w hD => hD.1⟩) 2 3 rfl (by kernel_rfl) (wn rfl) hr (.agg #[.int .i64 ((at_ p0 g2.toNat).Who), .int .i64 ((at_ p0 g2.toNat).Kind), .int .i64 ((at_ p0 g2.toNat).Addr), .int .i64 ((at_ p0 g2.toNat).A), .int .i64 ((at_ p0 g2.toNat).B), .bool ((at_ p0 g2.toNat).OK)]) ⟨hv0.cell c4 (h.dn 0) 0 rfl, hv0.cell c4 (h.dn 0) 1 rfl, hv0.cell c4 (h.dn 0) 2 rfl, hv0.cell c4 (h.dn 0) 3 rfl, hv0.cell c4 (h.dn 0) 4 rfl, hv0.cell c4 (h.dn 0) 5 rfl, trivial⟩ (fun w hc => rlm (cs := [.int .i64 ((at_ p0 g2.toNat).Who), .int .i64 ((at_ p0 g2.toNat).Kind), .int .i64 ((at_ p0 g2.toNat).Addr), .int .i64 ((at_ p0 g2.toNat).A), .int .i64 ((at_ p0 g2.toNat).B), .bool ((at_ p0 g2.toNat).OK)]) rfl (by kernel_rfl) (by kernel_rfl) (by kernel_rfl) hc) ?_; clear hr a; intro a hr
        refine el [2, 6] (b := blk va1) (off := offs va1 + g2.toNat * 6) (cs := [.int .i64 ((at_ p1 g2.toNat).Who), .int .i64 ((at_ p1 g2.toNat).Kind), .int .i64 ((at_ p1 g2.toNat).Addr), .int .i64 ((at_ p1 g2.toNat).A), .int .i64 ((at_ p1 g2.toNat).B), .bool ((at_ p1 g2.toNat).OK)]) (fun _ hk => ⟨hk, fun w hD => hD.2.1⟩) 1 7 rfl (by kernel_rfl) (wn rfl) hr (.agg #[.int .i64 ((at_ p1 g2.toNat).Who), .int .i64 ((at_ p1 g2.toNat).Kind), .int .i64 ((at_ p1 g2.toNat).Addr), .int .i64 ((at_ p1 g2.toNat).A), .int .i64 ((at_ p1 g2.toNat).B), .bool ((at_ p1 g2.toNat).OK)]) ⟨hv1.cell c5 (h.dn 0) 0 rfl, hv1.cell c5 (h.dn 0) 1 rfl, hv1.cell c5 (h.dn 0) 2 rfl, hv1.cell c5 (h.dn 0) 3 rfl, hv1.cell c5 (h.dn 0) 4 rfl, hv1.cell c5 (h.dn 0) 5 rfl, trivial⟩ (fun w hc => rlm (cs := [.int .i64 ((at_ p1 g2.toNat).Who), .int .i64 ((at_ p1 g2.toNat).Kind), .int .i64 ((at_ p1 g2.toNat).Addr), .int .i64 ((at_ p1 g2.toNat).A), .int .i64 ((at_ p1 g2.toNat).B), .bool ((at_ p1 g2.toNat).OK)]) rfl (by kernel_rfl) (by kernel_rfl) (by kernel_rfl) hc) ?_; clear hr a; intro a hr
        refine ev 0 8 rfl (by kernel_rfl) (wn rfl) hr (.bool (!(decide (at_ p0 g2.toNat = at_ p1 g2.toNat)))) (fun w => rb (rne rfl (by kernel_rfl) (by kernel_rfl) (by kernel_rfl) (by kernel_rfl) (by kernel_rfl) (by kernel_rfl)) (congrArg (!·) (eq_T_api_Access (at_ p0 g2.toNat) (at_ p1 g2.toNat)))) ?_; clear hr a; intro a hr
        refine e_end (by kernel_rfl) ?_
        refine then_normal ?_
        by_cases c6 : at_ p0 g2.toNat = at_ p1 g2.toNat
        ·
          replace H := ifT c6 H
          refine cond_ff hr (b := (!(decide (at_ p0 g2.toNat = at_ p1 g2.toNat)))) (by rw [show (decide (at_ p0 g2.toNat = at_ p1 g2.toNat)) = true from (decide_eq_true c6)]; rfl) ?_
          refine wp_skip ?_
          refine blk_normal ?_
          refine then_normal ?_
          refine wp_region_lit ?_
          refine ovs [15, 16, 5] [.int .i64 g2, .int .i64 (wi (g2 + (1 : Int))), .int .i64 (wi (g2 + (1 : Int)))] hr ⟨rfl, rfl⟩ (by kernel_rfl) ?_; clear hr a; intro a hr
          refine wpList_nil ?_
          refine then_normal ?_
          replace hr := hr.fold2 [(0, .slice va0 p0.length vc0), (1, .slice va1 p1.length vc1), (5, .int .i64 (wi (g2 + (1 : Int))))] (by kernel_rfl); obtain ⟨j, hr⟩ := hr
          exact ⟨_, ⟨(wi (g2 + (1 : Int))), H, j, hr, h⟩, Nat.lt_succ_self _⟩
        ·
          replace H := ifF c6 H
          refine cond_tt hr (b := (!(decide (at_ p0 g2.toNat = at_ p1 g2.toNat)))) (by rw [show (decide (at_ p0 g2.toNat = at_ p1 g2.toNat)) = false from (decide_eq_false c6)]; rfl) ?_
          refine wp_seq ?_
          refine wp_region_lit ?_
          refine ov hr (.bool false) (by kernel_rfl) ?_; clear hr a; intro a hr
          refine wpList_nil ?_
          refine then_normal ?_
          refine wp_ret ?_
          refine blk_ret ?_
          refine then_ret ?_
          refine then_ret ?_
          refine blk_ret ?_
          refine then_ret ?_
          refine end_ret1 (v := .bool false) rfl hr (by kernel_rfl) ?_
          replace H := ej1 H; subst H
          exact ⟨rfl, h⟩
      ·
        replace H := ifF c3 H
        refine cond_ff hr (b := (decide (g2 < ((p0.length : Nat) : Int)))) (decide_eq_false c3) ?_
        refine wp_exit ?_
        refine then_exit ?_
        refine then_exit ?_
        refine blk_here ?_
        refine then_normal ?_
        refine wp_seq ?_
        refine wp_region_lit ?_
        refine ov hr (.bool true) (by kernel_rfl) ?_; clear hr a; intro a hr
        refine wpList_nil ?_
        refine then_normal ?_
        refine wp_ret ?_
        refine end_ret1 (v := .bool true) rfl hr (by kernel_rfl) ?_
        replace H := ej1 H; subst H
        exact ⟨rfl, h⟩
  ·
    replace H := ifF c1 H
    refine cond_tt hr (b := (((p0.length : Nat) : Int) != ((p1.length : Nat) : Int))) (bne_iff_ne.mpr c1) ?_
    refine wp_seq ?_
    refine wp_region_lit ?_
    refine ov hr (.bool false) (by kernel_rfl) ?_; clear hr a; intro a hr
    refine wpList_nil ?_
    refine then_normal ?_
    refine wp_ret ?_
    refine then_ret ?_
    refine end_ret1 (v := .bool false) rfl hr (by kernel_rfl) ?_
    replace H := ej1 H; subst H
    exact ⟨rfl, h⟩

/-- (*plunder/cells.Arena).Cells -/
def cells_Arena_Cells (p0 : T_cells_Arena) : Option ((List Int)) :=
  if 0 ≤ ((p0.cell.length : Nat) : Int) ∧ ((p0.cell.length : Nat) : Int) * 8 ≤ 140737488355328 then if p0.cell.length = (List.replicate p0.cell.length (0 : Int)).length then some p0.cell else none else none
set_option maxRecDepth 100000 in
set_option maxHeartbeats 4000000 in
theorem cells_Arena_Cells_ok {z w : World} {L : List HProp} {p0 : T_cells_Arena} {B0 : Nat} {ca1 : Option Addr} {cc2 : Nat} {ca3 : Option Addr} {cc4 : Nat} {r0 : List Int} (H : cells_Arena_Cells p0 = some r0) (h : Fit z (sepL (ob103 B0 p0 ca1 cc2 ca3 cc4 :: ro2 ca1 cc2 p0.cell :: ro96 ca3 cc4 p0.log :: L)) w)  :
    Calls Try.prog 21 #[.pointer (some ⟨B0, 0, none⟩)] w fun e w => ∃ car0_1 : Option Addr, e = .returned (.slice car0_1 r0.length r0.length) ∧ Fit z (sepL (ob103 B0 p0 ca1 cc2 ca3 cc4 :: ro2 ca1 cc2 p0.cell :: ro96 ca3 cc4 p0.log :: ro2 car0_1 r0.length r0 :: L)) w := by
  unfold cells_Arena_Cells at H
  refine enter Try.func21 rfl 19 rfl rfl [(0, .pointer (some ⟨B0, 0, none⟩))] ⟨rfl, trivial⟩ ?_
  intro j a hr
  refine wp_seq ?_
  refine wp_region_lit ?_
  refine ov hr (.slice none 0 0) (by kernel_rfl) ?_; clear hr a; intro a hr
  refine wpList_nil ?_
  refine then_normal ?_
  refine wp_seq ?_
  refine wp_seq ?_
  refine wp_region_lit ?_
  refine ovs [4, 5] [.pointer (some ⟨B0, 0, none⟩), .bool false] hr ⟨rfl, rfl⟩ (by kernel_rfl) ?_; clear hr a; intro a hr
  refine wpList_nil ?_
  refine then_normal ?_
  refine cond_ff hr (b := false) rfl ?_
  refine wp_skip ?_
  refine then_normal ?_
  refine wp_seq ?_
  refine wp_region_lit ?_
  refine ovs [6, 7, 8] [.pointer (some ⟨B0, 0, none⟩), .pointer (some ⟨B0, 0, none⟩), .pointer (some ⟨B0, 2, none⟩)] hr ⟨rfl, rfl⟩ (by kernel_rfl) ?_; clear hr a; intro a hr
  refine op_val (wn rfl) rfl rfl hr (v := .slice ca1 p0.cell.length cc2) (rl rfl (by kernel_rfl) (by kernel_rfl) (h.cell 2 rfl)) ?_; clear hr a; intro a hr
  replace H := gd H; obtain ⟨c5, H⟩ := H
  refine ov hr (.int .i64 ((p0.cell.length : Nat) : Int)) (by kernel_rfl) ?_; clear hr a; intro a hr
  refine op_make_row (i := ((p0.cell.length : Nat) : Int)) (bytes := 8) (zc := #[.int .i64 0]) (0 : Int) (wn rfl) rfl rfl hr rfl (by kernel_rfl) (by kernel_rfl) c5 encZ_i64_ok (E := 2) (by kernel_rfl) (by kernel_rfl) rfl rfl h ?_; clear h hr a; intro ca6 w a h hr
  refine ov hr (.slice ca6 ((List.replicate p0.cell.length (0 : Int)).length) p0.cell.length) (by kernel_rfl) ?_; clear hr a; intro a hr
  refine wpList_nil ?_
  replace h : Fit z (sepL (ro2 ca6 p0.cell.length (List.replicate p0.cell.length (0 : Int)) :: ob103 B0 p0 ca1 cc2 ca3 cc4 :: ro2 ca1 cc2 p0.cell :: ro96 ca3 cc4 p0.log :: L)) _ := h
  refine then_normal ?_
  refine wp_seq ?_
  refine wp_region_lit ?_
  refine ovs [12, 13, 14, 15] [.slice ca6 ((List.replicate p0.cell.length (0 : Int)).length) p0.cell.length, .pointer (some ⟨B0, 0, none⟩), .pointer (some ⟨B0, 0, none⟩), .pointer (some ⟨B0, 2, none⟩)] hr ⟨rfl, rfl⟩ (by kernel_rfl) ?_; clear hr a; intro a hr
  refine op_val (wn rfl) rfl rfl hr (v := .slice ca1 p0.cell.length cc2) (rl rfl (by kernel_rfl) (by kernel_rfl) ((h.pick 1).cell 2 rfl)) ?_; clear hr a; intro a hr
  replace H := gd H; obtain ⟨c7, H⟩ := H
  replace h : Fit z (sepL (ro2 ca6 p0.cell.length (List.replicate p0.cell.length (0 : Int)) :: ro2 ca1 cc2 p0.cell :: ob103 B0 p0 ca1 cc2 ca3 cc4 :: ro96 ca3 cc4 p0.log :: L)) _ := h.sel 4 [0, 2, 1, 3] (by kernel_rfl) (by kernel_rfl)
  refine op_copy_row (wn rfl) rfl rfl hr rfl (by kernel_rfl) (by kernel_rfl) encZ_i64_ok (E := 2) (by kernel_rfl) (by kernel_rfl) c7 h ?_; clear h hr a; intro w a h hr
  refine wpList_nil ?_
  replace h : Fit z (sepL (rowOf 2 1 encZ_i64 (.slice ca6 ((List.replicate p0.cell.length (0 : Int)).length) p0.cell.length) p0.cell :: ro2 ca1 cc2 p0.cell :: ob103 B0 p0 ca1 cc2 ca3 cc4 :: ro96 ca3 cc4 p0.log :: L)) _ := h
  refine then_normal ?_
  refine wp_seq ?_
  refine wp_region_lit ?_
  refine ovs [18, 2] [.slice ca6 ((List.replicate p0.cell.length (0 : Int)).length) p0.cell.length, .slice ca6 ((List.replicate p0.cell.length (0 : Int)).length) p0.cell.length] hr ⟨rfl, rfl⟩ (by kernel_rfl) ?_; clear hr a; intro a hr
  refine wpList_nil ?_
  refine then_normal ?_
  refine wp_ret ?_
  refine end_ret1 (v := .slice ca6 ((List.replicate p0.cell.length (0 : Int)).length) p0.cell.length) rfl hr (by kernel_rfl) ?_
  have hn7 := h.row_n
  replace h : Fit z (sepL (ro2 ca6 p0.cell.length p0.cell :: ro2 ca1 cc2 p0.cell :: ob103 B0 p0 ca1 cc2 ca3 cc4 :: ro96 ca3 cc4 p0.log :: L)) w := (congrArg (fun q_ : Nat => Fit z (sepL (rowOf 2 1 encZ_i64 (.slice ca6 q_ p0.cell.length) p0.cell :: ro2 ca1 cc2 p0.cell :: ob103 B0 p0 ca1 cc2 ca3 cc4 :: ro96 ca3 cc4 p0.log :: L)) w) h.row_n).mp h
  replace h : Fit z (sepL (ob103 B0 p0 ca1 cc2 ca3 cc4 :: ro2 ca1 cc2 p0.cell :: ro96 ca3 cc4 p0.log :: ro2 ca6 p0.cell.length p0.cell :: L)) _ := h.sel 4 [2, 1, 3, 0] (by kernel_rfl) (by kernel_rfl)
  replace H := ej1 H; subst H
  exact ⟨ca6, (by simp only [hn7]), h⟩

def plunderref2_Arena_Cells_l1 (K : Nat) (p0 : T_plunderref2_Arena) : Nat → (List Int) → Int → Option ((List Int))
  | 0, _, _ => none
  | k1 + 1, l7, g8 => (if g8 < ((p0.Held.length : Nat) : Int) then if inr_ g8 p0.Held.length then if (l7.length + 1) * 8 ≤ 140737488355328 then (plunderref2_Arena_Cells_l1 K p0 k1 (l7 ++ [(at_ p0.Held g8.toNat)]) (wi (g8 + (1 : Int)))) else none else none else some l7)
/-- (*plunder/plunderref2.Arena).Cells -/
def plunderref2_Arena_Cells (K : Nat) (p0 : T_plunderref2_Arena) : Option ((List Int)) :=
  (plunderref2_Arena_Cells_l1 K p0 K ([] : List Int) 0)
set_option maxRecDepth 100000 in
set_option maxHeartbeats 4000000 in
theorem plunderref2_Arena_Cells_ok {z w : World} {L : List HProp} {K : Nat} {p0 : T_plunderref2_Arena} {B0 : Nat} {ca1 : Option Addr} {cc2 : Nat} {ca3 : Option Addr} {cc4 : Nat} {r0 : List Int} (H : plunderref2_Arena_Cells K p0 = some r0) (h : Fit z (sepL (ob34 B0 p0 ca1 cc2 ca3 cc4 :: ro2 ca1 cc2 p0.Held :: ro96 ca3 cc4 p0.Book :: L)) w)  :
    Calls Try.prog 22 #[.pointer (some ⟨B0, 0, none⟩)] w fun e w => ∃ car0_1 : Option Addr, ∃ ccr0_2 : Nat, e = .returned (.slice car0_1 r0.length ccr0_2) ∧ Fit z (sepL (ob34 B0 p0 ca1 cc2 ca3 cc4 :: ro2 ca1 cc2 p0.Held :: ro96 ca3 cc4 p0.Book :: ro2 car0_1 ccr0_2 r0 :: L)) w := by
  unfold plunderref2_Arena_Cells at H
  refine enter Try.func22 rfl 25 rfl rfl [(0, .pointer (some ⟨B0, 0, none⟩))] ⟨rfl, trivial⟩ ?_
  intro j a hr
  refine wp_seq ?_
  refine wp_region_lit ?_
  refine ov hr (.slice none 0 0) (by kernel_rfl) ?_; clear hr a; intro a hr
  refine wpList_nil ?_
  refine then_normal ?_
  refine wp_seq ?_
  refine wp_region_lit ?_
  refine ov hr (.slice none 0 0) (by kernel_rfl) ?_; clear hr a; intro a hr
  refine wpList_nil ?_
  refine then_normal ?_
  refine wp_seq ?_
  refine wp_seq ?_
  refine wp_region_lit ?_
  refine ov hr (.int .i64 0) (by kernel_rfl) ?_; clear hr a; intro a hr
  refine wpList_nil ?_
  refine then_normal ?_
  refine wp_block ?_
  replace hr := hr.fold2 [(0, .pointer (some ⟨B0, 0, none⟩)), (3, .slice none (([] : List Int).length) 0), (4, .int .i64 0)] (by kernel_rfl); obtain ⟨j, hr⟩ := hr
  replace h : Fit z (sepL (rowOf 2 1 encZ_i64 (.slice none 0 0) ([] : List Int) :: ob34 B0 p0 ca1 cc2 ca3 cc4 :: ro2 ca1 cc2 p0.Held :: ro96 ca3 cc4 p0.Book :: L)) _ := h.row_nil
  replace h : Fit z (sepL (ob34 B0 p0 ca1 cc2 ca3 cc4 :: ro2 ca1 cc2 p0.Held :: ro96 ca3 cc4 p0.Book :: rowOf 2 1 encZ_i64 (.slice none (([] : List Int).length) 0) ([] : List Int) :: L)) _ := h.sel 4 [1, 2, 3, 0] (by kernel_rfl) (by kernel_rfl)
  refine loop_rule (β := Nat) id (fun m a w => ∃ ca5 : Option Addr, ∃ cc6 : Nat, ∃ l7 : List Int, ∃ g8 : Int, (plunderref2_Arena_Cells_l1 K p0 m l7 g8) = some r0 ∧ ∃ j, Rep 25 (lk [(0, .pointer (some ⟨B0, 0, none⟩)), (3, .slice ca5 l7.length cc6), (4, .int .i64 g8)] j) a ∧ Fit z (sepL (ob34 B0 p0 ca1 cc2 ca3 cc4 :: ro2 ca1 cc2 p0.Held :: ro96 ca3 cc4 p0.Book :: ro2 ca5 cc6 l7 :: L)) w) K ⟨none, 0, ([] : List Int), 0, H, j, hr, h⟩ ?_
  clear h hr a H; rintro k1 a w ⟨ca5, cc6, l7, g8, H, j, hr, h⟩
  cases k1 with
  | zero => exact absurd H (by simp [plunderref2_Arena_Cells_l1])
  | succ k1 =>
    rw [plunderref2_Arena_Cells_l1] at H
    refine wp_seq ?_
    refine wp_seq ?_
    refine wp_region_lit ?_
    refine ovs [5, 6, 7, 8] [.int .i64 g8, .pointer (some ⟨B0, 0, none⟩), .pointer (some ⟨B0, 0, none⟩), .pointer (some ⟨B0, 1, none⟩)] hr ⟨rfl, rfl⟩ (by kernel_rfl) ?_; clear hr a; intro a hr
    refine op_val (wn rfl) rfl rfl hr (v := .slice ca1 p0.Held.length cc2) (rl rfl (by kernel_rfl) (by kernel_rfl) (h.cell 1 rfl)) ?_; clear hr a; intro a hr
    refine ovs [10, 11] [.int .i64 ((p0.Held.length : Nat) : Int), .bool (decide (g8 < ((p0.Held.length : Nat) : Int)))] hr ⟨rfl, rfl⟩ (by kernel_rfl) ?_; clear hr a; intro a hr
    refine wpList_nil ?_
    refine then_normal ?_
    by_cases c9 : g8 < ((p0.Held.length : Nat) : Int)
    ·
      replace H := ifT c9 H
      refine cond_tt hr (b := (decide (g8 < ((p0.Held.length : Nat) : Int)))) (decide_eq_true c9) ?_
      refine wp_skip ?_
      refine then_normal ?_
      refine wp_seq ?_
      refine wp_block ?_
      refine wp_region_lit ?_
      refine ovs [14, 15, 16, 17] [.slice ca5 l7.length cc6, .pointer (some ⟨B0, 0, none⟩), .pointer (some ⟨B0, 0, none⟩), .pointer (some ⟨B0, 1, none⟩)] hr ⟨rfl, rfl⟩ (by kernel_rfl) ?_; clear hr a; intro a hr
      refine op_val (wn rfl) rfl rfl hr (v := .slice ca1 p0.Held.length cc2) (rl rfl (by kernel_rfl) (by kernel_rfl) (h.cell 1 rfl)) ?_; clear hr a; intro a hr
      replace H := gd H; obtain ⟨c10, H⟩ := H
      refine ov hr (.int .i64 g8) (by kernel_rfl) ?_; clear hr a; intro a hr
      refine op_val (wn rfl) rfl rfl hr (v := .pointer (some ⟨blk ca1, g8.toNat * 1, none⟩)) (ri_row (k := .i64) (E := 2) rfl (by kernel_rfl) (by kernel_rfl) (by kernel_rfl) (by kernel_rfl) (h.pick 1) c10) ?_; clear hr a; intro a hr
      refine op_val (wn rfl) rfl rfl hr (v := .int .i64 (at_ p0.Held g8.toNat)) (rl rfl (by kernel_rfl) (by kernel_rfl) ((h.pick 1).row_cell encZ_i64_ok (f := 0) (at_ok c10) rfl)) ?_; clear hr a; intro a hr
      refine op_new (wn rfl) rfl rfl hr h (vf := fun b => .slice (some ⟨b, 0, none⟩) 1 1) (cs := #[.int .i64 (at_ p0.Held g8.toNat)]) (T := 2) (by kernel_rfl) ?_; clear h hr a; intro b11 w a h hr
      replace h : Fit z (sepL (ro2 ca5 cc6 l7 :: pts b11 (.cells #[.int .i64 (at_ p0.Held g8.toNat)] 2) :: ob34 B0 p0 ca1 cc2 ca3 cc4 :: ro2 ca1 cc2 p0.Held :: ro96 ca3 cc4 p0.Book :: L)) _ := h.sel 5 [4, 0, 1, 2, 3] (by kernel_rfl) (by kernel_rfl)
      replace H := gd H; obtain ⟨c14, H⟩ := H
      refine op_append (n0 := l7.length) (c := 1) (bytes := 8) (wn rfl) rfl rfl hr rfl (by kernel_rfl) (by kernel_rfl) encZ_i64_ok (E := 2) (xs := l7) (by kernel_rfl) (by kernel_rfl) h (news := [(at_ p0.Held g8.toNat)]) (m := 1) rfl ((h.pick 1).news rfl) c14 rfl ?_; clear h hr a; intro ca12 cc13 w a h hr
      refine ov hr (.slice ca12 ((l7 ++ [(at_ p0.Held g8.toNat)]).length) cc13) (by kernel_rfl) ?_; clear hr a; intro a hr
      refine wpList_nil ?_
      replace h : Fit z (sepL (ro2 ca12 cc13 (l7 ++ [(at_ p0.Held g8.toNat)]) :: pts b11 (.cells #[.int .i64 (at_ p0.Held g8.toNat)] 2) :: ob34 B0 p0 ca1 cc2 ca3 cc4 :: ro2 ca1 cc2 p0.Held :: ro96 ca3 cc4 p0.Book :: L)) _ := h
      refine blk_normal ?_
      refine then_normal ?_
      refine wp_region_lit ?_
      refine ovs [12, 13, 4] [.int .i64 g8, .int .i64 (wi (g8 + (1 : Int))), .int .i64 (wi (g8 + (1 : Int)))] hr ⟨rfl, rfl⟩ (by kernel_rfl) ?_; clear hr a; intro a hr
      refine wpList_nil ?_
      refine then_normal ?_
      replace hr := hr.fold2 [(0, .pointer (some ⟨B0, 0, none⟩)), (3, .slice ca12 ((l7 ++ [(at_ p0.Held g8.toNat)]).length) cc13), (4, .int .i64 (wi (g8 + (1 : Int))))] (by kernel_rfl); obtain ⟨j, hr⟩ := hr
      replace h : Fit z (sepL (ob34 B0 p0 ca1 cc2 ca3 cc4 :: ro2 ca1 cc2 p0.Held :: ro96 ca3 cc4 p0.Book :: ro2 ca12 cc13 (l7 ++ [(at_ p0.Held g8.toNat)]) :: L)) _ := h.sel 5 [2, 3, 4, 0] (by kernel_rfl) (by kernel_rfl)
      exact ⟨_, ⟨ca12, cc13, (l7 ++ [(at_ p0.Held g8.toNat)]), (wi (g8 + (1 : Int))), H, j, hr, h⟩, Nat.lt_succ_self _⟩
    ·
      replace H := ifF c9 H
      refine cond_ff hr (b := (decide (g8 < ((p0.Held.length : Nat) : Int)))) (decide_eq_false c9) ?_
      refine wp_exit ?_
      refine then_exit ?_
      refine then_exit ?_
      refine blk_here ?_
      refine then_normal ?_
      refine wp_seq ?_
      refine wp_region_lit ?_
      refine ovs [24, 2] [.slice ca5 l7.length cc6, .slice ca5 l7.length cc6] hr ⟨rfl, rfl⟩ (by kernel_rfl) ?_; clear hr a; intro a hr
      refine wpList_nil ?_
      refine then_normal ?_
      refine wp_ret ?_
      refine end_ret1 (v := .slice ca5 l7.length cc6) rfl hr (by kernel_rfl) ?_
      replace H := ej1 H; subst H
      exact ⟨ca5, cc6, rfl, h⟩

def plunderlaw8_sameNumbers_l1 (K : Nat) (p0 : List Int) (p1 : List Int) : Nat → Int → Option (Bool)
  | 0, _ => none
  | k1 + 1, g2 => (if g2 < ((p0.length : Nat) : Int) then if inr_ g2 p0.length then if inr_ g2 p1.length then (if (at_ p0 g2.toNat) = (at_ p1 g2.toNat) then (plunderlaw8_sameNumbers_l1 K p0 p1 k1 (wi (g2 + (1 : Int)))) else some false) else none else none else some true)
/-- plunder/plunderlaw8.sameNumbers -/
def plunderlaw8_sameNumbers (K : Nat) (p0 : List Int) (p1 : List Int) : Option (Bool) :=
  (if ((p0.length : Nat) : Int) = ((p1.length : Nat) : Int) then (plunderlaw8_sameNumbers_l1 K p0 p1 K 0) else some false)
set_option maxRecDepth 100000 in
set_option maxHeartbeats 4000000 in
theorem plunderlaw8_sameNumbers_ok {z w : World} {L : List HProp} {K : Nat} {p0 : List Int} {p1 : List Int} {va0 : Option Addr} {vc0 : Nat} {va1 : Option Addr} {vc1 : Nat} {r0 : Bool} (H : plunderlaw8_sameNumbers K p0 p1 = some r0) (h : Fit z (sepL (L)) w) (hv0 : RdRow L 1 encZ_i64 va0 p0) (hv1 : RdRow L 1 encZ_i64 va1 p1) :
    Calls Try.prog 20 #[.slice va0 p0.length vc0, .slice va1 p1.length vc1] w fun e w => e = .returned (.bool r0) ∧ Fit z (sepL (L)) w := by
  unfold plunderlaw8_sameNumbers at H
  refine enter Try.func20 rfl 26 rfl rfl [(0, .slice va0 p0.length vc0), (1, .slice va1 p1.length vc1)] ⟨rfl, rfl, trivial⟩ ?_
  intro j a hr
  refine wp_seq ?_
  refine wp_region_lit ?_
  refine ov hr (.bool false) (by kernel_rfl) ?_; clear hr a; intro a hr
  refine wpList_nil ?_
  refine then_normal ?_
  refine wp_seq ?_
  refine wp_seq ?_
  refine wp_region_lit ?_
  refine ovs [6, 7, 8, 9, 10] [.slice va0 p0.length vc0, .int .i64 ((p0.length : Nat) : Int), .slice va1 p1.length vc1, .int .i64 ((p1.length : Nat) : Int), .bool (((p0.length : Nat) : Int) != ((p1.length : Nat) : Int))] hr ⟨rfl, rfl⟩ (by kernel_rfl) ?_; clear hr a; intro a hr
  refine wpList_nil ?_
  refine then_normal ?_
  by_cases c1 : ((p0.length : Nat) : Int) = ((p1.length : Nat) : Int)
  ·
    replace H := ifT c1 H
    refine cond_ff hr (b := (((p0.length : Nat) : Int) != ((p1.length : Nat) : Int))) (bne_eq_false_iff_eq.mpr c1) ?_
    refine wp_skip ?_
    refine then_normal ?_
    refine wp_seq ?_
    refine wp_seq ?_
    refine wp_region_lit ?_
    refine ov hr (.int .i64 0) (by kernel_rfl) ?_; clear hr a; intro a hr
    refine wpList_nil ?_
    refine then_normal ?_
    refine wp_block ?_
    replace hr := hr.fold2 [(0, .slice va0 p0.length vc0), (1, .slice va1 p1.length vc1), (5, .int .i64 0)] (by kernel_rfl); obtain ⟨j, hr⟩ := hr
    refine loop_rule (β := Nat) id (fun m a w => ∃ g2 : Int, (plunderlaw8_sameNumbers_l1 K p0 p1 m g2) = some r0 ∧ ∃ j, Rep 26 (lk [(0, .slice va0 p0.length vc0), (1, .slice va1 p1.length vc1), (5, .int .i64 g2)] j) a ∧ Fit z (sepL (L)) w) K ⟨0, H, j, hr, h⟩ ?_
    clear h hr a H; rintro k1 a w ⟨g2, H, j, hr, h⟩
    cases k1 with
    | zero => exact absurd H (by simp [plunderlaw8_sameNumbers_l1])
    | succ k1 =>
      rw [plunderlaw8_sameNumbers_l1] at H
      refine wp_seq ?_
      refine wp_seq ?_
      refine wp_region_lit ?_
      refine ovs [11, 12, 13, 14] [.int .i64 g2, .slice va0 p0.length vc0, .int .i64 ((p0.length : Nat) : Int), .bool (decide (g2 < ((p0.length : Nat) : Int)))] hr ⟨rfl, rfl⟩ (by kernel_rfl) ?_; clear hr a; intro a hr
      refine wpList_nil ?_
      refine then_normal ?_
      by_cases c3 : g2 < ((p0.length : Nat) : Int)
      ·
        replace H := ifT c3 H
        refine cond_tt hr (b := (decide (g2 < ((p0.length : Nat) : Int)))) (decide_eq_true c3) ?_
        refine wp_skip ?_
        refine then_normal ?_
        refine wp_seq ?_
        refine wp_block ?_
        refine wp_seq ?_
        replace H := gd H; obtain ⟨c4, H⟩ := H
        replace H := gd H; obtain ⟨c5, H⟩ := H
        refine reg_E (fun w => heldC w (blk va0) (offs va0 + g2.toNat * 1) [.int .i64 (at_ p0 g2.toNat)] ∧ heldC w (blk va1) (offs va1 + g2.toNat * 1) [.int .i64 (at_ p1 g2.toNat)] ∧ True) [2, 6] h (by kernel_rfl) ?_; intro w h
        change wpAnyE _ _ _ _ _ _ 9 (Array.replicate 9 false) a w
        have hgo : ∀ w w', CellsGo w w' → (heldC w (blk va0) (offs va0 + g2.toNat * 1) [.int .i64 (at_ p0 g2.toNat)] ∧ heldC w (blk va1) (offs va1 + g2.toNat * 1) [.int .i64 (at_ p1 g2.toNat)] ∧ True) → heldC w' (blk va0) (offs va0 + g2.toNat * 1) [.int .i64 (at_ p0 g2.toNat)] ∧ heldC w' (blk va1) (offs va1 + g2.toNat * 1) [.int .i64 (at_ p1 g2.toNat)] ∧ True := fun w w' g hD => ⟨heldC_go _ _ _ _ _ g hD.1, heldC_go _ _ _ _ _ g hD.2.1, trivial⟩
        refine ev 8 0 rfl (by kernel_rfl) (wn rfl) hr (.slice va0 p0.length vc0) (fun w => by kernel_rfl) ?_; clear hr a; intro a hr
        refine ev 7 1 rfl (by kernel_rfl) (wn rfl) hr (.int .i64 g2) (fun w => by kernel_rfl) ?_; clear hr a; intro a hr
        refine evD hgo ⟨⟨hv0.cell c4 (h.dn 0) 0 rfl, trivial⟩, ⟨hv1.cell c5 (h.dn 0) 0 rfl, trivial⟩, trivial⟩ 6 2 rfl (by kernel_rfl) (wn rfl) hr (.pointer (some ⟨blk va0, offs va0 + g2.toNat * 1, none⟩)) (fun w => ri_rd (k := .i64) (E := 2) (cc := vc0) rfl (by kernel_rfl) (by kernel_rfl) rfl (by kernel_rfl) (by kernel_rfl) hv0 c4) ?_; clear hr a; intro a hr
        refine ev 5 4 rfl (by kernel_rfl) (wn rfl) hr (.slice va1 p1.length vc1) (fun w => by kernel_rfl) ?_; clear hr a; intro a hr
        refine ev 4 5 rfl (by kernel_rfl) (wn rfl) hr (.int .i64 g2) (fun w => by kernel_rfl) ?_; clear hr a; intro a hr
        refine evD hgo ⟨⟨hv0.cell c4 (h.dn 0) 0 rfl, trivial⟩, ⟨hv1.cell c5 (h.dn 0) 0 rfl, trivial⟩, trivial⟩ 3 6 rfl (by kernel_rfl) (wn rfl) hr (.pointer (some ⟨blk va1, offs va1 + g2.toNat * 1, none⟩)) (fun w => ri_rd (k := .i64) (E := 2) (cc := vc1) rfl (by kernel_rfl) (by kernel_rfl) rfl (by kernel_rfl) (by kernel_rfl) hv1 c5) ?_; clear hr a; intro a hr
        refine el [2, 6] (b := blk va0) (off := offs va0 + g2.toNat * 1) (cs := [.int .i64 (at_ p0 g2.toNat)]) (fun _ hk => ⟨hk, fun w hD => hD.1⟩) 2 3 rfl (by kernel_rfl) (wn rfl) hr (.int .i64 (at_ p0 g2.toNat)) ⟨hv0.cell c4 (h.dn 0) 0 rfl, trivial⟩ (fun w hc => rl rfl (by kernel_rfl) (by kernel_rfl) hc.1) ?_; clear hr a; intro a hr
        refine el [2, 6] (b := blk va1) (off := offs va1 + g2.toNat * 1) (cs := [.int .i64 (at_ p1 g2.toNat)]) (fun _ hk => ⟨hk, fun w hD => hD.2.1⟩) 1 7 rfl (by kernel_rfl) (wn rfl) hr (.int .i64 (at_ p1 g2.toNat)) ⟨hv1.cell c5 (h.dn 0) 0 rfl, trivial⟩ (fun w hc => rl rfl (by kernel_rfl) (by kernel_rfl) hc.1) ?_; clear hr a; intro a hr
        refine ev 0 8 rfl (by kernel_rfl) (wn rfl) hr (.bool ((at_ p0 g2.toNat) != (at_ p1 g2.toNat))) (fun w => by kernel_rfl) ?_; clear hr a; intro a hr
        refine e_end (by kernel_rfl) ?_
        refine then_normal ?_
        by_cases c6 : (at_ p0 g2.toNat) = (at_ p1 g2.toNat)
        ·
          replace H := ifT c6 H
          refine cond_ff hr (b := ((at_ p0 g2.toNat) != (at_ p1 g2.toNat))) (bne_eq_false_iff_eq.mpr c6) ?_
          refine wp_skip ?_
          refine blk_normal ?_
          refine then_normal ?_
          refine wp_region_lit ?_
          refine ovs [15, 16, 5] [.int .i64 g2, .int .i64 (wi (g2 + (1 : Int))), .int .i64 (wi (g2 + (1 : Int)))] hr ⟨rfl, rfl⟩ (by kernel_rfl) ?_; clear hr a; intro a hr
          refine wpList_nil ?_
          refine then_normal ?_
          replace hr := hr.fold2 [(0, .slice va0 p0.length vc0), (1, .slice va1 p1.length vc1), (5, .int .i64 (wi (g2 + (1 : Int))))] (by kernel_rfl); obtain ⟨j, hr⟩ := hr
          exact ⟨_, ⟨(wi (g2 + (1 : Int))), H, j, hr, h⟩, Nat.lt_succ_self _⟩
        ·
          replace H := ifF c6 H
          refine cond_tt hr (b := ((at_ p0 g2.toNat) != (at_ p1 g2.toNat))) (bne_iff_ne.mpr c6) ?_
          refine wp_seq ?_
          refine wp_region_lit ?_
          refine ov hr (.bool false) (by kernel_rfl) ?_; clear hr a; intro a hr
          refine wpList_nil ?_
          refine then_normal ?_
          refine wp_ret ?_
          refine blk_ret ?_
          refine then_ret ?_
          refine then_ret ?_
          refine blk_ret ?_
          refine then_ret ?_
          refine end_ret1 (v := .bool false) rfl hr (by kernel_rfl) ?_
          replace H := ej1 H; subst H
          exact ⟨rfl, h⟩
      ·
        replace H := ifF c3 H
        refine cond_ff hr (b := (decide (g2 < ((p0.length : Nat) : Int)))) (decide_eq_false c3) ?_
        refine wp_exit ?_
        refine then_exit ?_
        refine then_exit ?_
        refine blk_here ?_
        refine then_normal ?_
        refine wp_seq ?_
        refine wp_region_lit ?_
        refine ov hr (.bool true) (by kernel_rfl) ?_; clear hr a; intro a hr
        refine wpList_nil ?_
        refine then_normal ?_
        refine wp_ret ?_
        refine end_ret1 (v := .bool true) rfl hr (by kernel_rfl) ?_
        replace H := ej1 H; subst H
        exact ⟨rfl, h⟩
  ·
    replace H := ifF c1 H
    refine cond_tt hr (b := (((p0.length : Nat) : Int) != ((p1.length : Nat) : Int))) (bne_iff_ne.mpr c1) ?_
    refine wp_seq ?_
    refine wp_region_lit ?_
    refine ov hr (.bool false) (by kernel_rfl) ?_; clear hr a; intro a hr
    refine wpList_nil ?_
    refine then_normal ?_
    refine wp_ret ?_
    refine then_ret ?_
    refine end_ret1 (v := .bool false) rfl hr (by kernel_rfl) ?_
    replace H := ej1 H; subst H
    exact ⟨rfl, h⟩


end Go.Proofs.Ytnghahgfcaolbaa.Mo
