/- what the functions compute, as plain Lean functions, and that they do -/
import Derived.Test.YtacgigkonoegiaaMp1
namespace Go.Proofs.Ytacgigkonoegiaa.Mo
open Go Go.RowKit Go.Proofs.Ytacgigkonoegiaa.SL Go.Proofs.Ytacgigkonoegiaa.GX
set_option linter.unusedVariables false
set_option linter.unusedSimpArgs false

/-- (*plunder/cells.Arena).Log -/
def cells_Arena_Log_nil : Option ((List T_api_Access)) :=
  some ([] : List T_api_Access)
set_option maxRecDepth 100000 in
set_option maxHeartbeats 4000000 in
theorem cells_Arena_Log_nil_ok {z w : World} {L : List HProp}  {r0 : List T_api_Access} (H : cells_Arena_Log_nil = some r0) (h : Fit z (sepL (L)) w)  :
    Calls Try.prog 70 #[.pointer none] w fun e w => ∃ car0_1 : Option Addr, e = .returned (.slice car0_1 r0.length r0.length) ∧ Fit z (sepL (ro90 car0_1 r0.length r0 :: L)) w := by
  unfold cells_Arena_Log_nil at H
  refine enter Try.func70 rfl 19 rfl rfl [(0, .pointer none)] ⟨rfl, trivial⟩ ?_
  intro j a hr
  refine wp_seq ?_
  refine wp_region_lit ?_
  refine ov hr (.slice none 0 0) (by kernel_rfl) ?_; clear hr a; intro a hr
  refine wpList_nil ?_
  refine then_normal ?_
  refine wp_seq ?_
  refine wp_seq ?_
  refine wp_region_lit ?_
  refine ovs [4, 5] [.pointer none, .bool true] hr ⟨rfl, rfl⟩ (by kernel_rfl) ?_; clear hr a; intro a hr
  refine wpList_nil ?_
  refine then_normal ?_
  refine cond_tt hr (b := true) rfl ?_
  refine wp_seq ?_
  refine wp_region_lit ?_
  refine ov hr (.slice none 0 0) (by kernel_rfl) ?_; clear hr a; intro a hr
  refine wpList_nil ?_
  refine then_normal ?_
  refine wp_ret ?_
  refine then_ret ?_
  refine end_ret1 (v := .slice none 0 0) rfl hr (by kernel_rfl) ?_
  replace h : Fit z (sepL (rowOf 90 6 enc_T_api_Access (.slice none 0 0) ([] : List T_api_Access) :: L)) _ := h.row_nil
  replace H := ej1 H; subst H
  exact ⟨none, rfl, h⟩

def cells_Play_l1 (K : Nat) (p1 : List T_api_Act) : Nat → T_cells_Arena → (List T_api_Effect) → Int → Option (T_cells_Arena × (List T_api_Effect))
  | 0, _, _, _ => none
  | k1 + 1, S30, l37, g38 => (if g38 < ((p1.length : Nat) : Int) then if inr_ g38 p1.length then ob2 (cells_Arena_act S30 (at_ p1 g38.toNat)) (fun r42 S43 => if (l37.length + 1) * 24 ≤ 140737488355328 then (cells_Play_l1 K p1 k1 S43 (l37 ++ [r42]) (wi (g38 + (1 : Int)))) else none) else none else some (S30, l37))
def cells_Play_l2 (K : Nat) (p1 : List T_api_Act) : Nat → (List T_api_Effect) → Int → Option ((List T_api_Effect))
  | 0, _, _ => none
  | k2 + 1, l70, g71 => (if g71 < ((p1.length : Nat) : Int) then if inr_ g71 p1.length then ob1 (cells_Arena_act_nil (at_ p1 g71.toNat)) (fun r75 => if (l70.length + 1) * 24 ≤ 140737488355328 then (cells_Play_l2 K p1 k2 (l70 ++ [r75]) (wi (g71 + (1 : Int)))) else none) else none else some l70)
/-- plunder/cells.Play -/
def cells_Play (K : Nat) (p0 : Int) (p1 : List T_api_Act) : Option (T_api_CellRun × Int) :=
  ob2 (cells_New p0) (fun r2 r3 => (match r2 with | some S5 => (if r3 = (0 : Int) then (if ((p1.length : Nat) : Int) > (4096 : Int) then some ((⟨([] : List T_api_Effect), ([] : List Int), ([] : List T_api_Access)⟩ : T_api_CellRun), 2) else ob1 (cells_Arena_Watch S5 true) (fun S13 => ob2 ((cells_Play_l1 K p1 K S13 ([] : List T_api_Effect) 0)) (fun S20 l27 => ob1 (cells_Arena_Cells S20) (fun r53 => ob1 (cells_Arena_Log S20) (fun r56 => some ((⟨l27, r53, r56⟩ : T_api_CellRun), 0)))))) else some ((⟨([] : List T_api_Effect), ([] : List Int), ([] : List T_api_Access)⟩ : T_api_CellRun), r3)) | none => (if r3 = (0 : Int) then (if ((p1.length : Nat) : Int) > (4096 : Int) then some ((⟨([] : List T_api_Effect), ([] : List Int), ([] : List T_api_Access)⟩ : T_api_CellRun), 2) else ob0 (cells_Arena_Watch_nil true) (ob1 ((cells_Play_l2 K p1 K ([] : List T_api_Effect) 0)) (fun l65 => ob1 (cells_Arena_Cells_nil) (fun r81 => ob1 (cells_Arena_Log_nil) (fun r84 => some ((⟨l65, r81, r84⟩ : T_api_CellRun), 0)))))) else some ((⟨([] : List T_api_Effect), ([] : List Int), ([] : List T_api_Access)⟩ : T_api_CellRun), r3))))
set_option maxRecDepth 100000 in
set_option maxHeartbeats 4000000 in
theorem cells_Play_ok {z w : World} {L : List HProp} {K : Nat} {p0 : Int} {p1 : List T_api_Act} {va1 : Option Addr} {vc1 : Nat} {r0 : T_api_CellRun} {r1 : Int} (H : cells_Play K p0 p1 = some (r0, r1)) (h : Fit z (sepL (L)) w) (hv1 : RdRow L 5 enc_T_api_Act va1 p1) :
    Calls Try.prog 38 #[.int .i64 p0, .slice va1 p1.length vc1] w fun e w => ∃ car0_1 : Option Addr, ∃ ccr0_2 : Nat, ∃ car0_3 : Option Addr, ∃ car0_5 : Option Addr, e = .returned (.tuple #[.agg #[.slice car0_1 r0.Effects.length ccr0_2, .slice car0_3 r0.Cells.length r0.Cells.length, .slice car0_5 r0.Log.length r0.Log.length], .int .i64 r1]) ∧ Fit z (sepL (ro39 car0_1 ccr0_2 r0.Effects :: ro2 car0_3 r0.Cells.length r0.Cells :: ro90 car0_5 r0.Log.length r0.Log :: L)) w := by
  unfold cells_Play at H
  refine enter Try.func38 rfl 48 rfl rfl [(0, .int .i64 p0), (1, .slice va1 p1.length vc1)] ⟨rfl, rfl, trivial⟩ ?_
  intro j a hr
  refine wp_seq ?_
  refine wp_region_lit ?_
  refine op_new (wn rfl) rfl rfl hr h (vf := fun b => .pointer (some ⟨b, 0, none⟩)) (cs := #[.slice none 0 0, .slice none 0 0, .slice none 0 0]) (T := 70) (by kernel_rfl) ?_; clear h hr a; intro b1 w a h hr
  refine ov hr (.int .i64 0) (by kernel_rfl) ?_; clear hr a; intro a hr
  refine wpList_nil ?_
  refine then_normal ?_
  refine wp_seq ?_
  refine wp_region_lit ?_
  replace H := bd2 H; obtain ⟨r2, r3, e4, H⟩ := H
  refine ov hr (.int .i64 p0) (by kernel_rfl) ?_; clear hr a; intro a hr
  cases r2 with
  | some S5 =>
    have hc := cells_New_ok0 (H := e4) (h := h)
    refine op_call (wn rfl) rfl rfl hr (f := 19) (args := #[.int .i64 p0]) (by kernel_rfl) hc ?_; clear hc h
    rintro _ w ⟨Bn6, car7, ccr8, car9, ccr10, rfl, h⟩; refine ⟨_, rfl, ?_⟩
    clear hr a; intro a hr
    refine ovs [11, 14, 15, 6, 7] [.tuple #[.pointer (some ⟨Bn6, 0, none⟩), .int .i64 r3], .pointer (some ⟨Bn6, 0, none⟩), .int .i64 r3, .pointer (some ⟨Bn6, 0, none⟩), .int .i64 r3] hr ⟨rfl, rfl⟩ (by kernel_rfl) ?_; clear hr a; intro a hr
    refine wpList_nil ?_
    refine then_normal ?_
    refine wp_seq ?_
    refine wp_seq ?_
    refine wp_region_lit ?_
    refine ovs [16, 17] [.int .i64 r3, .bool (r3 != (0 : Int))] hr ⟨rfl, rfl⟩ (by kernel_rfl) ?_; clear hr a; intro a hr
    refine wpList_nil ?_
    refine then_normal ?_
    by_cases c11 : r3 = (0 : Int)
    ·
      replace H := ifT c11 H
      refine cond_ff hr (b := (r3 != (0 : Int))) (bne_eq_false_iff_eq.mpr c11) ?_
      refine wp_skip ?_
      refine then_normal ?_
      refine wp_seq ?_
      refine wp_seq ?_
      refine wp_region_lit ?_
      refine ovs [20, 21, 22] [.slice va1 p1.length vc1, .int .i64 ((p1.length : Nat) : Int), .bool (decide (((p1.length : Nat) : Int) > (4096 : Int)))] hr ⟨rfl, rfl⟩ (by kernel_rfl) ?_; clear hr a; intro a hr
      refine wpList_nil ?_
      refine then_normal ?_
      by_cases c12 : ((p1.length : Nat) : Int) > (4096 : Int)
      ·
        replace H := ifT c12 H
        refine cond_tt hr (b := (decide (((p1.length : Nat) : Int) > (4096 : Int)))) (decide_eq_true c12) ?_
        refine wp_seq ?_
        refine wp_region_lit ?_
        refine ov hr (.agg #[.slice none 0 0, .slice none 0 0, .slice none 0 0]) (by kernel_rfl) ?_; clear hr a; intro a hr
        replace h : Fit z (sepL (pts b1 (.cells #[.slice none 0 0, .slice none 0 0, .slice none 0 0] 70) :: ob96 Bn6 S5 car7 ccr8 car9 ccr10 :: ro2 car7 ccr8 S5.cell :: ro90 car9 ccr10 S5.log :: L)) _ := h.sel 4 [3, 0, 1, 2] (by kernel_rfl) (by kernel_rfl)
        refine op_stores (wn rfl) rfl hr rfl (by kernel_rfl) (by kernel_rfl) (vs := [.slice none 0 0, .slice none 0 0, .slice none 0 0]) rfl rfl (by kernel_rfl) h (i := 0) (cs' := #[.slice none 0 0, .slice none 0 0, .slice none 0 0]) rfl ?_; clear h; intro w h
        refine ov hr (.int .i64 2) (by kernel_rfl) ?_; clear hr a; intro a hr
        refine wpList_nil ?_
        replace h : Fit z (sepL (pts b1 (.cells #[.slice none 0 0, .slice none 0 0, .slice none 0 0] 70) :: ob96 Bn6 S5 car7 ccr8 car9 ccr10 :: ro2 car7 ccr8 S5.cell :: ro90 car9 ccr10 S5.log :: L)) _ := h
        refine then_normal ?_
        refine wp_ret ?_
        refine then_ret ?_
        refine end_retCT (cs := [.slice none 0 0, .slice none 0 0, .slice none 0 0]) (v := .int .i64 2) rfl hr (by kernel_rfl) (by kernel_rfl) (by kernel_rfl) (by kernel_rfl) ⟨h.cell 0 rfl, h.cell 1 rfl, h.cell 2 rfl, trivial⟩ ?_
        replace h : Fit z (sepL (rowOf 39 3 enc_T_api_Effect (.slice none 0 0) ([] : List T_api_Effect) :: pts b1 (.cells #[.slice none 0 0, .slice none 0 0, .slice none 0 0] 70) :: ob96 Bn6 S5 car7 ccr8 car9 ccr10 :: ro2 car7 ccr8 S5.cell :: ro90 car9 ccr10 S5.log :: L)) _ := h.row_nil
        replace h : Fit z (sepL (rowOf 2 1 encZ_i64 (.slice none 0 0) ([] : List Int) :: rowOf 39 3 enc_T_api_Effect (.slice none 0 0) ([] : List T_api_Effect) :: pts b1 (.cells #[.slice none 0 0, .slice none 0 0, .slice none 0 0] 70) :: ob96 Bn6 S5 car7 ccr8 car9 ccr10 :: ro2 car7 ccr8 S5.cell :: ro90 car9 ccr10 S5.log :: L)) _ := h.row_nil
        replace h : Fit z (sepL (rowOf 90 6 enc_T_api_Access (.slice none 0 0) ([] : List T_api_Access) :: rowOf 2 1 encZ_i64 (.slice none 0 0) ([] : List Int) :: rowOf 39 3 enc_T_api_Effect (.slice none 0 0) ([] : List T_api_Effect) :: pts b1 (.cells #[.slice none 0 0, .slice none 0 0, .slice none 0 0] 70) :: ob96 Bn6 S5 car7 ccr8 car9 ccr10 :: ro2 car7 ccr8 S5.cell :: ro90 car9 ccr10 S5.log :: L)) _ := h.row_nil
        replace h : Fit z (sepL (rowOf 39 3 enc_T_api_Effect (.slice none 0 0) ([] : List T_api_Effect) :: rowOf 2 1 encZ_i64 (.slice none 0 0) ([] : List Int) :: rowOf 90 6 enc_T_api_Access (.slice none 0 0) ([] : List T_api_Access) :: L)) _ := h.sel 7 [2, 1, 0] (by kernel_rfl) (by kernel_rfl)
        replace H := ej2 H; obtain ⟨rfl, rfl⟩ := H
        exact ⟨none, 0, none, none, rfl, h⟩
      ·
        replace H := ifF c12 H
        refine cond_ff hr (b := (decide (((p1.length : Nat) : Int) > (4096 : Int)))) (decide_eq_false c12) ?_
        refine wp_skip ?_
        refine then_normal ?_
        refine wp_seq ?_
        refine wp_region_lit ?_
        replace H := bd1 H; obtain ⟨S13, e14, H⟩ := H
        refine ov hr (.pointer (some ⟨Bn6, 0, none⟩)) (by kernel_rfl) ?_; clear hr a; intro a hr
        have hc := cells_Arena_Watch_ok (H := e14) (h := h)
        refine op_call (wn rfl) rfl rfl hr (f := 88) (args := #[.pointer (some ⟨Bn6, 0, none⟩), .bool true]) (by kernel_rfl) hc ?_; clear hc h
        rintro _ w ⟨caq15, ccq16, caq17, ccq18, rfl, h⟩; refine ⟨_, rfl, ?_⟩
        clear hr a; intro a hr
        refine wpList_nil ?_
        refine then_normal ?_
        refine wp_seq ?_
        refine wp_region_lit ?_
        refine op_new (wn rfl) rfl rfl hr h (vf := fun b => .pointer (some ⟨b, 0, none⟩)) (cs := #[.slice none 0 0, .slice none 0 0, .slice none 0 0]) (T := 70) (by kernel_rfl) ?_; clear h hr a; intro b19 w a h hr
        refine wpList_nil ?_
        refine then_normal ?_
        replace H := kd2 H; obtain ⟨o29, H, hK28⟩ := H
        refine cut_rule (β := Unit) (fun _ a w => ∃ ca21 : Option Addr, ∃ cc22 : Nat, ∃ ca23 : Option Addr, ∃ cc24 : Nat, ∃ ca25 : Option Addr, ∃ cc26 : Nat, ∃ S20 : T_cells_Arena, ∃ l27 : List T_api_Effect, (S20, l27) = o29 ∧ ∃ j, Rep 48 (lk [(4, .pointer (some ⟨b1, 0, none⟩)), (6, .pointer (some ⟨Bn6, 0, none⟩)), (8, .pointer (some ⟨b19, 0, none⟩))] j) a ∧ Fit z (sepL (pts b1 (.cells #[.slice none 0 0, .slice none 0 0, .slice none 0 0] 70) :: ob96 Bn6 S20 ca21 cc22 ca23 cc24 :: ro2 ca21 cc22 S20.cell :: ro90 ca23 cc24 S20.log :: pts b19 (.cells #[.slice ca25 l27.length cc26, .slice none 0 0, .slice none 0 0] 70) :: ro39 ca25 cc26 l27 :: L)) w) ?_ ?_
        ·
          refine wp_seq ?_
          refine wp_region_lit ?_
          refine ovs [26, 27, 28] [.slice va1 p1.length vc1, .int .i64 ((p1.length : Nat) : Int), .int .i64 0] hr ⟨rfl, rfl⟩ (by kernel_rfl) ?_; clear hr a; intro a hr
          refine wpList_nil ?_
          refine then_normal ?_
          refine wp_block ?_
          replace hr := hr.fold2 [(4, .pointer (some ⟨b1, 0, none⟩)), (6, .pointer (some ⟨Bn6, 0, none⟩)), (8, .pointer (some ⟨b19, 0, none⟩)), (26, .slice va1 p1.length vc1), (27, .int .i64 ((p1.length : Nat) : Int)), (28, .int .i64 0)] (by kernel_rfl); obtain ⟨j, hr⟩ := hr
          replace h : Fit z (sepL (rowOf 39 3 enc_T_api_Effect (.slice none 0 0) ([] : List T_api_Effect) :: pts b19 (.cells #[.slice none 0 0, .slice none 0 0, .slice none 0 0] 70) :: ob96 Bn6 S13 caq15 ccq16 caq17 ccq18 :: ro2 caq15 ccq16 S13.cell :: ro90 caq17 ccq18 S13.log :: pts b1 (.cells #[.slice none 0 0, .slice none 0 0, .slice none 0 0] 70) :: L)) _ := h.row_nil
          replace h : Fit z (sepL (pts b1 (.cells #[.slice none 0 0, .slice none 0 0, .slice none 0 0] 70) :: ob96 Bn6 S13 caq15 ccq16 caq17 ccq18 :: ro2 caq15 ccq16 S13.cell :: ro90 caq17 ccq18 S13.log :: pts b19 (.cells #[.slice none (([] : List T_api_Effect).length) 0, .slice none 0 0, .slice none 0 0] 70) :: rowOf 39 3 enc_T_api_Effect (.slice none (([] : List T_api_Effect).length) 0) ([] : List T_api_Effect) :: L)) _ := h.sel 6 [5, 2, 3, 4, 1, 0] (by kernel_rfl) (by kernel_rfl)
          refine loop_rule (β := Nat) id (fun m a w => ∃ ca31 : Option Addr, ∃ cc32 : Nat, ∃ ca33 : Option Addr, ∃ cc34 : Nat, ∃ ca35 : Option Addr, ∃ cc36 : Nat, ∃ S30 : T_cells_Arena, ∃ l37 : List T_api_Effect, ∃ g38 : Int, (cells_Play_l1 K p1 m S30 l37 g38) = some o29 ∧ ∃ j, Rep 48 (lk [(4, .pointer (some ⟨b1, 0, none⟩)), (6, .pointer (some ⟨Bn6, 0, none⟩)), (8, .pointer (some ⟨b19, 0, none⟩)), (26, .slice va1 p1.length vc1), (27, .int .i64 ((p1.length : Nat) : Int)), (28, .int .i64 g38)] j) a ∧ Fit z (sepL (pts b1 (.cells #[.slice none 0 0, .slice none 0 0, .slice none 0 0] 70) :: ob96 Bn6 S30 ca31 cc32 ca33 cc34 :: ro2 ca31 cc32 S30.cell :: ro90 ca33 cc34 S30.log :: pts b19 (.cells #[.slice ca35 l37.length cc36, .slice none 0 0, .slice none 0 0] 70) :: ro39 ca35 cc36 l37 :: L)) w) K ⟨caq15, ccq16, caq17, ccq18, none, 0, S13, ([] : List T_api_Effect), 0, H, j, hr, h⟩ ?_
          clear h hr a H; rintro k1 a w ⟨ca31, cc32, ca33, cc34, ca35, cc36, S30, l37, g38, H, j, hr, h⟩
          cases k1 with
          | zero => exact absurd H (by simp [cells_Play_l1])
          | succ k1 =>
            rw [cells_Play_l1] at H
            refine wp_seq ?_
            refine wp_region_lit ?_
            refine ov hr (.bool (decide (g38 < ((p1.length : Nat) : Int)))) (by kernel_rfl) ?_; clear hr a; intro a hr
            refine wpList_nil ?_
            refine then_normal ?_
            refine wp_seq ?_
            by_cases c39 : g38 < ((p1.length : Nat) : Int)
            ·
              replace H := ifT c39 H
              refine cond_tt hr (b := (decide (g38 < ((p1.length : Nat) : Int)))) (decide_eq_true c39) ?_
              refine wp_skip ?_
              refine then_normal ?_
              refine wp_seq ?_
              refine wp_block ?_
              refine wp_seq ?_
              refine wp_region_lit ?_
              replace H := gd H; obtain ⟨c40, H⟩ := H
              refine op_val (wn rfl) rfl rfl hr (v := .pointer (some ⟨blk va1, offs va1 + g38.toNat * 5, none⟩)) (ri_rd (k := .i64) (E := 57) (cc := vc1) rfl (by kernel_rfl) (by kernel_rfl) rfl (by kernel_rfl) (by kernel_rfl) hv1 c40) ?_; clear hr a; intro a hr
              refine op_val (wn rfl) rfl rfl hr (v := .agg #[.int .i64 ((at_ p1 g38.toNat).Who), .int .i64 ((at_ p1 g38.toNat).Kind), .int .i64 ((at_ p1 g38.toNat).Addr), .int .i64 ((at_ p1 g38.toNat).A), .int .i64 ((at_ p1 g38.toNat).B)]) (rlm (cs := [.int .i64 ((at_ p1 g38.toNat).Who), .int .i64 ((at_ p1 g38.toNat).Kind), .int .i64 ((at_ p1 g38.toNat).Addr), .int .i64 ((at_ p1 g38.toNat).A), .int .i64 ((at_ p1 g38.toNat).B)]) rfl (by kernel_rfl) (by kernel_rfl) (by kernel_rfl) ⟨hv1.cell c40 (h.dn 6) 0 rfl, hv1.cell c40 (h.dn 6) 1 rfl, hv1.cell c40 (h.dn 6) 2 rfl, hv1.cell c40 (h.dn 6) 3 rfl, hv1.cell c40 (h.dn 6) 4 rfl, trivial⟩) ?_; clear hr a; intro a hr
              refine op_new (wn rfl) rfl rfl hr h (vf := fun b => .pointer (some ⟨b, 0, none⟩)) (cs := #[.int .i64 0, .int .i64 0, .int .i64 0, .int .i64 0, .int .i64 0]) (T := 57) (by kernel_rfl) ?_; clear h hr a; intro b41 w a h hr
              refine op_stores (wn rfl) rfl hr rfl (by kernel_rfl) (by kernel_rfl) (vs := [.int .i64 ((at_ p1 g38.toNat).Who), .int .i64 ((at_ p1 g38.toNat).Kind), .int .i64 ((at_ p1 g38.toNat).Addr), .int .i64 ((at_ p1 g38.toNat).A), .int .i64 ((at_ p1 g38.toNat).B)]) rfl rfl (by kernel_rfl) h (i := 0) (cs' := #[.int .i64 ((at_ p1 g38.toNat).Who), .int .i64 ((at_ p1 g38.toNat).Kind), .int .i64 ((at_ p1 g38.toNat).Addr), .int .i64 ((at_ p1 g38.toNat).A), .int .i64 ((at_ p1 g38.toNat).B)]) rfl ?_; clear h; intro w h
              refine wpList_nil ?_
              replace h : Fit z (sepL (ob57 b41 (at_ p1 g38.toNat) :: pts b1 (.cells #[.slice none 0 0, .slice none 0 0, .slice none 0 0] 70) :: ob96 Bn6 S30 ca31 cc32 ca33 cc34 :: ro2 ca31 cc32 S30.cell :: ro90 ca33 cc34 S30.log :: pts b19 (.cells #[.slice ca35 l37.length cc36, .slice none 0 0, .slice none 0 0] 70) :: ro39 ca35 cc36 l37 :: L)) _ := h
              refine then_normal ?_
              replace H := bd2 H; obtain ⟨r42, S43, e44, H⟩ := H
              replace H := gd H; obtain ⟨c52, H⟩ := H
              refine reg_E (fun w => heldC w b19 0 [.slice ca35 l37.length cc36] ∧ heldC w b41 0 [.int .i64 ((at_ p1 g38.toNat).Who), .int .i64 ((at_ p1 g38.toNat).Kind), .int .i64 ((at_ p1 g38.toNat).Addr), .int .i64 ((at_ p1 g38.toNat).A), .int .i64 ((at_ p1 g38.toNat).B)] ∧ True) [0, 4] h (by kernel_rfl) ?_; intro w h
              change wpAnyE _ _ _ _ _ _ 9 (Array.replicate 9 false) a w
              have hgo : ∀ w w', CellsGo w w' → (heldC w b19 0 [.slice ca35 l37.length cc36] ∧ heldC w b41 0 [.int .i64 ((at_ p1 g38.toNat).Who), .int .i64 ((at_ p1 g38.toNat).Kind), .int .i64 ((at_ p1 g38.toNat).Addr), .int .i64 ((at_ p1 g38.toNat).A), .int .i64 ((at_ p1 g38.toNat).B)] ∧ True) → heldC w' b19 0 [.slice ca35 l37.length cc36] ∧ heldC w' b41 0 [.int .i64 ((at_ p1 g38.toNat).Who), .int .i64 ((at_ p1 g38.toNat).Kind), .int .i64 ((at_ p1 g38.toNat).Addr), .int .i64 ((at_ p1 g38.toNat).A), .int .i64 ((at_ p1 g38.toNat).B)] ∧ True := fun w w' g hD => ⟨heldC_go _ _ _ _ _ g hD.1, heldC_go _ _ _ _ _ g hD.2.1, trivial⟩
              refine evD hgo ⟨⟨(h.pick 5).cell 0 rfl, trivial⟩, ⟨h.cell 0 rfl, h.cell 1 rfl, h.cell 2 rfl, h.cell 3 rfl, h.cell 4 rfl, trivial⟩, trivial⟩ 8 0 rfl (by kernel_rfl) (wn rfl) hr (.pointer (some ⟨b19, 0, none⟩)) (fun w => by kernel_rfl) ?_; clear hr a; intro a hr
              refine ev 7 2 rfl (by kernel_rfl) (wn rfl) hr (.pointer (some ⟨Bn6, 0, none⟩)) (fun w => by kernel_rfl) ?_; clear hr a; intro a hr
              refine el [0, 4] (b := b19) (off := 0) (cs := [.slice ca35 l37.length cc36]) (fun _ hk => ⟨hk, fun w hD => hD.1⟩) 6 1 rfl (by kernel_rfl) (wn rfl) hr (.slice ca35 l37.length cc36) ⟨(h.pick 5).cell 0 rfl, trivial⟩ (fun w hc => rl rfl (by kernel_rfl) (by kernel_rfl) hc.1) ?_; clear hr a; intro a hr
              refine el [0, 4] (b := b41) (off := 0) (cs := [.int .i64 ((at_ p1 g38.toNat).Who), .int .i64 ((at_ p1 g38.toNat).Kind), .int .i64 ((at_ p1 g38.toNat).Addr), .int .i64 ((at_ p1 g38.toNat).A), .int .i64 ((at_ p1 g38.toNat).B)]) (fun _ hk => ⟨hk, fun w hD => hD.2.1⟩) 5 3 rfl (by kernel_rfl) (wn rfl) hr (.agg #[.int .i64 ((at_ p1 g38.toNat).Who), .int .i64 ((at_ p1 g38.toNat).Kind), .int .i64 ((at_ p1 g38.toNat).Addr), .int .i64 ((at_ p1 g38.toNat).A), .int .i64 ((at_ p1 g38.toNat).B)]) ⟨h.cell 0 rfl, h.cell 1 rfl, h.cell 2 rfl, h.cell 3 rfl, h.cell 4 rfl, trivial⟩ (fun w hc => rlm (cs := [.int .i64 ((at_ p1 g38.toNat).Who), .int .i64 ((at_ p1 g38.toNat).Kind), .int .i64 ((at_ p1 g38.toNat).Addr), .int .i64 ((at_ p1 g38.toNat).A), .int .i64 ((at_ p1 g38.toNat).B)]) rfl (by kernel_rfl) (by kernel_rfl) (by kernel_rfl) hc) ?_; clear hr a; intro a hr
              refine e_one (fuel := 4) (i := 4) (by kernel_rfl) rfl ?_
              replace h : Fit z (sepL (ob96 Bn6 S30 ca31 cc32 ca33 cc34 :: ro2 ca31 cc32 S30.cell :: ro90 ca33 cc34 S30.log :: ob57 b41 (at_ p1 g38.toNat) :: pts b1 (.cells #[.slice none 0 0, .slice none 0 0, .slice none 0 0] 70) :: pts b19 (.cells #[.slice ca35 l37.length cc36, .slice none 0 0, .slice none 0 0] 70) :: ro39 ca35 cc36 l37 :: L)) _ := h.sel 7 [2, 3, 4, 0, 1, 5, 6] (by kernel_rfl) (by kernel_rfl)
              have hc := cells_Arena_act_ok (H := e44) (h := h)
              refine op_call (wn rfl) rfl rfl hr (f := 89) (args := #[.pointer (some ⟨Bn6, 0, none⟩), .agg #[.int .i64 ((at_ p1 g38.toNat).Who), .int .i64 ((at_ p1 g38.toNat).Kind), .int .i64 ((at_ p1 g38.toNat).Addr), .int .i64 ((at_ p1 g38.toNat).A), .int .i64 ((at_ p1 g38.toNat).B)]]) (by kernel_rfl) hc ?_; clear hc h
              rintro _ w ⟨caq45, ccq46, caq47, ccq48, rfl, h⟩; refine ⟨_, rfl, ?_⟩
              clear hr a; intro a hr
              refine wpList_nil ?_; refine then_normal ?_
              refine ⟨fun _ => ⟨⟨(h.pick 5).cell 0 rfl, trivial⟩, ⟨(h.pick 3).cell 0 rfl, (h.pick 3).cell 1 rfl, (h.pick 3).cell 2 rfl, (h.pick 3).cell 3 rfl, (h.pick 3).cell 4 rfl, trivial⟩, trivial⟩, ?_⟩
              refine e_one (fuel := 3) (i := 5) (by kernel_rfl) rfl ?_
              refine op_new (wn rfl) rfl rfl hr h (vf := fun b => .slice (some ⟨b, 0, none⟩) 1 1) (cs := #[.int .i64 r42.V, .bool r42.OK, .int .i64 r42.Err]) (T := 39) (by kernel_rfl) ?_; clear h hr a; intro b49 w a h hr
              refine wpList_nil ?_; refine then_normal ?_
              refine ⟨fun hE => absurd hE (by decide), ?_⟩
              refine e_one (fuel := 2) (i := 6) (by kernel_rfl) rfl ?_
              replace h : Fit z (sepL (ro39 ca35 cc36 l37 :: ob39 b49 r42 :: ob96 Bn6 S43 caq45 ccq46 caq47 ccq48 :: ro2 caq45 ccq46 S43.cell :: ro90 caq47 ccq48 S43.log :: ob57 b41 (at_ p1 g38.toNat) :: pts b1 (.cells #[.slice none 0 0, .slice none 0 0, .slice none 0 0] 70) :: pts b19 (.cells #[.slice ca35 l37.length cc36, .slice none 0 0, .slice none 0 0] 70) :: L)) _ := h.sel 8 [7, 0, 1, 2, 3, 4, 5, 6] (by kernel_rfl) (by kernel_rfl)
              refine op_append (n0 := l37.length) (c := 1) (bytes := 24) (wn rfl) rfl rfl hr rfl (by kernel_rfl) (by kernel_rfl) enc_T_api_Effect_ok (E := 39) (xs := l37) (by kernel_rfl) (by kernel_rfl) h (news := [r42]) (m := 1) rfl ((h.pick 1).news rfl) c52 rfl ?_; clear h hr a; intro ca50 cc51 w a h hr
              refine wpList_nil ?_; refine then_normal ?_
              replace h : Fit z (sepL (ro39 ca50 cc51 (l37 ++ [r42]) :: ob39 b49 r42 :: ob96 Bn6 S43 caq45 ccq46 caq47 ccq48 :: ro2 caq45 ccq46 S43.cell :: ro90 caq47 ccq48 S43.log :: ob57 b41 (at_ p1 g38.toNat) :: pts b1 (.cells #[.slice none 0 0, .slice none 0 0, .slice none 0 0] 70) :: pts b19 (.cells #[.slice ca35 l37.length cc36, .slice none 0 0, .slice none 0 0] 70) :: L)) _ := h
              refine ⟨fun hE => absurd hE (by decide), ?_⟩
              refine ev 1 7 rfl (by kernel_rfl) (wn rfl) hr (.pointer (some ⟨b19, 0, none⟩)) (fun w => by kernel_rfl) ?_; clear hr a; intro a hr
              refine e_one (fuel := 0) (i := 8) (by kernel_rfl) rfl ?_
              replace h : Fit z (sepL (pts b19 (.cells #[.slice ca35 l37.length cc36, .slice none 0 0, .slice none 0 0] 70) :: ro39 ca50 cc51 (l37 ++ [r42]) :: ob39 b49 r42 :: ob96 Bn6 S43 caq45 ccq46 caq47 ccq48 :: ro2 caq45 ccq46 S43.cell :: ro90 caq47 ccq48 S43.log :: ob57 b41 (at_ p1 g38.toNat) :: pts b1 (.cells #[.slice none 0 0, .slice none 0 0, .slice none 0 0] 70) :: L)) _ := h.sel 8 [7, 0, 1, 2, 3, 4, 5, 6] (by kernel_rfl) (by kernel_rfl)
              refine op_store (wn rfl) rfl hr rfl (by kernel_rfl) (by kernel_rfl) (v := .slice ca50 ((l37 ++ [r42]).length) cc51) rfl rfl (by kernel_rfl) h (i := 0) rfl ?_; clear h; intro w h
              refine wpList_nil ?_; refine then_normal ?_
              replace h : Fit z (sepL (pts b19 (.cells #[.slice ca50 ((l37 ++ [r42]).length) cc51, .slice none 0 0, .slice none 0 0] 70) :: ro39 ca50 cc51 (l37 ++ [r42]) :: ob39 b49 r42 :: ob96 Bn6 S43 caq45 ccq46 caq47 ccq48 :: ro2 caq45 ccq46 S43.cell :: ro90 caq47 ccq48 S43.log :: ob57 b41 (at_ p1 g38.toNat) :: pts b1 (.cells #[.slice none 0 0, .slice none 0 0, .slice none 0 0] 70) :: L)) _ := h
              refine ⟨fun hE => absurd hE (by decide), ?_⟩
              refine e_end (by kernel_rfl) ?_
              refine blk_normal ?_
              refine then_normal ?_
              refine wp_region_lit ?_
              refine ovs [40, 28] [.int .i64 (wi (g38 + (1 : Int))), .int .i64 (wi (g38 + (1 : Int)))] hr ⟨rfl, rfl⟩ (by kernel_rfl) ?_; clear hr a; intro a hr
              refine wpList_nil ?_
              refine then_normal ?_
              replace hr := hr.fold2 [(4, .pointer (some ⟨b1, 0, none⟩)), (6, .pointer (some ⟨Bn6, 0, none⟩)), (8, .pointer (some ⟨b19, 0, none⟩)), (26, .slice va1 p1.length vc1), (27, .int .i64 ((p1.length : Nat) : Int)), (28, .int .i64 (wi (g38 + (1 : Int))))] (by kernel_rfl); obtain ⟨j, hr⟩ := hr
              replace h : Fit z (sepL (pts b1 (.cells #[.slice none 0 0, .slice none 0 0, .slice none 0 0] 70) :: ob96 Bn6 S43 caq45 ccq46 caq47 ccq48 :: ro2 caq45 ccq46 S43.cell :: ro90 caq47 ccq48 S43.log :: pts b19 (.cells #[.slice ca50 ((l37 ++ [r42]).length) cc51, .slice none 0 0, .slice none 0 0] 70) :: ro39 ca50 cc51 (l37 ++ [r42]) :: L)) _ := h.sel 8 [7, 3, 4, 5, 0, 1] (by kernel_rfl) (by kernel_rfl)
              exact ⟨_, ⟨caq45, ccq46, caq47, ccq48, ca50, cc51, S43, (l37 ++ [r42]), (wi (g38 + (1 : Int))), H, j, hr, h⟩, Nat.lt_succ_self _⟩
            ·
              replace H := ifF c39 H
              refine cond_ff hr (b := (decide (g38 < ((p1.length : Nat) : Int)))) (decide_eq_false c39) ?_
              refine wp_exit ?_
              refine then_exit ?_
              refine then_exit ?_
              refine blk_here ?_
              refine then_normal ?_
              replace hr := hr.fold2 [(4, .pointer (some ⟨b1, 0, none⟩)), (6, .pointer (some ⟨Bn6, 0, none⟩)), (8, .pointer (some ⟨b19, 0, none⟩))] (by kernel_rfl); obtain ⟨j, hr⟩ := hr
              exact ⟨(), ca31, cc32, ca33, cc34, ca35, cc36, S30, l37, sinj H, j, hr, h⟩
        clear h hr a; rintro _ a w ⟨ca21, cc22, ca23, cc24, ca25, cc26, S20, l27, rfl, j, hr, h⟩
        replace H := kk2 hK28
        refine wp_seq ?_
        refine wp_region_lit ?_
        replace H := bd1 H; obtain ⟨r53, e54, H⟩ := H
        refine ov hr (.pointer (some ⟨Bn6, 0, none⟩)) (by kernel_rfl) ?_; clear hr a; intro a hr
        replace h : Fit z (sepL (ob96 Bn6 S20 ca21 cc22 ca23 cc24 :: ro2 ca21 cc22 S20.cell :: ro90 ca23 cc24 S20.log :: pts b1 (.cells #[.slice none 0 0, .slice none 0 0, .slice none 0 0] 70) :: pts b19 (.cells #[.slice ca25 l27.length cc26, .slice none 0 0, .slice none 0 0] 70) :: ro39 ca25 cc26 l27 :: L)) _ := h.sel 6 [1, 2, 3, 0, 4, 5] (by kernel_rfl) (by kernel_rfl)
        have hc := cells_Arena_Cells_ok (H := e54) (h := h)
        refine op_call (wn rfl) rfl rfl hr (f := 24) (args := #[.pointer (some ⟨Bn6, 0, none⟩)]) (by kernel_rfl) hc ?_; clear hc h
        rintro _ w ⟨car55, rfl, h⟩; refine ⟨_, rfl, ?_⟩
        clear hr a; intro a hr
        refine ov hr (.pointer (some ⟨b19, 1, none⟩)) (by kernel_rfl) ?_; clear hr a; intro a hr
        replace h : Fit z (sepL (pts b19 (.cells #[.slice ca25 l27.length cc26, .slice none 0 0, .slice none 0 0] 70) :: ob96 Bn6 S20 ca21 cc22 ca23 cc24 :: ro2 ca21 cc22 S20.cell :: ro90 ca23 cc24 S20.log :: ro2 car55 r53.length r53 :: pts b1 (.cells #[.slice none 0 0, .slice none 0 0, .slice none 0 0] 70) :: ro39 ca25 cc26 l27 :: L)) _ := h.sel 7 [5, 0, 1, 2, 3, 4, 6] (by kernel_rfl) (by kernel_rfl)
        refine op_store (wn rfl) rfl hr rfl (by kernel_rfl) (by kernel_rfl) (v := .slice car55 r53.length r53.length) rfl rfl (by kernel_rfl) h (i := 1) rfl ?_; clear h; intro w h
        refine wpList_nil ?_
        replace h : Fit z (sepL (pts b19 (.cells #[.slice ca25 l27.length cc26, .slice car55 r53.length r53.length, .slice none 0 0] 70) :: ob96 Bn6 S20 ca21 cc22 ca23 cc24 :: ro2 ca21 cc22 S20.cell :: ro90 ca23 cc24 S20.log :: ro2 car55 r53.length r53 :: pts b1 (.cells #[.slice none 0 0, .slice none 0 0, .slice none 0 0] 70) :: ro39 ca25 cc26 l27 :: L)) _ := h
        refine then_normal ?_
        refine wp_seq ?_
        refine wp_region_lit ?_
        replace H := bd1 H; obtain ⟨r56, e57, H⟩ := H
        refine ov hr (.pointer (some ⟨Bn6, 0, none⟩)) (by kernel_rfl) ?_; clear hr a; intro a hr
        replace h : Fit z (sepL (ob96 Bn6 S20 ca21 cc22 ca23 cc24 :: ro2 ca21 cc22 S20.cell :: ro90 ca23 cc24 S20.log :: pts b19 (.cells #[.slice ca25 l27.length cc26, .slice car55 r53.length r53.length, .slice none 0 0] 70) :: ro2 car55 r53.length r53 :: pts b1 (.cells #[.slice none 0 0, .slice none 0 0, .slice none 0 0] 70) :: ro39 ca25 cc26 l27 :: L)) _ := h.sel 7 [1, 2, 3, 0, 4, 5, 6] (by kernel_rfl) (by kernel_rfl)
        have hc := cells_Arena_Log_ok (H := e57) (h := h)
        refine op_call (wn rfl) rfl rfl hr (f := 70) (args := #[.pointer (some ⟨Bn6, 0, none⟩)]) (by kernel_rfl) hc ?_; clear hc h
        rintro _ w ⟨car58, rfl, h⟩; refine ⟨_, rfl, ?_⟩
        clear hr a; intro a hr
        refine ov hr (.pointer (some ⟨b19, 2, none⟩)) (by kernel_rfl) ?_; clear hr a; intro a hr
        replace h : Fit z (sepL (pts b19 (.cells #[.slice ca25 l27.length cc26, .slice car55 r53.length r53.length, .slice none 0 0] 70) :: ob96 Bn6 S20 ca21 cc22 ca23 cc24 :: ro2 ca21 cc22 S20.cell :: ro90 ca23 cc24 S20.log :: ro90 car58 r56.length r56 :: ro2 car55 r53.length r53 :: pts b1 (.cells #[.slice none 0 0, .slice none 0 0, .slice none 0 0] 70) :: ro39 ca25 cc26 l27 :: L)) _ := h.sel 8 [4, 0, 1, 2, 3, 5, 6, 7] (by kernel_rfl) (by kernel_rfl)
        refine op_store (wn rfl) rfl hr rfl (by kernel_rfl) (by kernel_rfl) (v := .slice car58 r56.length r56.length) rfl rfl (by kernel_rfl) h (i := 2) rfl ?_; clear h; intro w h
        refine wpList_nil ?_
        replace h : Fit z (sepL (pts b19 (.cells #[.slice ca25 l27.length cc26, .slice car55 r53.length r53.length, .slice car58 r56.length r56.length] 70) :: ob96 Bn6 S20 ca21 cc22 ca23 cc24 :: ro2 ca21 cc22 S20.cell :: ro90 ca23 cc24 S20.log :: ro90 car58 r56.length r56 :: ro2 car55 r53.length r53 :: pts b1 (.cells #[.slice none 0 0, .slice none 0 0, .slice none 0 0] 70) :: ro39 ca25 cc26 l27 :: L)) _ := h
        refine then_normal ?_
        refine wp_seq ?_
        refine wp_region_lit ?_
        refine op_val (wn rfl) rfl rfl hr (v := .agg #[.slice ca25 l27.length cc26, .slice car55 r53.length r53.length, .slice car58 r56.length r56.length]) (rlm (cs := [.slice ca25 l27.length cc26, .slice car55 r53.length r53.length, .slice car58 r56.length r56.length]) rfl (by kernel_rfl) (by kernel_rfl) (by kernel_rfl) ⟨h.cell 0 rfl, h.cell 1 rfl, h.cell 2 rfl, trivial⟩) ?_; clear hr a; intro a hr
        replace h : Fit z (sepL (pts b1 (.cells #[.slice none 0 0, .slice none 0 0, .slice none 0 0] 70) :: pts b19 (.cells #[.slice ca25 l27.length cc26, .slice car55 r53.length r53.length, .slice car58 r56.length r56.length] 70) :: ob96 Bn6 S20 ca21 cc22 ca23 cc24 :: ro2 ca21 cc22 S20.cell :: ro90 ca23 cc24 S20.log :: ro90 car58 r56.length r56 :: ro2 car55 r53.length r53 :: ro39 ca25 cc26 l27 :: L)) _ := h.sel 8 [6, 0, 1, 2, 3, 4, 5, 7] (by kernel_rfl) (by kernel_rfl)
        refine op_stores (wn rfl) rfl hr rfl (by kernel_rfl) (by kernel_rfl) (vs := [.slice ca25 l27.length cc26, .slice car55 r53.length r53.length, .slice car58 r56.length r56.length]) rfl rfl (by kernel_rfl) h (i := 0) (cs' := #[.slice ca25 l27.length cc26, .slice car55 r53.length r53.length, .slice car58 r56.length r56.length]) rfl ?_; clear h; intro w h
        refine ov hr (.int .i64 0) (by kernel_rfl) ?_; clear hr a; intro a hr
        refine wpList_nil ?_
        replace h : Fit z (sepL (pts b1 (.cells #[.slice ca25 l27.length cc26, .slice car55 r53.length r53.length, .slice car58 r56.length r56.length] 70) :: pts b19 (.cells #[.slice ca25 l27.length cc26, .slice car55 r53.length r53.length, .slice car58 r56.length r56.length] 70) :: ob96 Bn6 S20 ca21 cc22 ca23 cc24 :: ro2 ca21 cc22 S20.cell :: ro90 ca23 cc24 S20.log :: ro90 car58 r56.length r56 :: ro2 car55 r53.length r53 :: ro39 ca25 cc26 l27 :: L)) _ := h
        refine then_normal ?_
        refine wp_ret ?_
        refine end_retCT (cs := [.slice ca25 l27.length cc26, .slice car55 r53.length r53.length, .slice car58 r56.length r56.length]) (v := .int .i64 0) rfl hr (by kernel_rfl) (by kernel_rfl) (by kernel_rfl) (by kernel_rfl) ⟨h.cell 0 rfl, h.cell 1 rfl, h.cell 2 rfl, trivial⟩ ?_
        replace h : Fit z (sepL (ro39 ca25 cc26 l27 :: ro2 car55 r53.length r53 :: ro90 car58 r56.length r56 :: L)) _ := h.sel 8 [7, 6, 5] (by kernel_rfl) (by kernel_rfl)
        replace H := ej2 H; obtain ⟨rfl, rfl⟩ := H
        exact ⟨ca25, cc26, car55, car58, rfl, h⟩
    ·
      replace H := ifF c11 H
      refine cond_tt hr (b := (r3 != (0 : Int))) (bne_iff_ne.mpr c11) ?_
      refine wp_seq ?_
      refine wp_region_lit ?_
      refine ovs [18, 19] [.agg #[.slice none 0 0, .slice none 0 0, .slice none 0 0], .int .i64 r3] hr ⟨rfl, rfl⟩ (by kernel_rfl) ?_; clear hr a; intro a hr
      replace h : Fit z (sepL (pts b1 (.cells #[.slice none 0 0, .slice none 0 0, .slice none 0 0] 70) :: ob96 Bn6 S5 car7 ccr8 car9 ccr10 :: ro2 car7 ccr8 S5.cell :: ro90 car9 ccr10 S5.log :: L)) _ := h.sel 4 [3, 0, 1, 2] (by kernel_rfl) (by kernel_rfl)
      refine op_stores (wn rfl) rfl hr rfl (by kernel_rfl) (by kernel_rfl) (vs := [.slice none 0 0, .slice none 0 0, .slice none 0 0]) rfl rfl (by kernel_rfl) h (i := 0) (cs' := #[.slice none 0 0, .slice none 0 0, .slice none 0 0]) rfl ?_; clear h; intro w h
      refine ov hr (.int .i64 r3) (by kernel_rfl) ?_; clear hr a; intro a hr
      refine wpList_nil ?_
      replace h : Fit z (sepL (pts b1 (.cells #[.slice none 0 0, .slice none 0 0, .slice none 0 0] 70) :: ob96 Bn6 S5 car7 ccr8 car9 ccr10 :: ro2 car7 ccr8 S5.cell :: ro90 car9 ccr10 S5.log :: L)) _ := h
      refine then_normal ?_
      refine wp_ret ?_
      refine then_ret ?_
      refine end_retCT (cs := [.slice none 0 0, .slice none 0 0, .slice none 0 0]) (v := .int .i64 r3) rfl hr (by kernel_rfl) (by kernel_rfl) (by kernel_rfl) (by kernel_rfl) ⟨h.cell 0 rfl, h.cell 1 rfl, h.cell 2 rfl, trivial⟩ ?_
      replace h : Fit z (sepL (rowOf 39 3 enc_T_api_Effect (.slice none 0 0) ([] : List T_api_Effect) :: pts b1 (.cells #[.slice none 0 0, .slice none 0 0, .slice none 0 0] 70) :: ob96 Bn6 S5 car7 ccr8 car9 ccr10 :: ro2 car7 ccr8 S5.cell :: ro90 car9 ccr10 S5.log :: L)) _ := h.row_nil
      replace h : Fit z (sepL (rowOf 2 1 encZ_i64 (.slice none 0 0) ([] : List Int) :: rowOf 39 3 enc_T_api_Effect (.slice none 0 0) ([] : List T_api_Effect) :: pts b1 (.cells #[.slice none 0 0, .slice none 0 0, .slice none 0 0] 70) :: ob96 Bn6 S5 car7 ccr8 car9 ccr10 :: ro2 car7 ccr8 S5.cell :: ro90 car9 ccr10 S5.log :: L)) _ := h.row_nil
      replace h : Fit z (sepL (rowOf 90 6 enc_T_api_Access (.slice none 0 0) ([] : List T_api_Access) :: rowOf 2 1 encZ_i64 (.slice none 0 0) ([] : List Int) :: rowOf 39 3 enc_T_api_Effect (.slice none 0 0) ([] : List T_api_Effect) :: pts b1 (.cells #[.slice none 0 0, .slice none 0 0, .slice none 0 0] 70) :: ob96 Bn6 S5 car7 ccr8 car9 ccr10 :: ro2 car7 ccr8 S5.cell :: ro90 car9 ccr10 S5.log :: L)) _ := h.row_nil
      replace h : Fit z (sepL (rowOf 39 3 enc_T_api_Effect (.slice none 0 0) ([] : List T_api_Effect) :: rowOf 2 1 encZ_i64 (.slice none 0 0) ([] : List Int) :: rowOf 90 6 enc_T_api_Access (.slice none 0 0) ([] : List T_api_Access) :: L)) _ := h.sel 7 [2, 1, 0] (by kernel_rfl) (by kernel_rfl)
      replace H := ej2 H; obtain ⟨rfl, rfl⟩ := H
      exact ⟨none, 0, none, none, rfl, h⟩
  | none =>
    have hc := cells_New_ok1 (H := e4) (h := h)
    refine op_call (wn rfl) rfl rfl hr (f := 19) (args := #[.int .i64 p0]) (by kernel_rfl) hc ?_; clear hc h
    rintro _ w ⟨rfl, h⟩; refine ⟨_, rfl, ?_⟩
    clear hr a; intro a hr
    refine ovs [11, 14, 15, 6, 7] [.tuple #[.pointer none, .int .i64 r3], .pointer none, .int .i64 r3, .pointer none, .int .i64 r3] hr ⟨rfl, rfl⟩ (by kernel_rfl) ?_; clear hr a; intro a hr
    refine wpList_nil ?_
    refine then_normal ?_
    refine wp_seq ?_
    refine wp_seq ?_
    refine wp_region_lit ?_
    refine ovs [16, 17] [.int .i64 r3, .bool (r3 != (0 : Int))] hr ⟨rfl, rfl⟩ (by kernel_rfl) ?_; clear hr a; intro a hr
    refine wpList_nil ?_
    refine then_normal ?_
    by_cases c59 : r3 = (0 : Int)
    ·
      replace H := ifT c59 H
      refine cond_ff hr (b := (r3 != (0 : Int))) (bne_eq_false_iff_eq.mpr c59) ?_
      refine wp_skip ?_
      refine then_normal ?_
      refine wp_seq ?_
      refine wp_seq ?_
      refine wp_region_lit ?_
      refine ovs [20, 21, 22] [.slice va1 p1.length vc1, .int .i64 ((p1.length : Nat) : Int), .bool (decide (((p1.length : Nat) : Int) > (4096 : Int)))] hr ⟨rfl, rfl⟩ (by kernel_rfl) ?_; clear hr a; intro a hr
      refine wpList_nil ?_
      refine then_normal ?_
      by_cases c60 : ((p1.length : Nat) : Int) > (4096 : Int)
      ·
        replace H := ifT c60 H
        refine cond_tt hr (b := (decide (((p1.length : Nat) : Int) > (4096 : Int)))) (decide_eq_true c60) ?_
        refine wp_seq ?_
        refine wp_region_lit ?_
        refine ov hr (.agg #[.slice none 0 0, .slice none 0 0, .slice none 0 0]) (by kernel_rfl) ?_; clear hr a; intro a hr
        refine op_stores (wn rfl) rfl hr rfl (by kernel_rfl) (by kernel_rfl) (vs := [.slice none 0 0, .slice none 0 0, .slice none 0 0]) rfl rfl (by kernel_rfl) h (i := 0) (cs' := #[.slice none 0 0, .slice none 0 0, .slice none 0 0]) rfl ?_; clear h; intro w h
        refine ov hr (.int .i64 2) (by kernel_rfl) ?_; clear hr a; intro a hr
        refine wpList_nil ?_
        replace h : Fit z (sepL (pts b1 (.cells #[.slice none 0 0, .slice none 0 0, .slice none 0 0] 70) :: L)) _ := h
        refine then_normal ?_
        refine wp_ret ?_
        refine then_ret ?_
        refine end_retCT (cs := [.slice none 0 0, .slice none 0 0, .slice none 0 0]) (v := .int .i64 2) rfl hr (by kernel_rfl) (by kernel_rfl) (by kernel_rfl) (by kernel_rfl) ⟨h.cell 0 rfl, h.cell 1 rfl, h.cell 2 rfl, trivial⟩ ?_
        replace h : Fit z (sepL (rowOf 39 3 enc_T_api_Effect (.slice none 0 0) ([] : List T_api_Effect) :: pts b1 (.cells #[.slice none 0 0, .slice none 0 0, .slice none 0 0] 70) :: L)) _ := h.row_nil
        replace h : Fit z (sepL (rowOf 2 1 encZ_i64 (.slice none 0 0) ([] : List Int) :: rowOf 39 3 enc_T_api_Effect (.slice none 0 0) ([] : List T_api_Effect) :: pts b1 (.cells #[.slice none 0 0, .slice none 0 0, .slice none 0 0] 70) :: L)) _ := h.row_nil
        replace h : Fit z (sepL (rowOf 90 6 enc_T_api_Access (.slice none 0 0) ([] : List T_api_Access) :: rowOf 2 1 encZ_i64 (.slice none 0 0) ([] : List Int) :: rowOf 39 3 enc_T_api_Effect (.slice none 0 0) ([] : List T_api_Effect) :: pts b1 (.cells #[.slice none 0 0, .slice none 0 0, .slice none 0 0] 70) :: L)) _ := h.row_nil
        replace h : Fit z (sepL (rowOf 39 3 enc_T_api_Effect (.slice none 0 0) ([] : List T_api_Effect) :: rowOf 2 1 encZ_i64 (.slice none 0 0) ([] : List Int) :: rowOf 90 6 enc_T_api_Access (.slice none 0 0) ([] : List T_api_Access) :: L)) _ := h.sel 4 [2, 1, 0] (by kernel_rfl) (by kernel_rfl)
        replace H := ej2 H; obtain ⟨rfl, rfl⟩ := H
        exact ⟨none, 0, none, none, rfl, h⟩
      ·
        replace H := ifF c60 H
        refine cond_ff hr (b := (decide (((p1.length : Nat) : Int) > (4096 : Int)))) (decide_eq_false c60) ?_
        refine wp_skip ?_
        refine then_normal ?_
        refine wp_seq ?_
        refine wp_region_lit ?_
        replace H := bd0 H; obtain ⟨e61, H⟩ := H
        refine ov hr (.pointer none) (by kernel_rfl) ?_; clear hr a; intro a hr
        have hc := cells_Arena_Watch_nil_ok (H := e61) (h := h)
        refine op_call (wn rfl) rfl rfl hr (f := 88) (args := #[.pointer none, .bool true]) (by kernel_rfl) hc ?_; clear hc h
        rintro _ w ⟨rfl, h⟩; refine ⟨_, rfl, ?_⟩
        clear hr a; intro a hr
        refine wpList_nil ?_
        refine then_normal ?_
        refine wp_seq ?_
        refine wp_region_lit ?_
        refine op_new (wn rfl) rfl rfl hr h (vf := fun b => .pointer (some ⟨b, 0, none⟩)) (cs := #[.slice none 0 0, .slice none 0 0, .slice none 0 0]) (T := 70) (by kernel_rfl) ?_; clear h hr a; intro b62 w a h hr
        refine wpList_nil ?_
        refine then_normal ?_
        replace H := kd1 H; obtain ⟨o67, H, hK66⟩ := H
        refine cut_rule (β := Unit) (fun _ a w => ∃ ca63 : Option Addr, ∃ cc64 : Nat, ∃ l65 : List T_api_Effect, l65 = o67 ∧ ∃ j, Rep 48 (lk [(4, .pointer (some ⟨b1, 0, none⟩)), (6, .pointer none), (8, .pointer (some ⟨b62, 0, none⟩))] j) a ∧ Fit z (sepL (pts b1 (.cells #[.slice none 0 0, .slice none 0 0, .slice none 0 0] 70) :: pts b62 (.cells #[.slice ca63 l65.length cc64, .slice none 0 0, .slice none 0 0] 70) :: ro39 ca63 cc64 l65 :: L)) w) ?_ ?_
        ·
          refine wp_seq ?_
          refine wp_region_lit ?_
          refine ovs [26, 27, 28] [.slice va1 p1.length vc1, .int .i64 ((p1.length : Nat) : Int), .int .i64 0] hr ⟨rfl, rfl⟩ (by kernel_rfl) ?_; clear hr a; intro a hr
          refine wpList_nil ?_
          refine then_normal ?_
          refine wp_block ?_
          replace hr := hr.fold2 [(4, .pointer (some ⟨b1, 0, none⟩)), (6, .pointer none), (8, .pointer (some ⟨b62, 0, none⟩)), (26, .slice va1 p1.length vc1), (27, .int .i64 ((p1.length : Nat) : Int)), (28, .int .i64 0)] (by kernel_rfl); obtain ⟨j, hr⟩ := hr
          replace h : Fit z (sepL (rowOf 39 3 enc_T_api_Effect (.slice none 0 0) ([] : List T_api_Effect) :: pts b62 (.cells #[.slice none 0 0, .slice none 0 0, .slice none 0 0] 70) :: pts b1 (.cells #[.slice none 0 0, .slice none 0 0, .slice none 0 0] 70) :: L)) _ := h.row_nil
          replace h : Fit z (sepL (pts b1 (.cells #[.slice none 0 0, .slice none 0 0, .slice none 0 0] 70) :: pts b62 (.cells #[.slice none (([] : List T_api_Effect).length) 0, .slice none 0 0, .slice none 0 0] 70) :: rowOf 39 3 enc_T_api_Effect (.slice none (([] : List T_api_Effect).length) 0) ([] : List T_api_Effect) :: L)) _ := h.sel 3 [2, 1, 0] (by kernel_rfl) (by kernel_rfl)
          refine loop_rule (β := Nat) id (fun m a w => ∃ ca68 : Option Addr, ∃ cc69 : Nat, ∃ l70 : List T_api_Effect, ∃ g71 : Int, (cells_Play_l2 K p1 m l70 g71) = some o67 ∧ ∃ j, Rep 48 (lk [(4, .pointer (some ⟨b1, 0, none⟩)), (6, .pointer none), (8, .pointer (some ⟨b62, 0, none⟩)), (26, .slice va1 p1.length vc1), (27, .int .i64 ((p1.length : Nat) : Int)), (28, .int .i64 g71)] j) a ∧ Fit z (sepL (pts b1 (.cells #[.slice none 0 0, .slice none 0 0, .slice none 0 0] 70) :: pts b62 (.cells #[.slice ca68 l70.length cc69, .slice none 0 0, .slice none 0 0] 70) :: ro39 ca68 cc69 l70 :: L)) w) K ⟨none, 0, ([] : List T_api_Effect), 0, H, j, hr, h⟩ ?_
          clear h hr a H; rintro k2 a w ⟨ca68, cc69, l70, g71, H, j, hr, h⟩
          cases k2 with
          | zero => exact absurd H (by simp [cells_Play_l2])
          | succ k2 =>
            rw [cells_Play_l2] at H
            refine wp_seq ?_
            refine wp_region_lit ?_
            refine ov hr (.bool (decide (g71 < ((p1.length : Nat) : Int)))) (by kernel_rfl) ?_; clear hr a; intro a hr
            refine wpList_nil ?_
            refine then_normal ?_
            refine wp_seq ?_
            by_cases c72 : g71 < ((p1.length : Nat) : Int)
            ·
              replace H := ifT c72 H
              refine cond_tt hr (b := (decide (g71 < ((p1.length : Nat) : Int)))) (decide_eq_true c72) ?_
              refine wp_skip ?_
              refine then_normal ?_
              refine wp_seq ?_
              refine wp_block ?_
              refine wp_seq ?_
              refine wp_region_lit ?_
              replace H := gd H; obtain ⟨c73, H⟩ := H
              refine op_val (wn rfl) rfl rfl hr (v := .pointer (some ⟨blk va1, offs va1 + g71.toNat * 5, none⟩)) (ri_rd (k := .i64) (E := 57) (cc := vc1) rfl (by kernel_rfl) (by kernel_rfl) rfl (by kernel_rfl) (by kernel_rfl) hv1 c73) ?_; clear hr a; intro a hr
              refine op_val (wn rfl) rfl rfl hr (v := .agg #[.int .i64 ((at_ p1 g71.toNat).Who), .int .i64 ((at_ p1 g71.toNat).Kind), .int .i64 ((at_ p1 g71.toNat).Addr), .int .i64 ((at_ p1 g71.toNat).A), .int .i64 ((at_ p1 g71.toNat).B)]) (rlm (cs := [.int .i64 ((at_ p1 g71.toNat).Who), .int .i64 ((at_ p1 g71.toNat).Kind), .int .i64 ((at_ p1 g71.toNat).Addr), .int .i64 ((at_ p1 g71.toNat).A), .int .i64 ((at_ p1 g71.toNat).B)]) rfl (by kernel_rfl) (by kernel_rfl) (by kernel_rfl) ⟨hv1.cell c73 (h.dn 3) 0 rfl, hv1.cell c73 (h.dn 3) 1 rfl, hv1.cell c73 (h.dn 3) 2 rfl, hv1.cell c73 (h.dn 3) 3 rfl, hv1.cell c73 (h.dn 3) 4 rfl, trivial⟩) ?_; clear hr a; intro a hr
              refine op_new (wn rfl) rfl rfl hr h (vf := fun b => .pointer (some ⟨b, 0, none⟩)) (cs := #[.int .i64 0, .int .i64 0, .int .i64 0, .int .i64 0, .int .i64 0]) (T := 57) (by kernel_rfl) ?_; clear h hr a; intro b74 w a h hr
              refine op_stores (wn rfl) rfl hr rfl (by kernel_rfl) (by kernel_rfl) (vs := [.int .i64 ((at_ p1 g71.toNat).Who), .int .i64 ((at_ p1 g71.toNat).Kind), .int .i64 ((at_ p1 g71.toNat).Addr), .int .i64 ((at_ p1 g71.toNat).A), .int .i64 ((at_ p1 g71.toNat).B)]) rfl rfl (by kernel_rfl) h (i := 0) (cs' := #[.int .i64 ((at_ p1 g71.toNat).Who), .int .i64 ((at_ p1 g71.toNat).Kind), .int .i64 ((at_ p1 g71.toNat).Addr), .int .i64 ((at_ p1 g71.toNat).A), .int .i64 ((at_ p1 g71.toNat).B)]) rfl ?_; clear h; intro w h
              refine wpList_nil ?_
              replace h : Fit z (sepL (ob57 b74 (at_ p1 g71.toNat) :: pts b1 (.cells #[.slice none 0 0, .slice none 0 0, .slice none 0 0] 70) :: pts b62 (.cells #[.slice ca68 l70.length cc69, .slice none 0 0, .slice none 0 0] 70) :: ro39 ca68 cc69 l70 :: L)) _ := h
              refine then_normal ?_
              replace H := bd1 H; obtain ⟨r75, e76, H⟩ := H
              replace H := gd H; obtain ⟨c80, H⟩ := H
              refine reg_E (fun w => heldC w b62 0 [.slice ca68 l70.length cc69] ∧ heldC w b74 0 [.int .i64 ((at_ p1 g71.toNat).Who), .int .i64 ((at_ p1 g71.toNat).Kind), .int .i64 ((at_ p1 g71.toNat).Addr), .int .i64 ((at_ p1 g71.toNat).A), .int .i64 ((at_ p1 g71.toNat).B)] ∧ True) [0, 4] h (by kernel_rfl) ?_; intro w h
              change wpAnyE _ _ _ _ _ _ 9 (Array.replicate 9 false) a w
              have hgo : ∀ w w', CellsGo w w' → (heldC w b62 0 [.slice ca68 l70.length cc69] ∧ heldC w b74 0 [.int .i64 ((at_ p1 g71.toNat).Who), .int .i64 ((at_ p1 g71.toNat).Kind), .int .i64 ((at_ p1 g71.toNat).Addr), .int .i64 ((at_ p1 g71.toNat).A), .int .i64 ((at_ p1 g71.toNat).B)] ∧ True) → heldC w' b62 0 [.slice ca68 l70.length cc69] ∧ heldC w' b74 0 [.int .i64 ((at_ p1 g71.toNat).Who), .int .i64 ((at_ p1 g71.toNat).Kind), .int .i64 ((at_ p1 g71.toNat).Addr), .int .i64 ((at_ p1 g71.toNat).A), .int .i64 ((at_ p1 g71.toNat).B)] ∧ True := fun w w' g hD => ⟨heldC_go _ _ _ _ _ g hD.1, heldC_go _ _ _ _ _ g hD.2.1, trivial⟩
              refine evD hgo ⟨⟨(h.pick 2).cell 0 rfl, trivial⟩, ⟨h.cell 0 rfl, h.cell 1 rfl, h.cell 2 rfl, h.cell 3 rfl, h.cell 4 rfl, trivial⟩, trivial⟩ 8 0 rfl (by kernel_rfl) (wn rfl) hr (.pointer (some ⟨b62, 0, none⟩)) (fun w => by kernel_rfl) ?_; clear hr a; intro a hr
              refine ev 7 2 rfl (by kernel_rfl) (wn rfl) hr (.pointer none) (fun w => by kernel_rfl) ?_; clear hr a; intro a hr
              refine el [0, 4] (b := b62) (off := 0) (cs := [.slice ca68 l70.length cc69]) (fun _ hk => ⟨hk, fun w hD => hD.1⟩) 6 1 rfl (by kernel_rfl) (wn rfl) hr (.slice ca68 l70.length cc69) ⟨(h.pick 2).cell 0 rfl, trivial⟩ (fun w hc => rl rfl (by kernel_rfl) (by kernel_rfl) hc.1) ?_; clear hr a; intro a hr
              refine el [0, 4] (b := b74) (off := 0) (cs := [.int .i64 ((at_ p1 g71.toNat).Who), .int .i64 ((at_ p1 g71.toNat).Kind), .int .i64 ((at_ p1 g71.toNat).Addr), .int .i64 ((at_ p1 g71.toNat).A), .int .i64 ((at_ p1 g71.toNat).B)]) (fun _ hk => ⟨hk, fun w hD => hD.2.1⟩) 5 3 rfl (by kernel_rfl) (wn rfl) hr (.agg #[.int .i64 ((at_ p1 g71.toNat).Who), .int .i64 ((at_ p1 g71.toNat).Kind), .int .i64 ((at_ p1 g71.toNat).Addr), .int .i64 ((at_ p1 g71.toNat).A), .int .i64 ((at_ p1 g71.toNat).B)]) ⟨h.cell 0 rfl, h.cell 1 rfl, h.cell 2 rfl, h.cell 3 rfl, h.cell 4 rfl, trivial⟩ (fun w hc => rlm (cs := [.int .i64 ((at_ p1 g71.toNat).Who), .int .i64 ((at_ p1 g71.toNat).Kind), .int .i64 ((at_ p1 g71.toNat).Addr), .int .i64 ((at_ p1 g71.toNat).A), .int .i64 ((at_ p1 g71.toNat).B)]) rfl (by kernel_rfl) (by kernel_rfl) (by kernel_rfl) hc) ?_; clear hr a; intro a hr
              refine e_one (fuel := 4) (i := 4) (by kernel_rfl) rfl ?_
              have hc := cells_Arena_act_nil_ok (H := e76) (h := h)
              refine op_call (wn rfl) rfl rfl hr (f := 89) (args := #[.pointer none, .agg #[.int .i64 ((at_ p1 g71.toNat).Who), .int .i64 ((at_ p1 g71.toNat).Kind), .int .i64 ((at_ p1 g71.toNat).Addr), .int .i64 ((at_ p1 g71.toNat).A), .int .i64 ((at_ p1 g71.toNat).B)]]) (by kernel_rfl) hc ?_; clear hc h
              rintro _ w ⟨rfl, h⟩; refine ⟨_, rfl, ?_⟩
              clear hr a; intro a hr
              refine wpList_nil ?_; refine then_normal ?_
              refine ⟨fun _ => ⟨⟨(h.pick 2).cell 0 rfl, trivial⟩, ⟨h.cell 0 rfl, h.cell 1 rfl, h.cell 2 rfl, h.cell 3 rfl, h.cell 4 rfl, trivial⟩, trivial⟩, ?_⟩
              refine e_one (fuel := 3) (i := 5) (by kernel_rfl) rfl ?_
              refine op_new (wn rfl) rfl rfl hr h (vf := fun b => .slice (some ⟨b, 0, none⟩) 1 1) (cs := #[.int .i64 r75.V, .bool r75.OK, .int .i64 r75.Err]) (T := 39) (by kernel_rfl) ?_; clear h hr a; intro b77 w a h hr
              refine wpList_nil ?_; refine then_normal ?_
              refine ⟨fun hE => absurd hE (by decide), ?_⟩
              refine e_one (fuel := 2) (i := 6) (by kernel_rfl) rfl ?_
              replace h : Fit z (sepL (ro39 ca68 cc69 l70 :: ob39 b77 r75 :: ob57 b74 (at_ p1 g71.toNat) :: pts b1 (.cells #[.slice none 0 0, .slice none 0 0, .slice none 0 0] 70) :: pts b62 (.cells #[.slice ca68 l70.length cc69, .slice none 0 0, .slice none 0 0] 70) :: L)) _ := h.sel 5 [4, 0, 1, 2, 3] (by kernel_rfl) (by kernel_rfl)
              refine op_append (n0 := l70.length) (c := 1) (bytes := 24) (wn rfl) rfl rfl hr rfl (by kernel_rfl) (by kernel_rfl) enc_T_api_Effect_ok (E := 39) (xs := l70) (by kernel_rfl) (by kernel_rfl) h (news := [r75]) (m := 1) rfl ((h.pick 1).news rfl) c80 rfl ?_; clear h hr a; intro ca78 cc79 w a h hr
              refine wpList_nil ?_; refine then_normal ?_
              replace h : Fit z (sepL (ro39 ca78 cc79 (l70 ++ [r75]) :: ob39 b77 r75 :: ob57 b74 (at_ p1 g71.toNat) :: pts b1 (.cells #[.slice none 0 0, .slice none 0 0, .slice none 0 0] 70) :: pts b62 (.cells #[.slice ca68 l70.length cc69, .slice none 0 0, .slice none 0 0] 70) :: L)) _ := h
              refine ⟨fun hE => absurd hE (by decide), ?_⟩
              refine ev 1 7 rfl (by kernel_rfl) (wn rfl) hr (.pointer (some ⟨b62, 0, none⟩)) (fun w => by kernel_rfl) ?_; clear hr a; intro a hr
              refine e_one (fuel := 0) (i := 8) (by kernel_rfl) rfl ?_
              replace h : Fit z (sepL (pts b62 (.cells #[.slice ca68 l70.length cc69, .slice none 0 0, .slice none 0 0] 70) :: ro39 ca78 cc79 (l70 ++ [r75]) :: ob39 b77 r75 :: ob57 b74 (at_ p1 g71.toNat) :: pts b1 (.cells #[.slice none 0 0, .slice none 0 0, .slice none 0 0] 70) :: L)) _ := h.sel 5 [4, 0, 1, 2, 3] (by kernel_rfl) (by kernel_rfl)
              refine op_store (wn rfl) rfl hr rfl (by kernel_rfl) (by kernel_rfl) (v := .slice ca78 ((l70 ++ [r75]).length) cc79) rfl rfl (by kernel_rfl) h (i := 0) rfl ?_; clear h; intro w h
              refine wpList_nil ?_; refine then_normal ?_
              replace h : Fit z (sepL (pts b62 (.cells #[.slice ca78 ((l70 ++ [r75]).length) cc79, .slice none 0 0, .slice none 0 0] 70) :: ro39 ca78 cc79 (l70 ++ [r75]) :: ob39 b77 r75 :: ob57 b74 (at_ p1 g71.toNat) :: pts b1 (.cells #[.slice none 0 0, .slice none 0 0, .slice none 0 0] 70) :: L)) _ := h
              refine ⟨fun hE => absurd hE (by decide), ?_⟩
              refine e_end (by kernel_rfl) ?_
              refine blk_normal ?_
              refine then_normal ?_
              refine wp_region_lit ?_
              refine ovs [40, 28] [.int .i64 (wi (g71 + (1 : Int))), .int .i64 (wi (g71 + (1 : Int)))] hr ⟨rfl, rfl⟩ (by kernel_rfl) ?_; clear hr a; intro a hr
              refine wpList_nil ?_
              refine then_normal ?_
              replace hr := hr.fold2 [(4, .pointer (some ⟨b1, 0, none⟩)), (6, .pointer none), (8, .pointer (some ⟨b62, 0, none⟩)), (26, .slice va1 p1.length vc1), (27, .int .i64 ((p1.length : Nat) : Int)), (28, .int .i64 (wi (g71 + (1 : Int))))] (by kernel_rfl); obtain ⟨j, hr⟩ := hr
              replace h : Fit z (sepL (pts b1 (.cells #[.slice none 0 0, .slice none 0 0, .slice none 0 0] 70) :: pts b62 (.cells #[.slice ca78 ((l70 ++ [r75]).length) cc79, .slice none 0 0, .slice none 0 0] 70) :: ro39 ca78 cc79 (l70 ++ [r75]) :: L)) _ := h.sel 5 [4, 0, 1] (by kernel_rfl) (by kernel_rfl)
              exact ⟨_, ⟨ca78, cc79, (l70 ++ [r75]), (wi (g71 + (1 : Int))), H, j, hr, h⟩, Nat.lt_succ_self _⟩
            ·
              replace H := ifF c72 H
              refine cond_ff hr (b := (decide (g71 < ((p1.length : Nat) : Int)))) (decide_eq_false c72) ?_
              refine wp_exit ?_
              refine then_exit ?_
              refine then_exit ?_
              refine blk_here ?_
              refine then_normal ?_
              replace hr := hr.fold2 [(4, .pointer (some ⟨b1, 0, none⟩)), (6, .pointer none), (8, .pointer (some ⟨b62, 0, none⟩))] (by kernel_rfl); obtain ⟨j, hr⟩ := hr
              exact ⟨(), ca68, cc69, l70, sinj H, j, hr, h⟩
        clear h hr a; rintro _ a w ⟨ca63, cc64, l65, rfl, j, hr, h⟩
        replace H := kk1 hK66
        refine wp_seq ?_
        refine wp_region_lit ?_
        replace H := bd1 H; obtain ⟨r81, e82, H⟩ := H
        refine ov hr (.pointer none) (by kernel_rfl) ?_; clear hr a; intro a hr
        have hc := cells_Arena_Cells_nil_ok (H := e82) (h := h)
        refine op_call (wn rfl) rfl rfl hr (f := 24) (args := #[.pointer none]) (by kernel_rfl) hc ?_; clear hc h
        rintro _ w ⟨car83, rfl, h⟩; refine ⟨_, rfl, ?_⟩
        clear hr a; intro a hr
        refine ov hr (.pointer (some ⟨b62, 1, none⟩)) (by kernel_rfl) ?_; clear hr a; intro a hr
        replace h : Fit z (sepL (pts b62 (.cells #[.slice ca63 l65.length cc64, .slice none 0 0, .slice none 0 0] 70) :: ro2 car83 r81.length r81 :: pts b1 (.cells #[.slice none 0 0, .slice none 0 0, .slice none 0 0] 70) :: ro39 ca63 cc64 l65 :: L)) _ := h.sel 4 [2, 0, 1, 3] (by kernel_rfl) (by kernel_rfl)
        refine op_store (wn rfl) rfl hr rfl (by kernel_rfl) (by kernel_rfl) (v := .slice car83 r81.length r81.length) rfl rfl (by kernel_rfl) h (i := 1) rfl ?_; clear h; intro w h
        refine wpList_nil ?_
        replace h : Fit z (sepL (pts b62 (.cells #[.slice ca63 l65.length cc64, .slice car83 r81.length r81.length, .slice none 0 0] 70) :: ro2 car83 r81.length r81 :: pts b1 (.cells #[.slice none 0 0, .slice none 0 0, .slice none 0 0] 70) :: ro39 ca63 cc64 l65 :: L)) _ := h
        refine then_normal ?_
        refine wp_seq ?_
        refine wp_region_lit ?_
        replace H := bd1 H; obtain ⟨r84, e85, H⟩ := H
        refine ov hr (.pointer none) (by kernel_rfl) ?_; clear hr a; intro a hr
        have hc := cells_Arena_Log_nil_ok (H := e85) (h := h)
        refine op_call (wn rfl) rfl rfl hr (f := 70) (args := #[.pointer none]) (by kernel_rfl) hc ?_; clear hc h
        rintro _ w ⟨car86, rfl, h⟩; refine ⟨_, rfl, ?_⟩
        clear hr a; intro a hr
        refine ov hr (.pointer (some ⟨b62, 2, none⟩)) (by kernel_rfl) ?_; clear hr a; intro a hr
        replace h : Fit z (sepL (pts b62 (.cells #[.slice ca63 l65.length cc64, .slice car83 r81.length r81.length, .slice none 0 0] 70) :: ro90 car86 r84.length r84 :: ro2 car83 r81.length r81 :: pts b1 (.cells #[.slice none 0 0, .slice none 0 0, .slice none 0 0] 70) :: ro39 ca63 cc64 l65 :: L)) _ := h.sel 5 [1, 0, 2, 3, 4] (by kernel_rfl) (by kernel_rfl)
        refine op_store (wn rfl) rfl hr rfl (by kernel_rfl) (by kernel_rfl) (v := .slice car86 r84.length r84.length) rfl rfl (by kernel_rfl) h (i := 2) rfl ?_; clear h; intro w h
        refine wpList_nil ?_
        replace h : Fit z (sepL (pts b62 (.cells #[.slice ca63 l65.length cc64, .slice car83 r81.length r81.length, .slice car86 r84.length r84.length] 70) :: ro90 car86 r84.length r84 :: ro2 car83 r81.length r81 :: pts b1 (.cells #[.slice none 0 0, .slice none 0 0, .slice none 0 0] 70) :: ro39 ca63 cc64 l65 :: L)) _ := h
        refine then_normal ?_
        refine wp_seq ?_
        refine wp_region_lit ?_
        refine op_val (wn rfl) rfl rfl hr (v := .agg #[.slice ca63 l65.length cc64, .slice car83 r81.length r81.length, .slice car86 r84.length r84.length]) (rlm (cs := [.slice ca63 l65.length cc64, .slice car83 r81.length r81.length, .slice car86 r84.length r84.length]) rfl (by kernel_rfl) (by kernel_rfl) (by kernel_rfl) ⟨h.cell 0 rfl, h.cell 1 rfl, h.cell 2 rfl, trivial⟩) ?_; clear hr a; intro a hr
        replace h : Fit z (sepL (pts b1 (.cells #[.slice none 0 0, .slice none 0 0, .slice none 0 0] 70) :: pts b62 (.cells #[.slice ca63 l65.length cc64, .slice car83 r81.length r81.length, .slice car86 r84.length r84.length] 70) :: ro90 car86 r84.length r84 :: ro2 car83 r81.length r81 :: ro39 ca63 cc64 l65 :: L)) _ := h.sel 5 [3, 0, 1, 2, 4] (by kernel_rfl) (by kernel_rfl)
        refine op_stores (wn rfl) rfl hr rfl (by kernel_rfl) (by kernel_rfl) (vs := [.slice ca63 l65.length cc64, .slice car83 r81.length r81.length, .slice car86 r84.length r84.length]) rfl rfl (by kernel_rfl) h (i := 0) (cs' := #[.slice ca63 l65.length cc64, .slice car83 r81.length r81.length, .slice car86 r84.length r84.length]) rfl ?_; clear h; intro w h
        refine ov hr (.int .i64 0) (by kernel_rfl) ?_; clear hr a; intro a hr
        refine wpList_nil ?_
        replace h : Fit z (sepL (pts b1 (.cells #[.slice ca63 l65.length cc64, .slice car83 r81.length r81.length, .slice car86 r84.length r84.length] 70) :: pts b62 (.cells #[.slice ca63 l65.length cc64, .slice car83 r81.length r81.length, .slice car86 r84.length r84.length] 70) :: ro90 car86 r84.length r84 :: ro2 car83 r81.length r81 :: ro39 ca63 cc64 l65 :: L)) _ := h
        refine then_normal ?_
        refine wp_ret ?_
        refine end_retCT (cs := [.slice ca63 l65.length cc64, .slice car83 r81.length r81.length, .slice car86 r84.length r84.length]) (v := .int .i64 0) rfl hr (by kernel_rfl) (by kernel_rfl) (by kernel_rfl) (by kernel_rfl) ⟨h.cell 0 rfl, h.cell 1 rfl, h.cell 2 rfl, trivial⟩ ?_
        replace h : Fit z (sepL (ro39 ca63 cc64 l65 :: ro2 car83 r81.length r81 :: ro90 car86 r84.length r84 :: L)) _ := h.sel 5 [4, 3, 2] (by kernel_rfl) (by kernel_rfl)
        replace H := ej2 H; obtain ⟨rfl, rfl⟩ := H
        exact ⟨ca63, cc64, car83, car86, rfl, h⟩
    ·
      replace H := ifF c59 H
      refine cond_tt hr (b := (r3 != (0 : Int))) (bne_iff_ne.mpr c59) ?_
      refine wp_seq ?_
      refine wp_region_lit ?_
      refine ovs [18, 19] [.agg #[.slice none 0 0, .slice none 0 0, .slice none 0 0], .int .i64 r3] hr ⟨rfl, rfl⟩ (by kernel_rfl) ?_; clear hr a; intro a hr
      refine op_stores (wn rfl) rfl hr rfl (by kernel_rfl) (by kernel_rfl) (vs := [.slice none 0 0, .slice none 0 0, .slice none 0 0]) rfl rfl (by kernel_rfl) h (i := 0) (cs' := #[.slice none 0 0, .slice none 0 0, .slice none 0 0]) rfl ?_; clear h; intro w h
      refine ov hr (.int .i64 r3) (by kernel_rfl) ?_; clear hr a; intro a hr
      refine wpList_nil ?_
      replace h : Fit z (sepL (pts b1 (.cells #[.slice none 0 0, .slice none 0 0, .slice none 0 0] 70) :: L)) _ := h
      refine then_normal ?_
      refine wp_ret ?_
      refine then_ret ?_
      refine end_retCT (cs := [.slice none 0 0, .slice none 0 0, .slice none 0 0]) (v := .int .i64 r3) rfl hr (by kernel_rfl) (by kernel_rfl) (by kernel_rfl) (by kernel_rfl) ⟨h.cell 0 rfl, h.cell 1 rfl, h.cell 2 rfl, trivial⟩ ?_
      replace h : Fit z (sepL (rowOf 39 3 enc_T_api_Effect (.slice none 0 0) ([] : List T_api_Effect) :: pts b1 (.cells #[.slice none 0 0, .slice none 0 0, .slice none 0 0] 70) :: L)) _ := h.row_nil
      replace h : Fit z (sepL (rowOf 2 1 encZ_i64 (.slice none 0 0) ([] : List Int) :: rowOf 39 3 enc_T_api_Effect (.slice none 0 0) ([] : List T_api_Effect) :: pts b1 (.cells #[.slice none 0 0, .slice none 0 0, .slice none 0 0] 70) :: L)) _ := h.row_nil
      replace h : Fit z (sepL (rowOf 90 6 enc_T_api_Access (.slice none 0 0) ([] : List T_api_Access) :: rowOf 2 1 encZ_i64 (.slice none 0 0) ([] : List Int) :: rowOf 39 3 enc_T_api_Effect (.slice none 0 0) ([] : List T_api_Effect) :: pts b1 (.cells #[.slice none 0 0, .slice none 0 0, .slice none 0 0] 70) :: L)) _ := h.row_nil
      replace h : Fit z (sepL (rowOf 39 3 enc_T_api_Effect (.slice none 0 0) ([] : List T_api_Effect) :: rowOf 2 1 encZ_i64 (.slice none 0 0) ([] : List Int) :: rowOf 90 6 enc_T_api_Access (.slice none 0 0) ([] : List T_api_Access) :: L)) _ := h.sel 4 [2, 1, 0] (by kernel_rfl) (by kernel_rfl)
      replace H := ej2 H; obtain ⟨rfl, rfl⟩ := H
      exact ⟨none, 0, none, none, rfl, h⟩


end Go.Proofs.Ytacgigkonoegiaa.Mo
