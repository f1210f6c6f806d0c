/- what the functions compute, as plain Lean functions, and that they do -/
import Derived.Test.YtacgigkonoegiaaMq2
namespace Go.Proofs.Ytacgigkonoegiaa.Mo
open Go Go.RowKit Go.Proofs.Ytacgigkonoegiaa.SL Go.Proofs.Ytacgigkonoegiaa.GX
set_option linter.unusedVariables false
set_option linter.unusedSimpArgs false

def cells_Play_l1 (K : Nat) (p1 : List T_api_Act) : Nat → T_cells_Arena → (List T_api_Effect) → Int → Option (T_cells_Arena × (List T_api_Effect))
  | 0, _, _, _ => none
  | k1 + 1, S30, l37, g38 => (if g38 < ((p1.length : Nat) : Int) then if inr_ g38 p1.length then ob2 (cells_Arena_act S30 (at_ p1 g38.toNat)) (fun r42 S43 => if (l37.length + 1) * 24 ≤ 140737488355328 then (cells_Play_l1 K p1 k1 S43 (l37 ++ [r42]) (wi (g38 + (1 : Int)))) else none) else none else some (S30, l37))
def cells_Play_l2 (K : Nat) (p1 : List T_api_Act) : Nat → (List T_api_Effect) → Int → Option ((List T_api_Effect))
  | 0, _, _ => none
  | k2 + 1, l70, g71 => (if g71 < ((p1.length : Nat) : Int) then if inr_ g71 p1.length then ob1 (cells_Arena_act_nil (at_ p1 g71.toNat)) (fun r75 => if (l70.length + 1) * 24 ≤ 140737488355328 then (cells_Play_l2 K p1 k2 (l70 ++ [r75]) (wi (g71 + (1 : Int)))) else none) else none else some l70)
/-- plunder/cells.Play -/
def cells_Play (K : Nat) (p0 : Int) (p1 : List T_api_Act) : Option (T_api_CellRun × Int) :=
  ob2 (cells_New p0) (fun r2 r3 => (match r2 with | some S5 => (if r3 = (0 : Int) then (if ((p1.length : Nat) : Int) > (4096 : Int) then some ((⟨([] : List T_api_Effect), ([] : List Int), ([] : List T_api_Access)⟩ : T_api_CellRun), 2) else ob1 (cells_Arena_Watch S5 true) (fun S13 => ob2 ((cells_Play_l1 K p1 K S13 ([] : List T_api_Effect) 0)) (fun S20 l27 => ob1 (cells_Arena_Cells S20) (fun r53 => ob1 (cells_Arena_Log S20) (fun r56 => some ((⟨l27, r53, r56⟩ : T_api_CellRun), 0)))))) else some ((⟨([] : List T_api_Effect), ([] : List Int), ([] : List T_api_Access)⟩ : T_api_CellRun), r3)) | none => (if r3 = (0 : Int) then (if ((p1.length : Nat) : Int) > (4096 : Int) then some ((⟨([] : List T_api_Effect), ([] : List Int), ([] : List T_api_Access)⟩ : T_api_CellRun), 2) else ob0 (cells_Arena_Watch_nil true) (ob1 ((cells_Play_l2 K p1 K ([] : List T_api_Effect) 0)) (fun l65 => ob1 (cells_Arena_Cells_nil) (fun r81 => ob1 (cells_Arena_Log_nil) (fun r84 => some ((⟨l65, r81, r84⟩ : T_api_CellRun), 0)))))) else some ((⟨([] : List T_api_Effect), ([] : List Int), ([] : List T_api_Access)⟩ : T_api_CellRun), r3))))
set_option maxRecDepth 100000 in
set_option maxHeartbeats 4000000 in
theorem cells_Play_ok {z w : World} {L : List HProp} {K : Nat} {p0 : Int} {p1 : List T_api_Act} {va1 : Option Addr} {vc1 : Nat} {r0 : T_api_CellRun} {r1 : Int} (H : cells_Play K p0 p1 = some (r0, r1)) (h : Fit z (sepL (L)) w) (hv1 : RdRow L 5 enc_T_api_Act va1 p1) :
    Calls Try.prog 38 #[.int .i64 p0, .slice va1 p1.length vc1] w fun e w => ∃ car0_1 : Option Addr, ∃ ccr0_2 : Nat, ∃ car0_3 : Option Addr, ∃ car0_5 : Option Addr, e = .returned (.tuple #[.agg #[.slice car0_1 r0.Effects.length ccr0_2, .slice car0_3 r0.Cells.length r0.Cells.length, .slice car0_5 r0.Log.length r0.Log.length], .int .i64 r1]) ∧ Fit z (sepL (ro39 car0_1 ccr0_2 r0.Effects :: ro2 car0_3 r0.Cells.length r0.Cells :: ro90 car0_5 r0.Log.length r0.Log :: L)) w := by
  unfold cells_Play at H
  refine enter Try.func38 rfl 48 rfl rfl [(0, .int .i64 p0), (1, .slice va1 p1.length vc1)] ⟨rfl, rfl, trivial⟩ ?_
  intro j a hr
  refine wp_seq ?_
  refine wp_region_lit ?_
  refine op_new (wn rfl) rfl rfl hr h (vf := fun b => .pointer (some ⟨b, 0, none⟩)) (cs := #[.slice none 0 0, .slice none 0 0, .slice none 0 0]) (T := 70) (by kernel_rfl) ?_; clear h hr a; intro b1 w a h hr
  refine ov hr (.int .i64 0) (by kernel_rfl) ?_; clear hr a; intro a hr
  refine wpList_nil ?_
  refine then_normal ?_
  refine wp_seq ?_
  refine wp_region_lit ?_
  replace H := bd2 H; obtain ⟨r2, r3, e4, H⟩ := H
  refine ov hr (.int .i64 p0) (by kernel_rfl) ?_; clear hr a; intro a hr
  cases r2 with
  | some S5 =>
    have hc := cells_New_ok0 (H := e4) (h := h)
    refine op_call (wn rfl) rfl rfl hr (f := 19) (args := #[.int .i64 p0]) (by kernel_rfl) hc ?_; clear hc h
    rintro _ w ⟨Bn6, car7, ccr8, car9, ccr10, rfl, h⟩; refine ⟨_, rfl, ?_⟩
    clear hr a; intro a hr
    refine ovs [11, 14, 15, 6, 7] [.tuple #[.pointer (some ⟨Bn6, 0, none⟩), .int .i64 r3], .pointer (some ⟨Bn6, 0, none⟩), .int .i64 r3, .pointer (some ⟨Bn6, 0, none⟩), .int .i64 r3] hr ⟨rfl, rfl⟩ (by kernel_rfl) ?_; clear hr a; intro a hr
    refine wpList_nil ?_
    refine then_normal ?_
    refine wp_seq ?_
    refine wp_seq ?_
    refine wp_region_lit ?_
    refine ovs [16, 17] [.int .i64 r3, .bool (r3 != (0 : Int))] hr ⟨rfl, rfl⟩ (by kernel_rfl) ?_; clear hr a; intro a hr
    refine wpList_nil ?_
    refine then_normal ?_
    by_cases c11 : r3 = (0 : Int)
    ·
      replace H := ifT c11 H
      refine cond_ff hr (b := (r3 != (0 : Int))) (bne_eq_false_iff_eq.mpr c11) ?_
      refine wp_skip ?_
      refine then_normal ?_
      refine wp_seq ?_
      refine wp_seq ?_
      refine wp_region_lit ?_
      refine ovs [20, 21, 22] [.slice va1 p1.length vc1, .int .i64 ((p1.length : Nat) : Int), .bool (decide (((p1.length : Nat) : Int) > (4096 : Int)))] hr ⟨rfl, rfl⟩ (by kernel_rfl) ?_; clear hr a; intro a hr
      refine wpList_nil ?_
      refine then_normal ?_
      by_cases c12 : ((p1.length : Nat) : Int) > (4096 : Int)
      ·
        replace H := ifT c12 H
        refine cond_tt hr (b := (decide (((p1.length : Nat) : Int) > (4096 : Int)))) (decide_eq_true c12) ?_
        refine wp_seq ?_
        refine wp_region_lit ?_
        refine ov hr (.agg #[.slice none 0 0, .slice none 0 0, .slice none 0 0]) (by kernel_rfl) ?_; clear hr a; intro a hr
        replace h : Fit z (sepL (pts b1 (.cells #[.slice none 0 0, .slice none 0 0, .slice none 0 0] 70) :: ob96 Bn6 S5 car7 ccr8 car9 ccr10 :: ro2 car7 ccr8 S5.cell :: ro90 car9 ccr10 S5.log :: L)) _ := h.sel 4 [3, 0, 1, 2] (by kernel_rfl) (by kernel_rfl)
        refine op_stores (wn rfl) rfl hr rfl (by kernel_rfl) (by kernel_rfl) (vs := [.slice none 0 0, .slice none 0 0, .slice none 0 0]) rfl rfl (by kernel_rfl) h (i := 0) (cs' := #[.slice none 0 0, .slice none 0 0, .slice none 0 0]) rfl ?_; clear h; intro w h
        refine ov hr (.int .i64 2) (by kernel_rfl) ?_; clear hr a; intro a hr
        refine wpList_nil ?_
        replace h : Fit z (sepL (pts b1 (.cells #[.slice none 0 0, .slice none 0 0, .slice none 0 0] 70) :: ob96 Bn6 S5 car7 ccr8 car9 ccr10 :: ro2 car7 ccr8 S5.cell :: ro90 car9 ccr10 S5.log :: L)) _ := h
        refine then_normal ?_
        refine wp_ret ?_
        refine then_ret ?_
        refine end_retCT (cs := [.slice none 0 0, .slice none 0 0, .slice none 0 0]) (v := .int .i64 2) rfl hr (by kernel_rfl) (by kernel_rfl) (by kernel_rfl) (by kernel_rfl) ⟨h.cell 0 rfl, h.cell 1 rfl, h.cell 2 rfl, trivial⟩ ?_
        replace h : Fit z (sepL (rowOf 39 3 enc_T_api_Effect (.slice none 0 0) ([] : List T_api_Effect) :: pts b1 (.cells #[.slice none 0 0, .slice none 0 0, .slice none 0 0] 70) :: ob96 Bn6 S5 car7 ccr8 car9 ccr10 :: ro2 car7 ccr8 S5.cell :: ro90 car9 ccr10 S5.log :: L)) _ := h.row_nil
        replace h : Fit z (sepL (rowOf 2 1 encZ_i64 (.slice none 0 0) ([] : List Int) :: rowOf 39 3 enc_T_api_Effect (.slice none 0 0) ([] : List T_api_Effect) :: pts b1 (.cells #[.slice none 0 0, .slice none 0 0, .slice none 0 0] 70) :: ob96 Bn6 S5 car7 ccr8 car9 ccr10 :: ro2 car7 ccr8 S5.cell :: ro90 car9 ccr10 S5.log :: L)) _ := h.row_nil
        replace h : Fit z (sepL (rowOf 90 6 enc_T_api_Access (.slice none 0 0) ([] : List T_api_Access) :: rowOf 2 1 encZ_i64 (.slice none 0 0) ([] : List Int) :: rowOf 39 3 enc_T_api_Effect (.slice none 0 0) ([] : List T_api_Effect) :: pts b1 (.cells #[.slice none 0 0, .slice none 0 0, .slice none 0 0] 70) :: ob96 Bn6 S5 car7 ccr8 car9 ccr10 :: ro2 car7 ccr8 S5.cell :: ro90 car9 ccr10 S5.log :: L)) _ := h.row_nil
        replace h : Fit z (sepL (rowOf 39 3 enc_T_api_Effect (.slice none 0 0) ([] : List T_api_Effect) :: rowOf 2 1 encZ_i64 (.slice none 0 0) ([] : List Int) :: rowOf 90 6 enc_T_api_Access (.slice none 0 0) ([] : List T_api_Access) :: L)) _ := h.sel 7 [2, 1, 0] (by kernel_rfl) (by kernel_rfl)
        replace H := ej2 H; obtain ⟨rfl, rfl⟩ := H
        exact ⟨none, 0, none, none, rfl, h⟩
      ·
        replace H := ifF c12 H
        refine cond_ff hr (b := (decide (((p1.length : Nat) : Int) > (4096 : Int)))) (decide_eq_false c12) ?_
        refine wp_skip ?_
        refine then_normal ?_
        refine wp_seq ?_
        refine wp_region_lit ?_
        replace H := bd1 H; obtain ⟨S13, e14, H⟩ := H
        refine ov hr (.pointer (some ⟨Bn6, 0, none⟩)) (by kernel_rfl) ?_; clear hr a; intro a hr
        have hc := cells_Arena_Watch_ok (H := e14) (h := h)
        refine op_call (wn rfl) rfl rfl hr (f := 88) (args := #[.pointer (some ⟨Bn6, 0, none⟩), .bool true]) (by kernel_rfl) hc ?_; clear hc h
        rintro _ w ⟨caq15, ccq16, caq17, ccq18, rfl, h⟩; refine ⟨_, rfl, ?_⟩
        clear hr a; intro a hr
        refine wpList_nil ?_
        refine then_normal ?_
        refine wp_seq ?_
        refine wp_region_lit ?_
        refine op_new (wn rfl) rfl rfl hr h (vf := fun b => .pointer (some ⟨b, 0, none⟩)) (cs := #[.slice none 0 0, .slice none 0 0, .slice none 0 0]) (T := 70) (by kernel_rfl) ?_; clear h hr a; intro b19 w a h hr
        refine wpList_nil ?_
        refine then_normal ?_
        replace H := kd2 H; obtain ⟨o29, H, hK28⟩ := H
        refine cut_rule (β := Unit) (fun _ a w => ∃ ca21 : Option Addr, ∃ cc22 : Nat, ∃ ca23 : Option Addr, ∃ cc24 : Nat, ∃ ca25 : Option Addr, ∃ cc26 : Nat, ∃ S20 : T_cells_Arena, ∃ l27 : List T_api_Effect, (S20, l27) = o29 ∧ ∃ j, Rep 48 (lk [(4, .pointer (some ⟨b1, 0, none⟩)), (6, .pointer (some ⟨Bn6, 0, none⟩)), (8, .pointer (some ⟨b19, 0, none⟩))] j) a ∧ Fit z (sepL (pts b1 (.cells #[.slice none 0 0, .slice none 0 0, .slice none 0 0] 70) :: ob96 Bn6 S20 ca21 cc22 ca23 cc24 :: ro2 ca21 cc22 S20.cell :: ro90 ca23 cc24 S20.log :: pts b19 (.cells #[.slice ca25 l27.length cc26, .slice none 0 0, .slice none 0 0] 70) :: ro39 ca25 cc26 l27 :: L)) w) ?_ ?_
        ·
          refine wp_seq ?_
          refine wp_region_lit ?_
          refine ovs [26, 27, 28] [.slice va1 p1.length vc1, .int .i64 ((p1.length : Nat) : Int), .int .i64 0] hr ⟨rfl, rfl⟩ (by kernel_rfl) ?_; clear hr a; intro a hr
          refine wpList_nil ?_
          refine then_normal ?_
          refine wp_block ?_
          replace hr := hr.fold2 [(4, .pointer (some ⟨b1, 0, none⟩)), (6, .pointer (some ⟨Bn6, 0, none⟩)), (8, .pointer (some ⟨b19, 0, none⟩)), (26, .slice va1 p1.length vc1), (27, .int .i64 ((p1.length : Nat) : Int)), (28, .int .i64 0)] (by kernel_rfl); obtain ⟨j, hr⟩ := hr
          replace h : Fit z (sepL (rowOf 39 3 enc_T_api_Effect (.slice none 0 0) ([] : List T_api_Effect) :: pts b19 (.cells #[.slice none 0 0, .slice none 0 0, .slice none 0 0] 70) :: ob96 Bn6 S13 caq15 ccq16 caq17 ccq18 :: ro2 caq15 ccq16 S13.cell :: ro90 caq17 ccq18 S13.log :: pts b1 (.cells #[.slice none 0 0, .slice none 0 0, .slice none 0 0] 70) :: L)) _ := h.row_nil
          replace h : Fit z (sepL (pts b1 (.cells #[.slice none 0 0, .slice none 0 0, .slice none 0 0] 70) :: ob96 Bn6 S13 caq15 ccq16 caq17 ccq18 :: ro2 caq15 ccq16 S13.cell :: ro90 caq17 ccq18 S13.log :: pts b19 (.cells #[.slice none (([] : List T_api_Effect).length) 0, .slice none 0 0, .slice none 0 0] 70) :: rowOf 39 3 enc_T_api_Effect (.slice none (([] : List T_api_Effect).length) 0) ([] : List T_api_Effect) :: L)) _ := h.sel 6 [5, 2, 3, 4, 1, 0] (by kernel_rfl) (by kernel_rfl)
          refine loop_rule (β := Nat) id (fun m a w => ∃ ca31 : Option Addr, ∃ cc32 : Nat, ∃ ca33 : Option Addr, ∃ cc34 : Nat, ∃ ca35 : Option Addr, ∃ cc36 : Nat, ∃ S30 : T_cells_Arena, ∃ l37 : List T_api_Effect, ∃ g38 : Int, (cells_Play_l1 K p1 m S30 l37 g38) = some o29 ∧ ∃ j, Rep 48 (lk [(4, .pointer (some ⟨b1, 0, none⟩)), (6, .pointer (some ⟨Bn6, 0, none⟩)), (8, .pointer (some ⟨b19, 0, none⟩)), (26, .slice va1 p1.length vc1), (27, .int .i64 ((p1.length : Nat) : Int)), (28, .int .i64 g38)] j) a ∧ Fit z (sepL (pts b1 (.cells #[.slice none 0 0, .slice none 0 0, .slice none 0 0] 70) :: ob96 Bn6 S30 ca31 cc32 ca33 cc34 :: ro2 ca31 cc32 S30.cell :: ro90 ca33 cc34 S30.log :: pts b19 (.cells #[.slice ca35 l37.length cc36, .slice none 0 0, .slice none 0 0] 70) :: ro39 ca35 cc36 l37 :: L)) w) K ⟨caq15, ccq16, caq17, ccq18, none, 0, S13, ([] : List T_api_Effect), 0, H, j, hr, h⟩ ?_
          clear h hr a H; rintro k1 a w ⟨ca31, cc32, ca33, cc34, ca35, cc36, S30, l37, g38, H, j, hr, h⟩
          cases k1 with
          | zero => exact absurd H (by simp [cells_Play_l1])
          | succ k1 =>
            rw [cells_Play_l1] at H
            refine wp_seq ?_
            refine wp_region_lit ?_
            refine ov hr (.bool (decide (g38 < ((p1.length : Nat) : Int)))) (by kernel_rfl) ?_; clear hr a; intro a hr
            refine wpList_nil ?_
            refine then_normal ?_
            refine wp_seq ?_
            by_cases c39 : g38 < ((p1.length : Nat) : Int)
            ·
              replace H := ifT c39 H
              refine cond_tt hr (b := (decide (g38 < ((p1.length : Nat) : Int)))) (decide_eq_true c39) ?_
              refine wp_skip ?_
              refine then_normal ?_
              refine wp_seq ?_
              refine wp_block ?_
              refine wp_seq ?_
              refine wp_region_lit ?_
              replace H := gd H; obtain ⟨c40, H⟩ := H
              refine op_val (wn rfl) rfl rfl hr (v := .pointer (some ⟨blk va1, offs va1 + g38.toNat * 5, none⟩)) (ri_rd (k := .i64) (E := 57) (cc := vc1) rfl (by kernel_rfl) (by kernel_rfl) rfl (by kernel_rfl) (by kernel_rfl) hv1 c40) ?_; clear hr a; intro a hr
              refine op_val (wn rfl) rfl rfl hr (v := .agg #[.int .i64 ((at_ p1 g38.toNat).Who), .int .i64 ((at_ p1 g38.toNat).Kind), .int .i64 ((at_ p1 g38.toNat).Addr), .int .i64 ((at_ p1 g38.toNat).A), .int .i64 ((at_ p1 g38.toNat).B)]) (rlm (cs := [.int .i64 ((at_ p1 g38.toNat).Who), .int .i64 ((at_ p1 g38.toNat).Kind), .int .i64 ((at_ p1 g38.toNat).Addr), .int .i64 ((at_ p1 g38.toNat).A), .int .i64 ((at_ p1 g38.toNat).B)]) rfl (by kernel_rfl) (by kernel_rfl) (by kernel_rfl) ⟨hv1.cell c40 (h.dn 6) 0 rfl, hv1.cell c40 (h.dn 6) 1 rfl, hv1.cell c40 (h.dn 6) 2 rfl, hv1.cell c40 (h.dn 6) 3 rfl, hv1.cell c40 (h.dn 6) 4 rfl, trivial⟩) ?_; clear hr a; intro a hr
              refine op_new (wn rfl) rfl rfl hr h (vf := fun b => .pointer (some ⟨b, 0, none⟩)) (cs := #[.int .i64 0, .int .i64 0, .int .i64 0, .int .i64 0, .int .i64 0]) (T := 57) (by kernel_rfl) ?_; clear h hr a; intro b41 w a h hr
              refine op_stores (wn rfl) rfl hr rfl (by kernel_rfl) (by kernel_rfl) (vs := [.int .i64 ((at_ p1 g38.toNat).Who), .int .i64 ((at_ p1 g38.toNat).Kind), .int .i64 ((at_ p1 g38.toNat).Addr), .int .i64 ((at_ p1 g38.toNat).A), .int .i64 ((at_ p1 g38.toNat).B)]) rfl rfl (by kernel_rfl) h (i := 0) (cs' := #[.int .i64 ((at_ p1 g38.toNat).Who), .int .i64 ((at_ p1 g38.toNat).Kind), .int .i64 ((at_ p1 g38.toNat).Addr), .int .i64 ((at_ p1 g38.toNat).A), .int .i64 ((at_ p1 g38.toNat).B)]) rfl ?_; clear h; intro w h
              refine wpList_nil ?_
              replace h : Fit z (sepL (ob57 b41 (at_ p1 g38.toNat) :: pts b1 (.cells #[.slice none 0 0, .slice none 0 0, .slice none 0 0] 70) :: ob96 Bn6 S30 ca31 cc32 ca33 cc34 :: ro2 ca31 cc32 S30.cell :: ro90 ca33 cc34 S30.log :: pts b19 (.cells #[.slice ca35 l37.length cc36, .slice none 0 0, .slice none 0 0] 70) :: ro39 ca35 cc36 l37 :: L)) _ := h
              refine then_normal ?_
              replace H := bd2 H; obtain ⟨r42, S43, e44, H⟩ := H
              replace H := gd H; obtain ⟨c52, H⟩ := H
              refine reg_E (fun w => heldC w b19 0 [.slice ca35 l37.length cc36] ∧ heldC w b41 0 [.int .i64 ((at_ p1 g38.toNat).Who), .int .i64 ((at_ p1 g38.toNat).Kind), .int .i64 ((at_ p1 g38.toNat).Addr), .int .i64 ((at_ p1 g38.toNat).A), .int .i64 ((at_ p1 g38.toNat).B)] ∧ True) [0, 4] h (by kernel_rfl) ?_; intro w h
              change wpAnyE _ _ _ _ _ _ 9 (Array.replicate 9 false) a w
              have hgo : ∀ w w', CellsGo w w' → (heldC w b19 0 [.slice ca35 l37.length cc36] ∧ heldC w b41 0 [.int .i64 ((at_ p1 g38.toNat).Who), .int .i64 ((at_ p1 g38.toNat).Kind), .int .i64 ((at_ p1 g38.toNat).Addr), .int .i64 ((at_ p1 g38.toNat).A), .int .i64 ((at_ p1 g38.toNat).B)] ∧ True) → heldC w' b19 0 [.slice ca35 l37.length cc36] ∧ heldC w' b41 0 [.int .i64 ((at_ p1 g38.toNat).Who), .int .i64 ((at_ p1 g38.toNat).Kind), .int .i64 ((at_ p1 g38.toNat).Addr), .int .i64 ((at_ p1 g38.toNat).A), .int .i64 ((at_ p1 g38.toNat).B)] ∧ True := fun w w' g hD => ⟨heldC_go _ _ _ _ _ g hD.1, heldC_go _ _ _ _ _ g hD.2.1, trivial⟩
              refine evD hgo ⟨⟨(h.pick 5).cell 0 rfl, trivial⟩, ⟨h.cell 0 rfl, h.cell 1 rfl, h.cell 2 rfl, h.cell 3 rfl, h.cell 4 rfl, trivial⟩, trivial⟩ 8 0 rfl (by kernel_rfl) (wn rfl) hr (.pointer (some ⟨b19, 0, none⟩)) (fun w => by kernel_rfl) ?_; clear hr a; intro a hr
              refine ev 7 2 rfl (by kernel_rfl) (wn rfl) hr (.pointer (some ⟨Bn6, 0, none⟩)) (fun w => by kernel_rfl) ?_; clear hr a; intro a hr
              refine el [0, 4] (b := b19) (off := 0) (cs := [.slice ca35 l37.length cc36]) (fun _ hk => ⟨hk, fun w hD => hD.1⟩) 6 1 rfl (by kernel_rfl) (wn rfl) hr (.slice ca35 l37.length cc36) ⟨(h.pick 5).cell 0 rfl, trivial⟩ (fun w hc => rl rfl (by kernel_rfl) (by kernel_rfl) hc.1) ?_; clear hr a; intro a hr
              refine el [0, 4] (b := b41) (off := 0) (cs := [.int .i64 ((at_ p1 g38.toNat).Who), .int .i64 ((at_ p1 g38.toNat).Kind), .int .i64 ((at_ p1 g38.toNat).Addr), .int .i64 ((at_ p1 g38.toNat).A), .int .i64 ((at_ p1 g38.toNat).B)]) (fun _ hk => ⟨hk, fun w hD => hD.2.1⟩) 5 3 rfl (by kernel_rfl) (wn rfl) hr (.agg #[.int .i64 ((at_ p1 g38.toNat).Who), .int .i64 ((at_ p1 g38.toNat).Kind), .int .i64 ((at_ p1 g38.toNat).Addr), .int .i64 ((at_ p1 g38.toNat).A), .int .i64 ((at_ p1 g38.toNat).B)]) ⟨h.cell 0 rfl, h.cell 1 rfl, h.cell 2 rfl, h.cell 3 rfl, h.cell 4 rfl, trivial⟩ (fun w hc => rlm (cs := [.int .i64 ((at_ p1 g38.toNat).Who), .int .i64 ((at_ p1 g38.toNat).Kind), .int .i64 ((at_ p1 g38.toNat).Addr), .int .i64 ((at_ p1 g38.toNat).A), .int .i64 ((at_ p1 g38.toNat).B)]) rfl (by kernel_rfl) (by kernel_rfl) (by kernel_rfl) hc) ?_; clear hr a; intro a hr
              refine e_one (fuel := 4) (i := 4) (by kernel_rfl) rfl ?_
              replace h : Fit z (sepL (ob96 Bn6 S30 ca31 cc32 ca33 cc34 :: ro2 ca31 cc32 S30.cell :: ro90 ca33 cc34 S30.log :: ob57 b41 (at_ p1 g38.toNat) :: pts b1 (.cells #[.slice none 0 0, .slice none 0 0, .slice none 0 0] 70) :: pts b19 (.cells #[.slice ca35 l37.length cc36, .slice none 0 0, .slice none 0 0] 70) :: ro39 ca35 cc36 l37 :: L)) _ := h.sel 7 [2, 3, 4, 0, 1, 5, 6] (by kernel_rfl) (by kernel_rfl)
              have hc := cells_Arena_act_ok (H := e44) (h := h)
              refine op_call (wn rfl) rfl rfl hr (f := 89) (args := #[.pointer (some ⟨Bn6, 0, none⟩), .agg #[.int .i64 ((at_ p1 g38.toNat).Who), .int .i64 ((at_ p1 g38.toNat).Kind), .int .i64 ((at_ p1 g38.toNat).Addr), .int .i64 ((at_ p1 g38.toNat).A), .int .i64 ((at_ p1 g38.toNat).B)]]) (by kernel_rfl) hc ?_; clear hc h
              rintro _ w ⟨caq45, ccq46, caq47, ccq48, rfl, h⟩; refine ⟨_, rfl, ?_⟩
              clear hr a; intro a hr
              refine wpList_nil ?_; refine then_normal ?_
              refine ⟨fun _ => ⟨⟨(h.pick 5).cell 0 rfl, trivial⟩, ⟨(h.pick 3).cell 0 rfl, (h.pick 3).cell 1 rfl, (h.pick 3).cell 2 rfl, (h.pick 3).cell 3 rfl, (h.pick 3).cell 4 rfl, trivial⟩, trivial⟩, ?_⟩
              refine e_one (fuel := 3) (i := 5) (by kernel_rfl) rfl ?_
              refine op_new (wn rfl) rfl rfl hr h (vf := fun b => .slice (some ⟨b, 0, none⟩) 1 1) (cs := #[.int .i64 r42.V, .bool r42.OK, .int .i64 r42.Err]) (T := 39) (by kernel_rfl) ?_; clear h hr a; intro b49 w a h hr
              refine wpList_nil ?_; refine then_normal ?_
              refine ⟨fun hE => absurd hE (by decide), ?_⟩
              refine e_one (fuel := 2) (i := 6) (by kernel_rfl) rfl ?_
              replace h : Fit z (sepL (ro39 ca35 cc36 l37 :: ob39 b49 r42 :: ob96 Bn6 S43 caq45 ccq46 caq47 ccq48 :: ro2 caq45 ccq46 S43.cell :: ro90 caq47 ccq48 S43.log :: ob57 b41 (at_ p1 g38.toNat) :: pts b1 (.cells #[.slice none 0 0, .slice none 0 0, .slice none 0 0] 70) :: pts b19 (.cells #[.slice ca35 l37.length cc36, .slice none 0 0, .slice none 0 0] 70) :: L)) _ := h.sel 8 [7, 0, 1, 2, 3, 4, 5, 6] (by kernel_rfl) (by kernel_rfl)
              refine op_append (n0 := l37.length) (c := 1) (bytes := 24) (wn rfl) rfl rfl hr rfl (by kernel_rfl) (by kernel_rfl) enc_T_api_Effect_ok (E := 39) (xs := l37) (by kernel_rfl) (by kernel_rfl) h (news := [r42]) (m := 1) rfl ((h.pick 1).news rfl) c52 rfl ?_; clear h hr a; intro ca50 cc51 w a h hr
              refine wpList_nil ?_; refine then_normal ?_
              replace h : Fit z (sepL (ro39 ca50 cc51 (l37 ++ [r42]) :: ob39 b49 r42 :: ob96 Bn6 S43 caq45 ccq46 caq47 ccq48 :: ro2 caq45 ccq46 S43.cell :: ro90 caq47 ccq48 S43.log :: ob57 b41 (at_ p1 g38.toNat) :: pts b1 (.cells #[.slice none 0 0, .slice none 0 0, .slice none 0 0] 70) :: pts b19 (.cells #[.slice ca35 l37.length cc36, .slice none 0 0, .slice none 0 0] 70) :: L)) _ := h
              refine ⟨fun hE => absurd hE (by decide), ?_⟩
              refine ev 1 7 rfl (by kernel_rfl) (wn rfl) hr (.pointer (some ⟨b19, 0, none⟩)) (fun w => by kernel_rfl) ?_; clear hr a; intro a hr
              refine e_one (fuel := 0) (i := 8) (by kernel_rfl) rfl ?_
              replace h : Fit z (sepL (pts b19 (.cells #[.slice ca35 l37.length cc36, .slice none 0 0, .slice none 0 0] 70) :: ro39 ca50 cc51 (l37 ++ [r42]) :: ob39 b49 r42 :: ob96 Bn6 S43 caq45 ccq46 caq47 ccq48 :: ro2 caq45 ccq46 S43.cell :: ro90 caq47 ccq48 S43.log :: ob57 b41 (at_ p1 g38.toNat) :: pts b1 (.cells #[.slice none 0 0, .slice none 0 0, .slice none 0 0] 70) :: L)) _ := h.sel 8 [7, 0, 1, 2, 3, 4, 5, 6] (by kernel_rfl) (by kernel_rfl)
              refine op_store (wn rfl) rfl hr rfl (by kernel_rfl) (by kernel_rfl) (v := .slice ca50 ((l37 ++ [r42]).length) cc51) rfl rfl (by kernel_rfl) h (i := 0) rfl ?_; clear h; intro w h
              refine wpList_nil ?_; refine then_normal ?_
              replace h : Fit z (sepL (pts b19 (.cells #[.slice ca50 ((l37 ++ [r42]).length) cc51, .slice none 0 0, .slice none 0 0] 70) :: ro39 ca50 cc51 (l37 ++ [r42]) :: ob39 b49 r42 :: ob96 Bn6 S43 caq45 ccq46 caq47 ccq48 :: ro2 caq45 ccq46 S43.cell :: ro90 caq47 ccq48 S43.log :: ob57 b41 (at_ p1 g38.toNat) :: pts b1 (.cells #[.slice none 0 0, .slice none 0 0, .slice none 0 0] 70) :: L)) _ := h
              refine ⟨fun hE => absurd hE (by decide), ?_⟩
              refine e_end (by kernel_rfl) ?_
              refine blk_normal ?_
              refine then_normal ?_
              refine wp_region_lit ?_
              refine ovs [40, 28] [.int .i64 (wi (g38 + (1 : Int))), .int .i64 (wi (g38 + (1 : Int)))] hr ⟨rfl, rfl⟩ (by kernel_rfl) ?_; clear hr a; intro a hr
              refine wpList_nil ?_
              refine then_normal ?_
              replace hr := hr.fold2 [(4, .pointer (some ⟨b1, 0, none⟩)), (6, .pointer (some ⟨Bn6, 0, none⟩)), (8, .pointer (some ⟨b19, 0, none⟩)), (26, .slice va1 p1.length vc1), (27, .int .i64 ((p1.length : Nat) : Int)), (28, .int .i64 (wi (g38 + (1 : Int))))] (by kernel_rfl); obtain ⟨j, hr⟩ := hr
              replace h : Fit z (sepL (pts b1 (.cells #[.slice none 0 0, .slice none 0 0, .slice none 0 0] 70) :: ob96 Bn6 S43 caq45 ccq46 caq47 ccq48 :: ro2 caq45 ccq46 S43.cell :: ro90 caq47 ccq48 S43.log :: pts b19 (.cells #[.slice ca50 ((l37 ++ [r42]).length) cc51, .slice none 0 0, .slice none 0 0] 70) :: ro39 ca50 cc51 (l37 ++ [r42]) :: L)) _ := h.sel 8 [7, 3, 4, 5, 0, 1] (by kernel_rfl) (by kernel_rfl)
              exact ⟨_, ⟨caq45, ccq46, caq47, ccq48, ca50, cc51, S43, (l37 ++ [r42]), (wi (g38 + (1 : Int))), H, j, hr, h⟩, Nat.lt_succ_self _⟩
            ·
              replace H := ifF c39 H
              refine cond_ff hr (b := (decide (g38 < ((p1.length : Nat) : Int)))) (decide_eq_false c39) ?_
              refine wp_exit ?_
              refine then_exit ?_
              refine then_exit ?_
              refine blk_here ?_
              refine then_normal ?_
              replace hr := hr.fold2 [(4, .pointer (some ⟨b1, 0, none⟩)), (6, .pointer (some ⟨Bn6, 0, none⟩)), (8, .pointer (some ⟨b19, 0, none⟩))] (by kernel_rfl); obtain ⟨j, hr⟩ := hr
              exact ⟨(), ca31, cc32, ca33, cc34, ca35, cc36, S30, l37, sinj H, j, hr, h⟩
        clear h hr a; rintro _ a w ⟨ca21, cc22, ca23, cc24, ca25, cc26, S20, l27, rfl, j, hr, h⟩
        replace H := kk2 hK28
        refine wp_seq ?_
        refine wp_region_lit ?_
        replace H := bd1 H; obtain ⟨r53, e54, H⟩ := H
        refine ov hr (.pointer (some ⟨Bn6, 0, none⟩)) (by kernel_rfl) ?_; clear hr a; intro a hr
        replace h : Fit z (sepL (ob96 Bn6 S20 ca21 cc22 ca23 cc24 :: ro2 ca21 cc22 S20.cell :: ro90 ca23 cc24 S20.log :: pts b1 (.cells #[.slice none 0 0, .slice none 0 0, .slice none 0 0] 70) :: pts b19 (.cells #[.slice ca25 l27.length cc26, .slice none 0 0, .slice none 0 0] 70) :: ro39 ca25 cc26 l27 :: L)) _ := h.sel 6 [1, 2, 3, 0, 4, 5] (by kernel_rfl) (by kernel_rfl)
        have hc := cells_Arena_Cells_ok (H := e54) (h := h)
        refine op_call (wn rfl) rfl rfl hr (f := 24) (args := #[.pointer (some ⟨Bn6, 0, none⟩)]) (by kernel_rfl) hc ?_; clear hc h
        rintro _ w ⟨car55, rfl, h⟩; refine ⟨_, rfl, ?_⟩
        clear hr a; intro a hr
        refine ov hr (.pointer (some ⟨b19, 1, none⟩)) (by kernel_rfl) ?_; clear hr a; intro a hr
        replace h : Fit z (sepL (pts b19 (.cells #[.slice ca25 l27.length cc26, .slice none 0 0, .slice none 0 0] 70) :: ob96 Bn6 S20 ca21 cc22 ca23 cc24 :: ro2 ca21 cc22 S20.cell :: ro90 ca23 cc24 S20.log :: ro2 car55 r53.length r53 :: pts b1 (.cells #[.slice none 0 0, .slice none 0 0, .slice none 0 0] 70) :: ro39 ca25 cc26 l27 :: L)) _ := h.sel 7 [5, 0, 1, 2, 3, 4, 6] (by kernel_rfl) (by kernel_rfl)
        refine op_store (wn rfl) rfl hr rfl (by kernel_rfl) (by kernel_rfl) (v := .slice car55 r53.length r53.length) rfl rfl (by kernel_rfl) h (i := 1) rfl ?_; clear h; intro w h
        refine wpList_nil ?_
        replace h : Fit z (sepL (pts b19 (.cells #[.slice ca25 l27.length cc26, .slice car55 r53.length r53.length, .slice none 0 0] 70) :: ob96 Bn6 S20 ca21 cc22 ca23 cc24 :: ro2 ca21 cc22 S20.cell :: ro90 ca23 cc24 S20.log :: ro2 car55 r53.length r53 :: pts b1 (.cells #[.slice none 0 0, .slice none 0 0, .slice none 0 0] 70) :: ro39 ca25 cc26 l27 :: L)) _ := h
        refine then_normal ?_
        refine wp_seq ?_
        refine wp_region_lit ?_
        replace H := bd1 H; obtain ⟨r56, e57, H⟩ := H
        refine ov hr (.pointer (some ⟨Bn6, 0, none⟩)) (by kernel_rfl) ?_; clear hr a; intro a hr
        replace h : Fit z (sepL (ob96 Bn6 S20 ca21 cc22 ca23 cc24 :: ro2 ca21 cc22 S20.cell :: ro90 ca23 cc24 S20.log :: pts b19 (.cells #[.slice ca25 l27.length cc26, .slice car55 r53.length r53.length, .slice none 0 0] 70) :: ro2 car55 r53.length r53 :: pts b1 (.cells #[.slice none 0 0, .slice none 0 0, .slice none 0 0] 70) :: ro39 ca25 cc26 l27 :: L)) _ := h.sel 7 [1, 2, 3, 0, 4, 5, 6] (by kernel_rfl) (by kernel_rfl)
        have hc := cells_Arena_Log_ok (H := e57) (h := h)
        refine op_call (wn rfl) rfl rfl hr (f := 70) (args := #[.pointer (some ⟨Bn6, 0, none⟩)]) (by kernel_rfl) hc ?_; clear hc h
        rintro _ w ⟨car58, rfl, h⟩; refine ⟨_, rfl, ?_⟩
        clear hr a; intro a hr
        refine ov hr (.pointer (some ⟨b19, 2, none⟩)) (by kernel_rfl) ?_; clear hr a; intro a hr
        replace h : Fit z (sepL (pts b19 (.cells #[.slice ca25 l27.length cc26, .slice car55 r53.length r53.length, .slice none 0 0] 70) :: ob96 Bn6 S20 ca21 cc22 ca23 cc24 :: ro2 ca21 cc22 S20.cell :: ro90 ca23 cc24 S20.log :: ro90 car58 r56.length r56 :: ro2 car55 r53.length r53 :: pts b1 (.cells #[.slice none 0 0, .slice none 0 0, .slice none 0 0] 70) :: ro39 ca25 cc26 l27 :: L)) _ := h.sel 8 [4, 0, 1, 2, 3, 5, 6, 7] (by kernel_rfl) (by kernel_rfl)
        refine op_store (wn rfl) rfl hr rfl (by kernel_rfl) (by kernel_rfl) (v := .slice car58 r56.length r56.length) rfl rfl (by kernel_rfl) h (i := 2) rfl ?_; clear h; intro w h
        refine wpList_nil ?_
        replace h : Fit z (sepL (pts b19 (.cells #[.slice ca25 l27.length cc26, .slice car55 r53.length r53.length, .slice car58 r56.length r56.length] 70) :: ob96 Bn6 S20 ca21 cc22 ca23 cc24 :: ro2 ca21 cc22 S20.cell :: ro90 ca23 cc24 S20.log :: ro90 car58 r56.length r56 :: ro2 car55 r53.length r53 :: pts b1 (.cells #[.slice none 0 0, .slice none 0 0, .slice none 0 0] 70) :: ro39 ca25 cc26 l27 :: L)) _ := h
        refine then_normal ?_
        refine wp_seq ?_
        refine wp_region_lit ?_
        refine op_val (wn rfl) rfl rfl hr (v := .agg #[.slice ca25 l27.length cc26, .slice car55 r53.length r53.length, .slice car58 r56.length r56.length]) (rlm (cs := [.slice ca25 l27.length cc26, .slice car55 r53.length r53.length, .slice car58 r56.length r56.length]) rfl (by kernel_rfl) (by kernel_rfl) (by kernel_rfl) ⟨h.cell 0 rfl, h.cell 1 rfl, h.cell 2 rfl, trivial⟩) ?_; clear hr a; intro a hr
        replace h : Fit z (sepL (pts b1 (.cells #[.slice none 0 0, .slice none 0 0, .slice none 0 0] 70) :: pts b19 (.cells #[.slice ca25 l27.length cc26, .slice car55 r53.length r53.length, .slice car58 r56.length r56.length] 70) :: ob96 Bn6 S20 ca21 cc22 ca23 cc24 :: ro2 ca21 cc22 S20.cell :: ro90 ca23 cc24 S20.log :: ro90 car58 r56.length r56 :: ro2 car55 r53.length r53 :: ro39 ca25 cc26 l27 :: L)) _ := h.sel 8 [6, 0, 1, 2, 3, 4, 5, 7] (by kernel_rfl) (by kernel_rfl)
        refine op_stores (wn rfl) rfl hr rfl (by kernel_rfl) (by kernel_rfl) (vs := [.slice ca25 l27.length cc26, .slice car55 r53.length r53.length, .slice car58 r56.length r56.length]) rfl rfl (by kernel_rfl) h (i := 0) (cs' := #[.slice ca25 l27.length cc26, .slice car55 r53.length r53.length, .slice car58 r56.length r56.length]) rfl ?_; clear h; intro w h
        refine ov hr (.int .i64 0) (by kernel_rfl) ?_; clear hr a; intro a hr
        refine wpList_nil ?_
        replace h : Fit z (sepL (pts b1 (.cells #[.slice ca25 l27.length cc26, .slice car55 r53.length r53.length, .slice car58 r56.length r56.length] 70) :: pts b19 (.cells #[.slice ca25 l27.length cc26, .slice car55 r53.length r53.length, .slice car58 r56.length r56.length] 70) :: ob96 Bn6 S20 ca21 cc22 ca23 cc24 :: ro2 ca21 cc22 S20.cell :: ro90 ca23 cc24 S20.log :: ro90 car58 r56.length r56 :: ro2 car55 r53.length r53 :: ro39 ca25 cc26 l27 :: L)) _ := h
        refine then_normal ?_
        refine wp_ret ?_
        refine end_retCT (cs := [.slice ca25 l27.length cc26, .slice car55 r53.length r53.length, .slice car58 r56.length r56.length]) (v := .int .i64 0) rfl hr (by kernel_rfl) (by kernel_rfl) (by kernel_rfl) (by kernel_rfl) ⟨h.cell 0 rfl, h.cell 1 rfl, h.cell 2 rfl, trivial⟩ ?_
        replace h : Fit z (sepL (ro39 ca25 cc26 l27 :: ro2 car55 r53.length r53 :: ro90 car58 r56.length r56 :: L)) _ := h.sel 8 [7, 6, 5] (by kernel_rfl) (by kernel_rfl)
        replace H := ej2 H; obtain ⟨rfl, rfl⟩ := H
        exact ⟨ca25, cc26, car55, car58, rfl, h⟩
    ·
      replace H := ifF c11 H
      refine cond_tt hr (b := (r3 != (0 : Int))) (bne_iff_ne.mpr c11) ?_
      refine wp_seq ?_
      refine wp_region_lit ?_
      refine ovs [18, 19] [.agg #[.slice none 0 0, .slice none 0 0, .slice none 0 0], .int .i64 r3] hr ⟨rfl, rfl⟩ (by kernel_rfl) ?_; clear hr a; intro a hr
      replace h : Fit z (sepL (pts b1 (.cells #[.slice none 0 0, .slice none 0 0, .slice none 0 0] 70) :: ob96 Bn6 S5 car7 ccr8 car9 ccr10 :: ro2 car7 ccr8 S5.cell :: ro90 car9 ccr10 S5.log :: L)) _ := h.sel 4 [3, 0, 1, 2] (by kernel_rfl) (by kernel_rfl)
      refine op_stores (wn rfl) rfl hr rfl (by kernel_rfl) (by kernel_rfl) (vs := [.slice none 0 0, .slice none 0 0, .slice none 0 0]) rfl rfl (by kernel_rfl) h (i := 0) (cs' := #[.slice none 0 0, .slice none 0 0, .slice none 0 0]) rfl ?_; clear h; intro w h
      refine ov hr (.int .i64 r3) (by kernel_rfl) ?_; clear hr a; intro a hr
      refine wpList_nil ?_
      replace h : Fit z (sepL (pts b1 (.cells #[.slice none 0 0, .slice none 0 0, .slice none 0 0] 70) :: ob96 Bn6 S5 car7 ccr8 car9 ccr10 :: ro2 car7 ccr8 S5.cell :: ro90 car9 ccr10 S5.log :: L)) _ := h
      refine then_normal ?_
      refine wp_ret ?_
      refine then_ret ?_
      refine end_retCT (cs := [.slice none 0 0, .slice none 0 0, .slice none 0 0]) (v := .int .i64 r3) rfl hr (by kernel_rfl) (by kernel_rfl) (by kernel_rfl) (by kernel_rfl) ⟨h.cell 0 rfl, h.cell 1 rfl, h.cell 2 rfl, trivial⟩ ?_
      replace h : Fit z (sepL (rowOf 39 3 enc_T_api_Effect (.slice none 0 0) ([] : List T_api_Effect) :: pts b1 (.cells #[.slice none 0 0, .slice none 0 0, .slice none 0 0] 70) :: ob96 Bn6 S5 car7 ccr8 car9 ccr10 :: ro2 car7 ccr8 S5.cell :: ro90 car9 ccr10 S5.log :: L)) _ := h.row_nil
      replace h : Fit z (sepL (rowOf 2 1 encZ_i64 (.slice none 0 0) ([] : List Int) :: rowOf 39 3 enc_T_api_Effect (.slice none 0 0) ([] : List T_api_Effect) :: pts b1 (.cells #[.slice none 0 0, .slice none 0 0, .slice none 0 0] 70) :: ob96 Bn6 S5 car7 ccr8 car9 ccr10 :: ro2 car7 ccr8 S5.cell :: ro90 car9 ccr10 S5.log :: L)) _ := h.row_nil
      replace h : Fit z (sepL (rowOf 90 6 enc_T_api_Access (.slice none 0 0) ([] : List T_api_Access) :: rowOf 2 1 encZ_i64 (.slice none 0 0) ([] : List Int) :: rowOf 39 3 enc_T_api_Effect (.slice none 0 0) ([] : List T_api_Effect) :: pts b1 (.cells #[.slice none 0 0, .slice none 0 0, .slice none 0 0] 70) :: ob96 Bn6 S5 car7 ccr8 car9 ccr10 :: ro2 car7 ccr8 S5.cell :: ro90 car9 ccr10 S5.log :: L)) _ := h.row_nil
      replace h : Fit z (sepL (rowOf 39 3 enc_T_api_Effect (.slice none 0 0) ([] : List T_api_Effect) :: rowOf 2 1 encZ_i64 (.slice none 0 0) ([] : List Int) :: rowOf 90 6 enc_T_api_Access (.slice none 0 0) ([] : List T_api_Access) :: L)) _ := h.sel 7 [2, 1, 0] (by kernel_rfl) (by kernel_rfl)
      replace H := ej2 H; obtain ⟨rfl, rfl⟩ := H
      exact ⟨none, 0, none, none, rfl, h⟩
  | none =>
    have hc := cells_New_ok1 (H := e4) (h := h)
    refine op_call (wn rfl) rfl rfl hr (f := 19) (args := #[.int .i64 p0]) (by kernel_rfl) hc ?_; clear hc h
    rintro _ w ⟨rfl, h⟩; refine ⟨_, rfl, ?_⟩
    clear hr a; intro a hr
    refine ovs [11, 14, 15, 6, 7] [.tuple #[.pointer none, .int .i64 r3], .pointer none, .int .i64 r3, .pointer none, .int .i64 r3] hr ⟨rfl, rfl⟩ (by kernel_rfl) ?_; clear hr a; intro a hr
    refine wpList_nil ?_
    refine then_normal ?_
    refine wp_seq ?_
    refine wp_seq ?_
    refine wp_region_lit ?_
    refine ovs [16, 17] [.int .i64 r3, .bool (r3 != (0 : Int))] hr ⟨rfl, rfl⟩ (by kernel_rfl) ?_; clear hr a; intro a hr
    refine wpList_nil ?_
    refine then_normal ?_
    by_cases c59 : r3 = (0 : Int)
    ·
      replace H := ifT c59 H
      refine cond_ff hr (b := (r3 != (0 : Int))) (bne_eq_false_iff_eq.mpr c59) ?_
      refine wp_skip ?_
      refine then_normal ?_
      refine wp_seq ?_
      refine wp_seq ?_
      refine wp_region_lit ?_
      refine ovs [20, 21, 22] [.slice va1 p1.length vc1, .int .i64 ((p1.length : Nat) : Int), .bool (decide (((p1.length : Nat) : Int) > (4096 : Int)))] hr ⟨rfl, rfl⟩ (by kernel_rfl) ?_; clear hr a; intro a hr
      refine wpList_nil ?_
      refine then_normal ?_
      by_cases c60 : ((p1.length : Nat) : Int) > (4096 : Int)
      ·
        replace H := ifT c60 H
        refine cond_tt hr (b := (decide (((p1.length : Nat) : Int) > (4096 : Int)))) (decide_eq_true c60) ?_
        refine wp_seq ?_
        refine wp_region_lit ?_
        refine ov hr (.agg #[.slice none 0 0, .slice none 0 0, .slice none 0 0]) (by kernel_rfl) ?_; clear hr a; intro a hr
        refine op_stores (wn rfl) rfl hr rfl (by kernel_rfl) (by kernel_rfl) (vs := [.slice none 0 0, .slice none 0 0, .slice none 0 0]) rfl rfl (by kernel_rfl) h (i := 0) (cs' := #[.slice none 0 0, .slice none 0 0, .slice none 0 0]) rfl ?_; clear h; intro w h
        refine ov hr (.int .i64 2) (by kernel_rfl) ?_; clear hr a; intro a hr
        refine wpList_nil ?_
        replace h : Fit z (sepL (pts b1 (.cells #[.slice none 0 0, .slice none 0 0, .slice none 0 0] 70) :: L)) _ := h
        refine then_normal ?_
        refine wp_ret ?_
        refine then_ret ?_
        refine end_retCT (cs := [.slice none 0 0, .slice none 0 0, .slice none 0 0]) (v := .int .i64 2) rfl hr (by kernel_rfl) (by kernel_rfl) (by kernel_rfl) (by kernel_rfl) ⟨h.cell 0 rfl, h.cell 1 rfl, h.cell 2 rfl, trivial⟩ ?_
        replace h : Fit z (sepL (rowOf 39 3 enc_T_api_Effect (.slice none 0 0) ([] : List T_api_Effect) :: pts b1 (.cells #[.slice none 0 0, .slice none 0 0, .slice none 0 0] 70) :: L)) _ := h.row_nil
        replace h : Fit z (sepL (rowOf 2 1 encZ_i64 (.slice none 0 0) ([] : List Int) :: rowOf 39 3 enc_T_api_Effect (.slice none 0 0) ([] : List T_api_Effect) :: pts b1 (.cells #[.slice none 0 0, .slice none 0 0, .slice none 0 0] 70) :: L)) _ := h.row_nil
        replace h : Fit z (sepL (rowOf 90 6 enc_T_api_Access (.slice none 0 0) ([] : List T_api_Access) :: rowOf 2 1 encZ_i64 (.slice none 0 0) ([] : List Int) :: rowOf 39 3 enc_T_api_Effect (.slice none 0 0) ([] : List T_api_Effect) :: pts b1 (.cells #[.slice none 0 0, .slice none 0 0, .slice none 0 0] 70) :: L)) _ := h.row_nil
        replace h : Fit z (sepL (rowOf 39 3 enc_T_api_Effect (.slice none 0 0) ([] : List T_api_Effect) :: rowOf 2 1 encZ_i64 (.slice none 0 0) ([] : List Int) :: rowOf 90 6 enc_T_api_Access (.slice none 0 0) ([] : List T_api_Access) :: L)) _ := h.sel 4 [2, 1, 0] (by kernel_rfl) (by kernel_rfl)
        replace H := ej2 H; obtain ⟨rfl, rfl⟩ := H
        exact ⟨none, 0, none, none, rfl, h⟩
      ·
        replace H := ifF c60 H
        refine cond_ff hr (b := (decide (((p1.length : Nat) : Int) > (4096 : Int)))) (decide_eq_false c60) ?_
        refine wp_skip ?_
        refine then_normal ?_
        refine wp_seq ?_
        refine wp_region_lit ?_
        replace H := bd0 H; obtain ⟨e61, H⟩ := H
        refine ov hr (.pointer none) (by kernel_rfl) ?_; clear hr a; intro a hr
        have hc := cells_Arena_Watch_nil_ok (H := e61) (h := h)
        refine op_call (wn rfl) rfl rfl hr (f := 88) (args := #[.pointer none, .bool true]) (by kernel_rfl) hc ?_; clear hc h
        rintro _ w ⟨rfl, h⟩; refine ⟨_, rfl, ?_⟩
        clear hr a; intro a hr
        refine wpList_nil ?_
        refine then_normal ?_
        refine wp_seq ?_
        refine wp_region_lit ?_
        refine op_new (wn rfl) rfl rfl hr h (vf := fun b => .pointer (some ⟨b, 0, none⟩)) (cs := #[.slice none 0 0, .slice none 0 0, .slice none 0 0]) (T := 70) (by kernel_rfl) ?_; clear h hr a; intro b62 w a h hr
        refine wpList_nil ?_
        refine then_normal ?_
        replace H := kd1 H; obtain ⟨o67, H, hK66⟩ := H
        refine cut_rule (β := Unit) (fun _ a w => ∃ ca63 : Option Addr, ∃ cc64 : Nat, ∃ l65 : List T_api_Effect, l65 = o67 ∧ ∃ j, Rep 48 (lk [(4, .pointer (some ⟨b1, 0, none⟩)), (6, .pointer none), (8, .pointer (some ⟨b62, 0, none⟩))] j) a ∧ Fit z (sepL (pts b1 (.cells #[.slice none 0 0, .slice none 0 0, .slice none 0 0] 70) :: pts b62 (.cells #[.slice ca63 l65.length cc64, .slice none 0 0, .slice none 0 0] 70) :: ro39 ca63 cc64 l65 :: L)) w) ?_ ?_
        ·
          refine wp_seq ?_
          refine wp_region_lit ?_
          refine ovs [26, 27, 28] [.slice va1 p1.length vc1, .int .i64 ((p1.length : Nat) : Int), .int .i64 0] hr ⟨rfl, rfl⟩ (by kernel_rfl) ?_; clear hr a; intro a hr
          refine wpList_nil ?_
          refine then_normal ?_
          refine wp_block ?_
          replace hr := hr.fold2 [(4, .pointer (some ⟨b1, 0, none⟩)), (6, .pointer none), (8, .pointer (some ⟨b62, 0, none⟩)), (26, .slice va1 p1.length vc1), (27, .int .i64 ((p1.length : Nat) : Int)), (28, .int .i64 0)] (by kernel_rfl); obtain ⟨j, hr⟩ := hr
          replace h : Fit z (sepL (rowOf 39 3 enc_T_api_Effect (.slice none 0 0) ([] : List T_api_Effect) :: pts b62 (.cells #[.slice none 0 0, .slice none 0 0, .slice none 0 0] 70) :: pts b1 (.cells #[.slice none 0 0, .slice none 0 0, .slice none 0 0] 70) :: L)) _ := h.row_nil
          replace h : Fit z (sepL (pts b1 (.cells #[.slice none 0 0, .slice none 0 0, .slice none 0 0] 70) :: pts b62 (.cells #[.slice none (([] : List T_api_Effect).length) 0, .slice none 0 0, .slice none 0 0] 70) :: rowOf 39 3 enc_T_api_Effect (.slice none (([] : List T_api_Effect).length) 0) ([] : List T_api_Effect) :: L)) _ := h.sel 3 [2, 1, 0] (by kernel_rfl) (by kernel_rfl)
          refine loop_rule (β := Nat) id (fun m a w => ∃ ca68 : Option Addr, ∃ cc69 : Nat, ∃ l70 : List T_api_Effect, ∃ g71 : Int, (cells_Play_l2 K p1 m l70 g71) = some o67 ∧ ∃ j, Rep 48 (lk [(4, .pointer (some ⟨b1, 0, none⟩)), (6, .pointer none), (8, .pointer (some ⟨b62, 0, none⟩)), (26, .slice va1 p1.length vc1), (27, .int .i64 ((p1.length : Nat) : Int)), (28, .int .i64 g71)] j) a ∧ Fit z (sepL (pts b1 (.cells #[.slice none 0 0, .slice none 0 0, .slice none 0 0] 70) :: pts b62 (.cells #[.slice ca68 l70.length cc69, .slice none 0 0, .slice none 0 0] 70) :: ro39 ca68 cc69 l70 :: L)) w) K ⟨none, 0, ([] : List T_api_Effect), 0, H, j, hr, h⟩ ?_
          clear h hr a H; rintro k2 a w ⟨ca68, cc69, l70, g71, H, j, hr, h⟩
          cases k2 with
          | zero => exact absurd H (by simp [cells_Play_l2])
          | succ k2 =>
            rw [cells_Play_l2] at H
            refine wp_seq ?_
            refine wp_region_lit ?_
            refine ov hr (.bool (decide (g71 < ((p1.length : Nat) : Int)))) (by kernel_rfl) ?_; clear hr a; intro a hr
            refine wpList_nil ?_
            refine then_normal ?_
            refine wp_seq ?_
            by_cases c72 : g71 < ((p1.length : Nat) : Int)
            ·
              replace H := ifT c72 H
              refine cond_tt hr (b := (decide (g71 < ((p1.length : Nat) : Int)))) (decide_eq_true c72) ?_
              refine wp_skip ?_
              refine then_normal ?_
              refine wp_seq ?_
              refine wp_block ?_
              refine wp_seq ?_
              refine wp_region_lit ?_
              replace H := gd H; obtain ⟨c73, H⟩ := H
              refine op_val (wn rfl) rfl rfl hr (v := .pointer (some ⟨blk va1, offs va1 + g71.toNat * 5, none⟩)) (ri_rd (k := .i64) (E := 57) (cc := vc1) rfl (by kernel_rfl) (by kernel_rfl) rfl (by kernel_rfl) (by kernel_rfl) hv1 c73) ?_; clear hr a; intro a hr
              refine op_val (wn rfl) rfl rfl hr (v := .agg #[.int .i64 ((at_ p1 g71.toNat).Who), .int .i64 ((at_ p1 g71.toNat).Kind), .int .i64 ((at_ p1 g71.toNat).Addr), .int .i64 ((at_ p1 g71.toNat).A), .int .i64 ((at_ p1 g71.toNat).B)]) (rlm (cs := [.int .i64 ((at_ p1 g71.toNat).Who), .int .i64 ((at_ p1 g71.toNat).Kind), .int .i64 ((at_ p1 g71.toNat).Addr), .int .i64 ((at_ p1 g71.toNat).A), .int .i64 ((at_ p1 g71.toNat).B)]) rfl (by kernel_rfl) (by kernel_rfl) (by kernel_rfl) ⟨hv1.cell c73 (h.dn 3) 0 rfl, hv1.cell c73 (h.dn 3) 1 rfl, hv1.cell c73 (h.dn 3) 2 rfl, hv1.cell c73 (h.dn 3) 3 rfl, hv1.cell c73 (h.dn 3) 4 rfl, trivial⟩) ?_; clear hr a; intro a hr
              refine op_new (wn rfl) rfl rfl hr h (vf := fun b => .pointer (some ⟨b, 0, none⟩)) (cs := #[.int .i64 0, .int .i64 0, .int .i64 0, .int .i64 0, .int .i64 0]) (T := 57) (by kernel_rfl) ?_; clear h hr a; intro b74 w a h hr
              refine op_stores (wn rfl) rfl hr rfl (by kernel_rfl) (by kernel_rfl) (vs := [.int .i64 ((at_ p1 g71.toNat).Who), .int .i64 ((at_ p1 g71.toNat).Kind), .int .i64 ((at_ p1 g71.toNat).Addr), .int .i64 ((at_ p1 g71.toNat).A), .int .i64 ((at_ p1 g71.toNat).B)]) rfl rfl (by kernel_rfl) h (i := 0) (cs' := #[.int .i64 ((at_ p1 g71.toNat).Who), .int .i64 ((at_ p1 g71.toNat).Kind), .int .i64 ((at_ p1 g71.toNat).Addr), .int .i64 ((at_ p1 g71.toNat).A), .int .i64 ((at_ p1 g71.toNat).B)]) rfl ?_; clear h; intro w h
              refine wpList_nil ?_
              replace h : Fit z (sepL (ob57 b74 (at_ p1 g71.toNat) :: pts b1 (.cells #[.slice none 0 0, .slice none 0 0, .slice none 0 0] 70) :: pts b62 (.cells #[.slice ca68 l70.length cc69, .slice none 0 0, .slice none 0 0] 70) :: ro39 ca68 cc69 l70 :: L)) _ := h
              refine then_normal ?_
              replace H := bd1 H; obtain ⟨r75, e76, H⟩ := H
              replace H := gd H; obtain ⟨c80, H⟩ := H
              refine reg_E (fun w => heldC w b62 0 [.slice ca68 l70.length cc69] ∧ heldC w b74 0 [.int .i64 ((at_ p1 g71.toNat).Who), .int .i64 ((at_ p1 g71.toNat).Kind), .int .i64 ((at_ p1 g71.toNat).Addr), .int .i64 ((at_ p1 g71.toNat).A), .int .i64 ((at_ p1 g71.toNat).B)] ∧ True) [0, 4] h (by kernel_rfl) ?_; intro w h
              change wpAnyE _ _ _ _ _ _ 9 (Array.replicate 9 false) a w
              have hgo : ∀ w w', CellsGo w w' → (heldC w b62 0 [.slice ca68 l70.length cc69] ∧ heldC w b74 0 [.int .i64 ((at_ p1 g71.toNat).Who), .int .i64 ((at_ p1 g71.toNat).Kind), .int .i64 ((at_ p1 g71.toNat).Addr), .int .i64 ((at_ p1 g71.toNat).A), .int .i64 ((at_ p1 g71.toNat).B)] ∧ True) → heldC w' b62 0 [.slice ca68 l70.length cc69] ∧ heldC w' b74 0 [.int .i64 ((at_ p1 g71.toNat).Who), .int .i64 ((at_ p1 g71.toNat).Kind), .int .i64 ((at_ p1 g71.toNat).Addr), .int .i64 ((at_ p1 g71.toNat).A), .int .i64 ((at_ p1 g71.toNat).B)] ∧ True := fun w w' g hD => ⟨heldC_go _ _ _ _ _ g hD.1, heldC_go _ _ _ _ _ g hD.2.1, trivial⟩
              refine evD hgo ⟨⟨(h.pick 2).cell 0 rfl, trivial⟩, ⟨h.cell 0 rfl, h.cell 1 rfl, h.cell 2 rfl, h.cell 3 rfl, h.cell 4 rfl, trivial⟩, trivial⟩ 8 0 rfl (by kernel_rfl) (wn rfl) hr (.pointer (some ⟨b62, 0, none⟩)) (fun w => by kernel_rfl) ?_; clear hr a; intro a hr
              refine ev 7 2 rfl (by kernel_rfl) (wn rfl) hr (.pointer none) (fun w => by kernel_rfl) ?_; clear hr a; intro a hr
              refine el [0, 4] (b := b62) (off := 0) (cs := [.slice ca68 l70.length cc69]) (fun _ hk => ⟨hk, fun w hD => hD.1⟩) 6 1 rfl (by kernel_rfl) (wn rfl) hr (.slice ca68 l70.length cc69) ⟨(h.pick 2).cell 0 rfl, trivial⟩ (fun w hc => rl rfl (by kernel_rfl) (by kernel_rfl) hc.1) ?_; clear hr a; intro a hr
              refine el [0, 4] (b := b74) (off := 0) (cs := [.int .i64 ((at_ p1 g71.toNat).Who), .int .i64 ((at_ p1 g71.toNat).Kind), .int .i64 ((at_ p1 g71.toNat).Addr), .int .i64 ((at_ p1 g71.toNat).A), .int .i64 ((at_ p1 g71.toNat).B)]) (fun _ hk => ⟨hk, fun w hD => hD.2.1⟩) 5 3 rfl (by kernel_rfl) (wn rfl) hr (.agg #[.int .i64 ((at_ p1 g71.toNat).Who), .int .i64 ((at_ p1 g71.toNat).Kind), .int .i64 ((at_ p1 g71.toNat).Addr), .int .i64 ((at_ p1 g71.toNat).A), .int .i64 ((at_ p1 g71.toNat).B)]) ⟨h.cell 0 rfl, h.cell 1 rfl, h.cell 2 rfl, h.cell 3 rfl, h.cell 4 rfl, trivial⟩ (fun w hc => rlm (cs := [.int .i64 ((at_ p1 g71.toNat).Who), .int .i64 ((at_ p1 g71.toNat).Kind), .int .i64 ((at_ p1 g71.toNat).Addr), .int .i64 ((at_ p1 g71.toNat).A), .int .i64 ((at_ p1 g71.toNat).B)]) rfl (by kernel_rfl) (by kernel_rfl) (by kernel_rfl) hc) ?_; clear hr a; intro a hr
              refine e_one (fuel := 4) (i := 4) (by kernel_rfl) rfl ?_
              have hc := cells_Arena_act_nil_ok (H := e76) (h := h)
              refine op_call (wn rfl) rfl rfl hr (f := 89) (args := #[.pointer none, .agg #[.int .i64 ((at_ p1 g71.toNat).Who), .int .i64 ((at_ p1 g71.toNat).Kind), .int .i64 ((at_ p1 g71.toNat).Addr), .int .i64 ((at_ p1 g71.toNat).A), .int .i64 ((at_ p1 g71.toNat).B)]]) (by kernel_rfl) hc ?_; clear hc h
              rintro _ w ⟨rfl, h⟩; refine ⟨_, rfl, ?_⟩
              clear hr a; intro a hr
              refine wpList_nil ?_; refine then_normal ?_
              refine ⟨fun _ => ⟨⟨(h.pick 2).cell 0 rfl, trivial⟩, ⟨h.cell 0 rfl, h.cell 1 rfl, h.cell 2 rfl, h.cell 3 rfl, h.cell 4 rfl, trivial⟩, trivial⟩, ?_⟩
              refine e_one (fuel := 3) (i := 5) (by kernel_rfl) rfl ?_
              refine op_new (wn rfl) rfl rfl hr h (vf := fun b => .slice (some ⟨b, 0, none⟩) 1 1) (cs := #[.int .i64 r75.V, .bool r75.OK, .int .i64 r75.Err]) (T := 39) (by kernel_rfl) ?_; clear h hr a; intro b77 w a h hr
              refine wpList_nil ?_; refine then_normal ?_
              refine ⟨fun hE => absurd hE (by decide), ?_⟩
              refine e_one (fuel := 2) (i := 6) (by kernel_rfl) rfl ?_
              replace h : Fit z (sepL (ro39 ca68 cc69 l70 :: ob39 b77 r75 :: ob57 b74 (at_ p1 g71.toNat) :: pts b1 (.cells #[.slice none 0 0, .slice none 0 0, .slice none 0 0] 70) :: pts b62 (.cells #[.slice ca68 l70.length cc69, .slice none 0 0, .slice none 0 0] 70) :: L)) _ := h.sel 5 [4, 0, 1, 2, 3] (by kernel_rfl) (by kernel_rfl)
              refine op_append (n0 := l70.length) (c := 1) (bytes := 24) (wn rfl) rfl rfl hr rfl (by kernel_rfl) (by kernel_rfl) enc_T_api_Effect_ok (E := 39) (xs := l70) (by kernel_rfl) (by kernel_rfl) h (news := [r75]) (m := 1) rfl ((h.pick 1).news rfl) c80 rfl ?_; clear h hr a; intro ca78 cc79 w a h hr
              refine wpList_nil ?_; refine then_normal ?_
              replace h : Fit z (sepL (ro39 ca78 cc79 (l70 ++ [r75]) :: ob39 b77 r75 :: ob57 b74 (at_ p1 g71.toNat) :: pts b1 (.cells #[.slice none 0 0, .slice none 0 0, .slice none 0 0] 70) :: pts b62 (.cells #[.slice ca68 l70.length cc69, .slice none 0 0, .slice none 0 0] 70) :: L)) _ := h
              refine ⟨fun hE => absurd hE (by decide), ?_⟩
              refine ev 1 7 rfl (by kernel_rfl) (wn rfl) hr (.pointer (some ⟨b62, 0, none⟩)) (fun w => by kernel_rfl) ?_; clear hr a; intro a hr
              refine e_one (fuel := 0) (i := 8) (by kernel_rfl) rfl ?_
              replace h : Fit z (sepL (pts b62 (.cells #[.slice ca68 l70.length cc69, .slice none 0 0, .slice none 0 0] 70) :: ro39 ca78 cc79 (l70 ++ [r75]) :: ob39 b77 r75 :: ob57 b74 (at_ p1 g71.toNat) :: pts b1 (.cells #[.slice none 0 0, .slice none 0 0, .slice none 0 0] 70) :: L)) _ := h.sel 5 [4, 0, 1, 2, 3] (by kernel_rfl) (by kernel_rfl)
              refine op_store (wn rfl) rfl hr rfl (by kernel_rfl) (by kernel_rfl) (v := .slice ca78 ((l70 ++ [r75]).length) cc79) rfl rfl (by kernel_rfl) h (i := 0) rfl ?_; clear h; intro w h
              refine wpList_nil ?_; refine then_normal ?_
              replace h : Fit z (sepL (pts b62 (.cells #[.slice ca78 ((l70 ++ [r75]).length) cc79, .slice none 0 0, .slice none 0 0] 70) :: ro39 ca78 cc79 (l70 ++ [r75]) :: ob39 b77 r75 :: ob57 b74 (at_ p1 g71.toNat) :: pts b1 (.cells #[.slice none 0 0, .slice none 0 0, .slice none 0 0] 70) :: L)) _ := h
              refine ⟨fun hE => absurd hE (by decide), ?_⟩
              refine e_end (by kernel_rfl) ?_
              refine blk_normal ?_
              refine then_normal ?_
              refine wp_region_lit ?_
              refine ovs [40, 28] [.int .i64 (wi (g71 + (1 : Int))), .int .i64 (wi (g71 + (1 : Int)))] hr ⟨rfl, rfl⟩ (by kernel_rfl) ?_; clear hr a; intro a hr
              refine wpList_nil ?_
              refine then_normal ?_
              replace hr := hr.fold2 [(4, .pointer (some ⟨b1, 0, none⟩)), (6, .pointer none), (8, .pointer (some ⟨b62, 0, none⟩)), (26, .slice va1 p1.length vc1), (27, .int .i64 ((p1.length : Nat) : Int)), (28, .int .i64 (wi (g71 + (1 : Int))))] (by kernel_rfl); obtain ⟨j, hr⟩ := hr
              replace h : Fit z (sepL (pts b1 (.cells #[.slice none 0 0, .slice none 0 0, .slice none 0 0] 70) :: pts b62 (.cells #[.slice ca78 ((l70 ++ [r75]).length) cc79, .slice none 0 0, .slice none 0 0] 70) :: ro39 ca78 cc79 (l70 ++ [r75]) :: L)) _ := h.sel 5 [4, 0, 1] (by kernel_rfl) (by kernel_rfl)
              exact ⟨_, ⟨ca78, cc79, (l70 ++ [r75]), (wi (g71 + (1 : Int))), H, j, hr, h⟩, Nat.lt_succ_self _⟩
            ·
              replace H := ifF c72 H
              refine cond_ff hr (b := (decide (g71 < ((p1.length : Nat) : Int)))) (decide_eq_false c72) ?_
              refine wp_exit ?_
              refine then_exit ?_
              refine then_exit ?_
              refine blk_here ?_
              refine then_normal ?_
              replace hr := hr.fold2 [(4, .pointer (some ⟨b1, 0, none⟩)), (6, .pointer none), (8, .pointer (some ⟨b62, 0, none⟩))] (by kernel_rfl); obtain ⟨j, hr⟩ := hr
              exact ⟨(), ca68, cc69, l70, sinj H, j, hr, h⟩
        clear h hr a; rintro _ a w ⟨ca63, cc64, l65, rfl, j, hr, h⟩
        replace H := kk1 hK66
        refine wp_seq ?_
        refine wp_region_lit ?_
        replace H := bd1 H; obtain ⟨r81, e82, H⟩ := H
        refine ov hr (.pointer none) (by kernel_rfl) ?_; clear hr a; intro a hr
        have hc := cells_Arena_Cells_nil_ok (H := e82) (h := h)
        refine op_call (wn rfl) rfl rfl hr (f := 24) (args := #[.pointer none]) (by kernel_rfl) hc ?_; clear hc h
        rintro _ w ⟨car83, rfl, h⟩; refine ⟨_, rfl, ?_⟩
        clear hr a; intro a hr
        refine ov hr (.pointer (some ⟨b62, 1, none⟩)) (by kernel_rfl) ?_; clear hr a; intro a hr
        replace h : Fit z (sepL (pts b62 (.cells #[.slice ca63 l65.length cc64, .slice none 0 0, .slice none 0 0] 70) :: ro2 car83 r81.length r81 :: pts b1 (.cells #[.slice none 0 0, .slice none 0 0, .slice none 0 0] 70) :: ro39 ca63 cc64 l65 :: L)) _ := h.sel 4 [2, 0, 1, 3] (by kernel_rfl) (by kernel_rfl)
        refine op_store (wn rfl) rfl hr rfl (by kernel_rfl) (by kernel_rfl) (v := .slice car83 r81.length r81.length) rfl rfl (by kernel_rfl) h (i := 1) rfl ?_; clear h; intro w h
        refine wpList_nil ?_
        replace h : Fit z (sepL (pts b62 (.cells #[.slice ca63 l65.length cc64, .slice car83 r81.length r81.length, .slice none 0 0] 70) :: ro2 car83 r81.length r81 :: pts b1 (.cells #[.slice none 0 0, .slice none 0 0, .slice none 0 0] 70) :: ro39 ca63 cc64 l65 :: L)) _ := h
        refine then_normal ?_
        refine wp_seq ?_
        refine wp_region_lit ?_
        replace H := bd1 H; obtain ⟨r84, e85, H⟩ := H
        refine ov hr (.pointer none) (by kernel_rfl) ?_; clear hr a; intro a hr
        have hc := cells_Arena_Log_nil_ok (H := e85) (h := h)
        refine op_call (wn rfl) rfl rfl hr (f := 70) (args := #[.pointer none]) (by kernel_rfl) hc ?_; clear hc h
        rintro _ w ⟨car86, rfl, h⟩; refine ⟨_, rfl, ?_⟩
        clear hr a; intro a hr
        refine ov hr (.pointer (some ⟨b62, 2, none⟩)) (by kernel_rfl) ?_; clear hr a; intro a hr
        replace h : Fit z (sepL (pts b62 (.cells #[.slice ca63 l65.length cc64, .slice car83 r81.length r81.length, .slice none 0 0] 70) :: ro90 car86 r84.length r84 :: ro2 car83 r81.length r81 :: pts b1 (.cells #[.slice none 0 0, .slice none 0 0, .slice none 0 0] 70) :: ro39 ca63 cc64 l65 :: L)) _ := h.sel 5 [1, 0, 2, 3, 4] (by kernel_rfl) (by kernel_rfl)
        refine op_store (wn rfl) rfl hr rfl (by kernel_rfl) (by kernel_rfl) (v := .slice car86 r84.length r84.length) rfl rfl (by kernel_rfl) h (i := 2) rfl ?_; clear h; intro w h
        refine wpList_nil ?_
        replace h : Fit z (sepL (pts b62 (.cells #[.slice ca63 l65.length cc64, .slice car83 r81.length r81.length, .slice car86 r84.length r84.length] 70) :: ro90 car86 r84.length r84 :: ro2 car83 r81.length r81 :: pts b1 (.cells #[.slice none 0 0, .slice none 0 0, .slice none 0 0] 70) :: ro39 ca63 cc64 l65 :: L)) _ := h
        refine then_normal ?_
        refine wp_seq ?_
        refine wp_region_lit ?_
        refine op_val (wn rfl) rfl rfl hr (v := .agg #[.slice ca63 l65.length cc64, .slice car83 r81.length r81.length, .slice car86 r84.length r84.length]) (rlm (cs := [.slice ca63 l65.length cc64, .slice car83 r81.length r81.length, .slice car86 r84.length r84.length]) rfl (by kernel_rfl) (by kernel_rfl) (by kernel_rfl) ⟨h.cell 0 rfl, h.cell 1 rfl, h.cell 2 rfl, trivial⟩) ?_; clear hr a; intro a hr
        replace h : Fit z (sepL (pts b1 (.cells #[.slice none 0 0, .slice none 0 0, .slice none 0 0] 70) :: pts b62 (.cells #[.slice ca63 l65.length cc64, .slice car83 r81.length r81.length, .slice car86 r84.length r84.length] 70) :: ro90 car86 r84.length r84 :: ro2 car83 r81.length r81 :: ro39 ca63 cc64 l65 :: L)) _ := h.sel 5 [3, 0, 1, 2, 4] (by kernel_rfl) (by kernel_rfl)
        refine op_stores (wn rfl) rfl hr rfl (by kernel_rfl) (by kernel_rfl) (vs := [.slice ca63 l65.length cc64, .slice car83 r81.length r81.length, .slice car86 r84.length r84.length]) rfl rfl (by kernel_rfl) h (i := 0) (cs' := #[.slice ca63 l65.length cc64, .slice car83 r81.length r81.length, .slice car86 r84.length r84.length]) rfl ?_; clear h; intro w h
        refine ov hr (.int .i64 0) (by kernel_rfl) ?_; clear hr a; intro a hr
        refine wpList_nil ?_
        replace h : Fit z (sepL (pts b1 (.cells #[.slice ca63 l65.length cc64, .slice car83 r81.length r81.length, .slice car86 r84.length r84.length] 70) :: pts b62 (.cells #[.slice ca63 l65.length cc64, .slice car83 r81.length r81.length, .slice car86 r84.length r84.length] 70) :: ro90 car86 r84.length r84 :: ro2 car83 r81.length r81 :: ro39 ca63 cc64 l65 :: L)) _ := h
        refine then_normal ?_
        refine wp_ret ?_
        refine end_retCT (cs := [.slice ca63 l65.length cc64, .slice car83 r81.length r81.length, .slice car86 r84.length r84.length]) (v := .int .i64 0) rfl hr (by kernel_rfl) (by kernel_rfl) (by kernel_rfl) (by kernel_rfl) ⟨h.cell 0 rfl, h.cell 1 rfl, h.cell 2 rfl, trivial⟩ ?_
        replace h : Fit z (sepL (ro39 ca63 cc64 l65 :: ro2 car83 r81.length r81 :: ro90 car86 r84.length r84 :: L)) _ := h.sel 5 [4, 3, 2] (by kernel_rfl) (by kernel_rfl)
        replace H := ej2 H; obtain ⟨rfl, rfl⟩ := H
        exact ⟨ca63, cc64, car83, car86, rfl, h⟩
    ·
      replace H := ifF c59 H
      refine cond_tt hr (b := (r3 != (0 : Int))) (bne_iff_ne.mpr c59) ?_
      refine wp_seq ?_
      refine wp_region_lit ?_
      refine ovs [18, 19] [.agg #[.slice none 0 0, .slice none 0 0, .slice none 0 0], .int .i64 r3] hr ⟨rfl, rfl⟩ (by kernel_rfl) ?_; clear hr a; intro a hr
      refine op_stores (wn rfl) rfl hr rfl (by kernel_rfl) (by kernel_rfl) (vs := [.slice none 0 0, .slice none 0 0, .slice none 0 0]) rfl rfl (by kernel_rfl) h (i := 0) (cs' := #[.slice none 0 0, .slice none 0 0, .slice none 0 0]) rfl ?_; clear h; intro w h
      refine ov hr (.int .i64 r3) (by kernel_rfl) ?_; clear hr a; intro a hr
      refine wpList_nil ?_
      replace h : Fit z (sepL (pts b1 (.cells #[.slice none 0 0, .slice none 0 0, .slice none 0 0] 70) :: L)) _ := h
      refine then_normal ?_
      refine wp_ret ?_
      refine then_ret ?_
      refine end_retCT (cs := [.slice none 0 0, .slice none 0 0, .slice none 0 0]) (v := .int .i64 r3) rfl hr (by kernel_rfl) (by kernel_rfl) (by kernel_rfl) (by kernel_rfl) ⟨h.cell 0 rfl, h.cell 1 rfl, h.cell 2 rfl, trivial⟩ ?_
      replace h : Fit z (sepL (rowOf 39 3 enc_T_api_Effect (.slice none 0 0) ([] : List T_api_Effect) :: pts b1 (.cells #[.slice none 0 0, .slice none 0 0, .slice none 0 0] 70) :: L)) _ := h.row_nil
      replace h : Fit z (sepL (rowOf 2 1 encZ_i64 (.slice none 0 0) ([] : List Int) :: rowOf 39 3 enc_T_api_Effect (.slice none 0 0) ([] : List T_api_Effect) :: pts b1 (.cells #[.slice none 0 0, .slice none 0 0, .slice none 0 0] 70) :: L)) _ := h.row_nil
      replace h : Fit z (sepL (rowOf 90 6 enc_T_api_Access (.slice none 0 0) ([] : List T_api_Access) :: rowOf 2 1 encZ_i64 (.slice none 0 0) ([] : List Int) :: rowOf 39 3 enc_T_api_Effect (.slice none 0 0) ([] : List T_api_Effect) :: pts b1 (.cells #[.slice none 0 0, .slice none 0 0, .slice none 0 0] 70) :: L)) _ := h.row_nil
      replace h : Fit z (sepL (rowOf 39 3 enc_T_api_Effect (.slice none 0 0) ([] : List T_api_Effect) :: rowOf 2 1 encZ_i64 (.slice none 0 0) ([] : List Int) :: rowOf 90 6 enc_T_api_Access (.slice none 0 0) ([] : List T_api_Access) :: L)) _ := h.sel 4 [2, 1, 0] (by kernel_rfl) (by kernel_rfl)
      replace H := ej2 H; obtain ⟨rfl, rfl⟩ := H
      exact ⟨none, 0, none, none, rfl, h⟩

def plunderlaw2_sameEffects_l1 (K : Nat) (p0 : List T_api_Effect) (p1 : List T_api_Effect) : Nat → Int → Option (Bool)
  | 0, _ => none
  | k1 + 1, g2 => (if g2 < ((p0.length : Nat) : Int) then if inr_ g2 p0.length then if inr_ g2 p1.length then (if at_ p0 g2.toNat = at_ p1 g2.toNat then (plunderlaw2_sameEffects_l1 K p0 p1 k1 (wi (g2 + (1 : Int)))) else some false) else none else none else some true)
/-- plunder/plunderlaw2.sameEffects -/
def plunderlaw2_sameEffects (K : Nat) (p0 : List T_api_Effect) (p1 : List T_api_Effect) : Option (Bool) :=
  (if ((p0.length : Nat) : Int) = ((p1.length : Nat) : Int) then (plunderlaw2_sameEffects_l1 K p0 p1 K 0) else some false)
set_option maxRecDepth 100000 in
set_option maxHeartbeats 4000000 in
theorem plunderlaw2_sameEffects_ok {z w : World} {L : List HProp} {K : Nat} {p0 : List T_api_Effect} {p1 : List T_api_Effect} {va0 : Option Addr} {vc0 : Nat} {va1 : Option Addr} {vc1 : Nat} {r0 : Bool} (H : plunderlaw2_sameEffects K p0 p1 = some r0) (h : Fit z (sepL (L)) w) (hv0 : RdRow L 3 enc_T_api_Effect va0 p0) (hv1 : RdRow L 3 enc_T_api_Effect va1 p1) :
    Calls Try.prog 39 #[.slice va0 p0.length vc0, .slice va1 p1.length vc1] w fun e w => e = .returned (.bool r0) ∧ Fit z (sepL (L)) w := by
  unfold plunderlaw2_sameEffects at H
  refine enter Try.func39 rfl 26 rfl rfl [(0, .slice va0 p0.length vc0), (1, .slice va1 p1.length vc1)] ⟨rfl, rfl, trivial⟩ ?_
  intro j a hr
  refine wp_seq ?_
  refine wp_region_lit ?_
  refine ov hr (.bool false) (by kernel_rfl) ?_; clear hr a; intro a hr
  refine wpList_nil ?_
  refine then_normal ?_
  refine wp_seq ?_
  refine wp_seq ?_
  refine wp_region_lit ?_
  refine ovs [6, 7, 8, 9, 10] [.slice va0 p0.length vc0, .int .i64 ((p0.length : Nat) : Int), .slice va1 p1.length vc1, .int .i64 ((p1.length : Nat) : Int), .bool (((p0.length : Nat) : Int) != ((p1.length : Nat) : Int))] hr ⟨rfl, rfl⟩ (by kernel_rfl) ?_; clear hr a; intro a hr
  refine wpList_nil ?_
  refine then_normal ?_
  by_cases c1 : ((p0.length : Nat) : Int) = ((p1.length : Nat) : Int)
  ·
    replace H := ifT c1 H
    refine cond_ff hr (b := (((p0.length : Nat) : Int) != ((p1.length : Nat) : Int))) (bne_eq_false_iff_eq.mpr c1) ?_
    refine wp_skip ?_
    refine then_normal ?_
    refine wp_seq ?_
    refine wp_seq ?_
    refine wp_region_lit ?_
    refine ov hr (.int .i64 0) (by kernel_rfl) ?_; clear hr a; intro a hr
    refine wpList_nil ?_
    refine then_normal ?_
    refine wp_block ?_
    replace hr := hr.fold2 [(0, .slice va0 p0.length vc0), (1, .slice va1 p1.length vc1), (5, .int .i64 0)] (by kernel_rfl); obtain ⟨j, hr⟩ := hr
    refine loop_rule (β := Nat) id (fun m a w => ∃ g2 : Int, (plunderlaw2_sameEffects_l1 K p0 p1 m g2) = some r0 ∧ ∃ j, Rep 26 (lk [(0, .slice va0 p0.length vc0), (1, .slice va1 p1.length vc1), (5, .int .i64 g2)] j) a ∧ Fit z (sepL (L)) w) K ⟨0, H, j, hr, h⟩ ?_
    clear h hr a H; rintro k1 a w ⟨g2, H, j, hr, h⟩
    cases k1 with
    | zero => exact absurd H (by simp [plunderlaw2_sameEffects_l1])
    | succ k1 =>
      rw [plunderlaw2_sameEffects_l1] at H
      refine wp_seq ?_
      refine wp_seq ?_
      refine wp_region_lit ?_
      refine ovs [11, 12, 13, 14] [.int .i64 g2, .slice va0 p0.length vc0, .int .i64 ((p0.length : Nat) : Int), .bool (decide (g2 < ((p0.length : Nat) : Int)))] hr ⟨rfl, rfl⟩ (by kernel_rfl) ?_; clear hr a; intro a hr
      refine wpList_nil ?_
      refine then_normal ?_
      by_cases c3 : g2 < ((p0.length : Nat) : Int)
      ·
        replace H := ifT c3 H
        refine cond_tt hr (b := (decide (g2 < ((p0.length : Nat) : Int)))) (decide_eq_true c3) ?_
        refine wp_skip ?_
        refine then_normal ?_
        refine wp_seq ?_
        refine wp_block ?_
        refine wp_seq ?_
        replace H := gd H; obtain ⟨c4, H⟩ := H
        replace H := gd H; obtain ⟨c5, H⟩ := H
        refine reg_E (fun w => heldC w (blk va0) (offs va0 + g2.toNat * 3) [.int .i64 ((at_ p0 g2.toNat).V), .bool ((at_ p0 g2.toNat).OK), .int .i64 ((at_ p0 g2.toNat).Err)] ∧ heldC w (blk va1) (offs va1 + g2.toNat * 3) [.int .i64 ((at_ p1 g2.toNat).V), .bool ((at_ p1 g2.toNat).OK), .int .i64 ((at_ p1 g2.toNat).Err)] ∧ True) [2, 6] h (by kernel_rfl) ?_; intro w h
        change wpAnyE _ _ _ _ _ _ 9 (Array.replicate 9 false) a w
        have hgo : ∀ w w', CellsGo w w' → (heldC w (blk va0) (offs va0 + g2.toNat * 3) [.int .i64 ((at_ p0 g2.toNat).V), .bool ((at_ p0 g2.toNat).OK), .int .i64 ((at_ p0 g2.toNat).Err)] ∧ heldC w (blk va1) (offs va1 + g2.toNat * 3) [.int .i64 ((at_ p1 g2.toNat).V), .bool ((at_ p1 g2.toNat).OK), .int .i64 ((at_ p1 g2.toNat).Err)] ∧ True) → heldC w' (blk va0) (offs va0 + g2.toNat * 3) [.int .i64 ((at_ p0 g2.toNat).V), .bool ((at_ p0 g2.toNat).OK), .int .i64 ((at_ p0 g2.toNat).Err)] ∧ heldC w' (blk va1) (offs va1 + g2.toNat * 3) [.int .i64 ((at_ p1 g2.toNat).V), .bool ((at_ p1 g2.toNat).OK), .int .i64 ((at_ p1 g2.toNat).Err)] ∧ True := fun w w' g hD => ⟨heldC_go _ _ _ _ _ g hD.1, heldC_go _ _ _ _ _ g hD.2.1, trivial⟩
        refine ev 8 0 rfl (by kernel_rfl) (wn rfl) hr (.slice va0 p0.length vc0) (fun w => by kernel_rfl) ?_; clear hr a; intro a hr
        refine ev 7 1 rfl (by kernel_rfl) (wn rfl) hr (.int .i64 g2) (fun w => by kernel_rfl) ?_; clear hr a; intro a hr
        refine evD hgo ⟨⟨hv0.cell c4 (h.dn 0) 0 rfl, hv0.cell c4 (h.dn 0) 1 rfl, hv0.cell c4 (h.dn 0) 2 rfl, trivial⟩, ⟨hv1.cell c5 (h.dn 0) 0 rfl, hv1.cell c5 (h.dn 0) 1 rfl, hv1.cell c5 (h.dn 0) 2 rfl, trivial⟩, trivial⟩ 6 2 rfl (by kernel_rfl) (wn rfl) hr (.pointer (some ⟨blk va0, offs va0 + g2.toNat * 3, none⟩)) (fun w => ri_rd (k := .i64) (E := 39) (cc := vc0) rfl (by kernel_rfl) (by kernel_rfl) rfl (by kernel_rfl) (by kernel_rfl) hv0 c4) ?_; clear hr a; intro a hr
        refine ev 5 4 rfl (by kernel_rfl) (wn rfl) hr (.slice va1 p1.length vc1) (fun w => by kernel_rfl) ?_; clear hr a; intro a hr
        refine ev 4 5 rfl (by kernel_rfl) (wn rfl) hr (.int .i64 g2) (fun w => by kernel_rfl) ?_; clear hr a; intro a hr
        refine evD hgo ⟨⟨hv0.cell c4 (h.dn 0) 0 rfl, hv0.cell c4 (h.dn 0) 1 rfl, hv0.cell c4 (h.dn 0) 2 rfl, trivial⟩, ⟨hv1.cell c5 (h.dn 0) 0 rfl, hv1.cell c5 (h.dn 0) 1 rfl, hv1.cell c5 (h.dn 0) 2 rfl, trivial⟩, trivial⟩ 3 6 rfl (by kernel_rfl) (wn rfl) hr (.pointer (some ⟨blk va1, offs va1 + g2.toNat * 3, none⟩)) (fun w => ri_rd (k := .i64) (E := 39) (cc := vc1) rfl (by kernel_rfl) (by kernel_rfl) rfl (by kernel_rfl) (by kernel_rfl) hv1 c5) ?_; clear hr a; intro a hr
        refine el [2, 6] (b := blk va0) (off := offs va0 + g2.toNat * 3) (cs := [.int .i64 ((at_ p0 g2.toNat).V), .bool ((at_ p0 g2.toNat).OK), .int .i64 ((at_ p0 g2.toNat).Err)]) (fun _ hk => ⟨hk, fun w hD => hD.1⟩) 2 3 rfl (by kernel_rfl) (wn rfl) hr (.agg #[.int .i64 ((at_ p0 g2.toNat).V), .bool ((at_ p0 g2.toNat).OK), .int .i64 ((at_ p0 g2.toNat).Err)]) ⟨hv0.cell c4 (h.dn 0) 0 rfl, hv0.cell c4 (h.dn 0) 1 rfl, hv0.cell c4 (h.dn 0) 2 rfl, trivial⟩ (fun w hc => rlm (cs := [.int .i64 ((at_ p0 g2.toNat).V), .bool ((at_ p0 g2.toNat).OK), .int .i64 ((at_ p0 g2.toNat).Err)]) rfl (by kernel_rfl) (by kernel_rfl) (by kernel_rfl) hc) ?_; clear hr a; intro a hr
        refine el [2, 6] (b := blk va1) (off := offs va1 + g2.toNat * 3) (cs := [.int .i64 ((at_ p1 g2.toNat).V), .bool ((at_ p1 g2.toNat).OK), .int .i64 ((at_ p1 g2.toNat).Err)]) (fun _ hk => ⟨hk, fun w hD => hD.2.1⟩) 1 7 rfl (by kernel_rfl) (wn rfl) hr (.agg #[.int .i64 ((at_ p1 g2.toNat).V), .bool ((at_ p1 g2.toNat).OK), .int .i64 ((at_ p1 g2.toNat).Err)]) ⟨hv1.cell c5 (h.dn 0) 0 rfl, hv1.cell c5 (h.dn 0) 1 rfl, hv1.cell c5 (h.dn 0) 2 rfl, trivial⟩ (fun w hc => rlm (cs := [.int .i64 ((at_ p1 g2.toNat).V), .bool ((at_ p1 g2.toNat).OK), .int .i64 ((at_ p1 g2.toNat).Err)]) rfl (by kernel_rfl) (by kernel_rfl) (by kernel_rfl) hc) ?_; clear hr a; intro a hr
        refine ev 0 8 rfl (by kernel_rfl) (wn rfl) hr (.bool (!(decide (at_ p0 g2.toNat = at_ p1 g2.toNat)))) (fun w => rb (rne rfl (by kernel_rfl) (by kernel_rfl) (by kernel_rfl) (by kernel_rfl) (by kernel_rfl) (by kernel_rfl)) (congrArg (!·) (eq_T_api_Effect (at_ p0 g2.toNat) (at_ p1 g2.toNat)))) ?_; clear hr a; intro a hr
        refine e_end (by kernel_rfl) ?_
        refine then_normal ?_
        by_cases c6 : at_ p0 g2.toNat = at_ p1 g2.toNat
        ·
          replace H := ifT c6 H
          refine cond_ff hr (b := (!(decide (at_ p0 g2.toNat = at_ p1 g2.toNat)))) (by rw [show (decide (at_ p0 g2.toNat = at_ p1 g2.toNat)) = true from (decide_eq_true c6)]; rfl) ?_
          refine wp_skip ?_
          refine blk_normal ?_
          refine then_normal ?_
          refine wp_region_lit ?_
          refine ovs [15, 16, 5] [.int .i64 g2, .int .i64 (wi (g2 + (1 : Int))), .int .i64 (wi (g2 + (1 : Int)))] hr ⟨rfl, rfl⟩ (by kernel_rfl) ?_; clear hr a; intro a hr
          refine wpList_nil ?_
          refine then_normal ?_
          replace hr := hr.fold2 [(0, .slice va0 p0.length vc0), (1, .slice va1 p1.length vc1), (5, .int .i64 (wi (g2 + (1 : Int))))] (by kernel_rfl); obtain ⟨j, hr⟩ := hr
          exact ⟨_, ⟨(wi (g2 + (1 : Int))), H, j, hr, h⟩, Nat.lt_succ_self _⟩
        ·
          replace H := ifF c6 H
          refine cond_tt hr (b := (!(decide (at_ p0 g2.toNat = at_ p1 g2.toNat)))) (by rw [show (decide (at_ p0 g2.toNat = at_ p1 g2.toNat)) = false from (decide_eq_false c6)]; rfl) ?_
          refine wp_seq ?_
          refine wp_region_lit ?_
          refine ov hr (.bool false) (by kernel_rfl) ?_; clear hr a; intro a hr
          refine wpList_nil ?_
          refine then_normal ?_
          refine wp_ret ?_
          refine blk_ret ?_
          refine then_ret ?_
          refine then_ret ?_
          refine blk_ret ?_
          refine then_ret ?_
          refine end_ret1 (v := .bool false) rfl hr (by kernel_rfl) ?_
          replace H := ej1 H; subst H
          exact ⟨rfl, h⟩
      ·
        replace H := ifF c3 H
        refine cond_ff hr (b := (decide (g2 < ((p0.length : Nat) : Int)))) (decide_eq_false c3) ?_
        refine wp_exit ?_
        refine then_exit ?_
        refine then_exit ?_
        refine blk_here ?_
        refine then_normal ?_
        refine wp_seq ?_
        refine wp_region_lit ?_
        refine ov hr (.bool true) (by kernel_rfl) ?_; clear hr a; intro a hr
        refine wpList_nil ?_
        refine then_normal ?_
        refine wp_ret ?_
        refine end_ret1 (v := .bool true) rfl hr (by kernel_rfl) ?_
        replace H := ej1 H; subst H
        exact ⟨rfl, h⟩
  ·
    replace H := ifF c1 H
    refine cond_tt hr (b := (((p0.length : Nat) : Int) != ((p1.length : Nat) : Int))) (bne_iff_ne.mpr c1) ?_
    refine wp_seq ?_
    refine wp_region_lit ?_
    refine ov hr (.bool false) (by kernel_rfl) ?_; clear hr a; intro a hr
    refine wpList_nil ?_
    refine then_normal ?_
    refine wp_ret ?_
    refine then_ret ?_
    refine end_ret1 (v := .bool false) rfl hr (by kernel_rfl) ?_
    replace H := ej1 H; subst H
    exact ⟨rfl, h⟩

def plunderlaw2_sameNumbers_l1 (K : Nat) (p0 : List Int) (p1 : List Int) : Nat → Int → Option (Bool)
  | 0, _ => none
  | k1 + 1, g2 => (if g2 < ((p0.length : Nat) : Int) then if inr_ g2 p0.length then if inr_ g2 p1.length then (if (at_ p0 g2.toNat) = (at_ p1 g2.toNat) then (plunderlaw2_sameNumbers_l1 K p0 p1 k1 (wi (g2 + (1 : Int)))) else some false) else none else none else some true)
/-- plunder/plunderlaw2.sameNumbers -/
def plunderlaw2_sameNumbers (K : Nat) (p0 : List Int) (p1 : List Int) : Option (Bool) :=
  (if ((p0.length : Nat) : Int) = ((p1.length : Nat) : Int) then (plunderlaw2_sameNumbers_l1 K p0 p1 K 0) else some false)
set_option maxRecDepth 100000 in
set_option maxHeartbeats 4000000 in
theorem plunderlaw2_sameNumbers_ok {z w : World} {L : List HProp} {K : Nat} {p0 : List Int} {p1 : List Int} {va0 : Option Addr} {vc0 : Nat} {va1 : Option Addr} {vc1 : Nat} {r0 : Bool} (H : plunderlaw2_sameNumbers K p0 p1 = some r0) (h : Fit z (sepL (L)) w) (hv0 : RdRow L 1 encZ_i64 va0 p0) (hv1 : RdRow L 1 encZ_i64 va1 p1) :
    Calls Try.prog 40 #[.slice va0 p0.length vc0, .slice va1 p1.length vc1] w fun e w => e = .returned (.bool r0) ∧ Fit z (sepL (L)) w := by
  unfold plunderlaw2_sameNumbers at H
  refine enter Try.func40 rfl 26 rfl rfl [(0, .slice va0 p0.length vc0), (1, .slice va1 p1.length vc1)] ⟨rfl, rfl, trivial⟩ ?_
  intro j a hr
  refine wp_seq ?_
  refine wp_region_lit ?_
  refine ov hr (.bool false) (by kernel_rfl) ?_; clear hr a; intro a hr
  refine wpList_nil ?_
  refine then_normal ?_
  refine wp_seq ?_
  refine wp_seq ?_
  refine wp_region_lit ?_
  refine ovs [6, 7, 8, 9, 10] [.slice va0 p0.length vc0, .int .i64 ((p0.length : Nat) : Int), .slice va1 p1.length vc1, .int .i64 ((p1.length : Nat) : Int), .bool (((p0.length : Nat) : Int) != ((p1.length : Nat) : Int))] hr ⟨rfl, rfl⟩ (by kernel_rfl) ?_; clear hr a; intro a hr
  refine wpList_nil ?_
  refine then_normal ?_
  by_cases c1 : ((p0.length : Nat) : Int) = ((p1.length : Nat) : Int)
  ·
    replace H := ifT c1 H
    refine cond_ff hr (b := (((p0.length : Nat) : Int) != ((p1.length : Nat) : Int))) (bne_eq_false_iff_eq.mpr c1) ?_
    refine wp_skip ?_
    refine then_normal ?_
    refine wp_seq ?_
    refine wp_seq ?_
    refine wp_region_lit ?_
    refine ov hr (.int .i64 0) (by kernel_rfl) ?_; clear hr a; intro a hr
    refine wpList_nil ?_
    refine then_normal ?_
    refine wp_block ?_
    replace hr := hr.fold2 [(0, .slice va0 p0.length vc0), (1, .slice va1 p1.length vc1), (5, .int .i64 0)] (by kernel_rfl); obtain ⟨j, hr⟩ := hr
    refine loop_rule (β := Nat) id (fun m a w => ∃ g2 : Int, (plunderlaw2_sameNumbers_l1 K p0 p1 m g2) = some r0 ∧ ∃ j, Rep 26 (lk [(0, .slice va0 p0.length vc0), (1, .slice va1 p1.length vc1), (5, .int .i64 g2)] j) a ∧ Fit z (sepL (L)) w) K ⟨0, H, j, hr, h⟩ ?_
    clear h hr a H; rintro k1 a w ⟨g2, H, j, hr, h⟩
    cases k1 with
    | zero => exact absurd H (by simp [plunderlaw2_sameNumbers_l1])
    | succ k1 =>
      rw [plunderlaw2_sameNumbers_l1] at H
      refine wp_seq ?_
      refine wp_seq ?_
      refine wp_region_lit ?_
      refine ovs [11, 12, 13, 14] [.int .i64 g2, .slice va0 p0.length vc0, .int .i64 ((p0.length : Nat) : Int), .bool (decide (g2 < ((p0.length : Nat) : Int)))] hr ⟨rfl, rfl⟩ (by kernel_rfl) ?_; clear hr a; intro a hr
      refine wpList_nil ?_
      refine then_normal ?_
      by_cases c3 : g2 < ((p0.length : Nat) : Int)
      ·
        replace H := ifT c3 H
        refine cond_tt hr (b := (decide (g2 < ((p0.length : Nat) : Int)))) (decide_eq_true c3) ?_
        refine wp_skip ?_
        refine then_normal ?_
        refine wp_seq ?_
        refine wp_block ?_
        refine wp_seq ?_
        replace H := gd H; obtain ⟨c4, H⟩ := H
        replace H := gd H; obtain ⟨c5, H⟩ := H
        refine reg_E (fun w => heldC w (blk va0) (offs va0 + g2.toNat * 1) [.int .i64 (at_ p0 g2.toNat)] ∧ heldC w (blk va1) (offs va1 + g2.toNat * 1) [.int .i64 (at_ p1 g2.toNat)] ∧ True) [2, 6] h (by kernel_rfl) ?_; intro w h
        change wpAnyE _ _ _ _ _ _ 9 (Array.replicate 9 false) a w
        have hgo : ∀ w w', CellsGo w w' → (heldC w (blk va0) (offs va0 + g2.toNat * 1) [.int .i64 (at_ p0 g2.toNat)] ∧ heldC w (blk va1) (offs va1 + g2.toNat * 1) [.int .i64 (at_ p1 g2.toNat)] ∧ True) → heldC w' (blk va0) (offs va0 + g2.toNat * 1) [.int .i64 (at_ p0 g2.toNat)] ∧ heldC w' (blk va1) (offs va1 + g2.toNat * 1) [.int .i64 (at_ p1 g2.toNat)] ∧ True := fun w w' g hD => ⟨heldC_go _ _ _ _ _ g hD.1, heldC_go _ _ _ _ _ g hD.2.1, trivial⟩
        refine ev 8 0 rfl (by kernel_rfl) (wn rfl) hr (.slice va0 p0.length vc0) (fun w => by kernel_rfl) ?_; clear hr a; intro a hr
        refine ev 7 1 rfl (by kernel_rfl) (wn rfl) hr (.int .i64 g2) (fun w => by kernel_rfl) ?_; clear hr a; intro a hr
        refine evD hgo ⟨⟨hv0.cell c4 (h.dn 0) 0 rfl, trivial⟩, ⟨hv1.cell c5 (h.dn 0) 0 rfl, trivial⟩, trivial⟩ 6 2 rfl (by kernel_rfl) (wn rfl) hr (.pointer (some ⟨blk va0, offs va0 + g2.toNat * 1, none⟩)) (fun w => ri_rd (k := .i64) (E := 2) (cc := vc0) rfl (by kernel_rfl) (by kernel_rfl) rfl (by kernel_rfl) (by kernel_rfl) hv0 c4) ?_; clear hr a; intro a hr
        refine ev 5 4 rfl (by kernel_rfl) (wn rfl) hr (.slice va1 p1.length vc1) (fun w => by kernel_rfl) ?_; clear hr a; intro a hr
        refine ev 4 5 rfl (by kernel_rfl) (wn rfl) hr (.int .i64 g2) (fun w => by kernel_rfl) ?_; clear hr a; intro a hr
        refine evD hgo ⟨⟨hv0.cell c4 (h.dn 0) 0 rfl, trivial⟩, ⟨hv1.cell c5 (h.dn 0) 0 rfl, trivial⟩, trivial⟩ 3 6 rfl (by kernel_rfl) (wn rfl) hr (.pointer (some ⟨blk va1, offs va1 + g2.toNat * 1, none⟩)) (fun w => ri_rd (k := .i64) (E := 2) (cc := vc1) rfl (by kernel_rfl) (by kernel_rfl) rfl (by kernel_rfl) (by kernel_rfl) hv1 c5) ?_; clear hr a; intro a hr
        refine el [2, 6] (b := blk va0) (off := offs va0 + g2.toNat * 1) (cs := [.int .i64 (at_ p0 g2.toNat)]) (fun _ hk => ⟨hk, fun w hD => hD.1⟩) 2 3 rfl (by kernel_rfl) (wn rfl) hr (.int .i64 (at_ p0 g2.toNat)) ⟨hv0.cell c4 (h.dn 0) 0 rfl, trivial⟩ (fun w hc => rl rfl (by kernel_rfl) (by kernel_rfl) hc.1) ?_; clear hr a; intro a hr
        refine el [2, 6] (b := blk va1) (off := offs va1 + g2.toNat * 1) (cs := [.int .i64 (at_ p1 g2.toNat)]) (fun _ hk => ⟨hk, fun w hD => hD.2.1⟩) 1 7 rfl (by kernel_rfl) (wn rfl) hr (.int .i64 (at_ p1 g2.toNat)) ⟨hv1.cell c5 (h.dn 0) 0 rfl, trivial⟩ (fun w hc => rl rfl (by kernel_rfl) (by kernel_rfl) hc.1) ?_; clear hr a; intro a hr
        refine ev 0 8 rfl (by kernel_rfl) (wn rfl) hr (.bool ((at_ p0 g2.toNat) != (at_ p1 g2.toNat))) (fun w => by kernel_rfl) ?_; clear hr a; intro a hr
        refine e_end (by kernel_rfl) ?_
        refine then_normal ?_
        by_cases c6 : (at_ p0 g2.toNat) = (at_ p1 g2.toNat)
        ·
          replace H := ifT c6 H
          refine cond_ff hr (b := ((at_ p0 g2.toNat) != (at_ p1 g2.toNat))) (bne_eq_false_iff_eq.mpr c6) ?_
          refine wp_skip ?_
          refine blk_normal ?_
          refine then_normal ?_
          refine wp_region_lit ?_
          refine ovs [15, 16, 5] [.int .i64 g2, .int .i64 (wi (g2 + (1 : Int))), .int .i64 (wi (g2 + (1 : Int)))] hr ⟨rfl, rfl⟩ (by kernel_rfl) ?_; clear hr a; intro a hr
          refine wpList_nil ?_
          refine then_normal ?_
          replace hr := hr.fold2 [(0, .slice va0 p0.length vc0), (1, .slice va1 p1.length vc1), (5, .int .i64 (wi (g2 + (1 : Int))))] (by kernel_rfl); obtain ⟨j, hr⟩ := hr
          exact ⟨_, ⟨(wi (g2 + (1 : Int))), H, j, hr, h⟩, Nat.lt_succ_self _⟩
        ·
          replace H := ifF c6 H
          refine cond_tt hr (b := ((at_ p0 g2.toNat) != (at_ p1 g2.toNat))) (bne_iff_ne.mpr c6) ?_
          refine wp_seq ?_
          refine wp_region_lit ?_
          refine ov hr (.bool false) (by kernel_rfl) ?_; clear hr a; intro a hr
          refine wpList_nil ?_
          refine then_normal ?_
          refine wp_ret ?_
          refine blk_ret ?_
          refine then_ret ?_
          refine then_ret ?_
          refine blk_ret ?_
          refine then_ret ?_
          refine end_ret1 (v := .bool false) rfl hr (by kernel_rfl) ?_
          replace H := ej1 H; subst H
          exact ⟨rfl, h⟩
      ·
        replace H := ifF c3 H
        refine cond_ff hr (b := (decide (g2 < ((p0.length : Nat) : Int)))) (decide_eq_false c3) ?_
        refine wp_exit ?_
        refine then_exit ?_
        refine then_exit ?_
        refine blk_here ?_
        refine then_normal ?_
        refine wp_seq ?_
        refine wp_region_lit ?_
        refine ov hr (.bool true) (by kernel_rfl) ?_; clear hr a; intro a hr
        refine wpList_nil ?_
        refine then_normal ?_
        refine wp_ret ?_
        refine end_ret1 (v := .bool true) rfl hr (by kernel_rfl) ?_
        replace H := ej1 H; subst H
        exact ⟨rfl, h⟩
  ·
    replace H := ifF c1 H
    refine cond_tt hr (b := (((p0.length : Nat) : Int) != ((p1.length : Nat) : Int))) (bne_iff_ne.mpr c1) ?_
    refine wp_seq ?_
    refine wp_region_lit ?_
    refine ov hr (.bool false) (by kernel_rfl) ?_; clear hr a; intro a hr
    refine wpList_nil ?_
    refine then_normal ?_
    refine wp_ret ?_
    refine then_ret ?_
    refine end_ret1 (v := .bool false) rfl hr (by kernel_rfl) ?_
    replace H := ej1 H; subst H
    exact ⟨rfl, h⟩

def plunderlaw2_sameLog_l1 (K : Nat) (p0 : List T_api_Access) (p1 : List T_api_Access) : Nat → Int → Option (Bool)
  | 0, _ => none
  | k1 + 1, g2 => (if g2 < ((p0.length : Nat) : Int) then if inr_ g2 p0.length then if inr_ g2 p1.length then (if at_ p0 g2.toNat = at_ p1 g2.toNat then (plunderlaw2_sameLog_l1 K p0 p1 k1 (wi (g2 + (1 : Int)))) else some false) else none else none else some true)
/-- plunder/plunderlaw2.sameLog -/
def plunderlaw2_sameLog (K : Nat) (p0 : List T_api_Access) (p1 : List T_api_Access) : Option (Bool) :=
  (if ((p0.length : Nat) : Int) = ((p1.length : Nat) : Int) then (plunderlaw2_sameLog_l1 K p0 p1 K 0) else some false)
set_option maxRecDepth 100000 in
set_option maxHeartbeats 4000000 in
theorem plunderlaw2_sameLog_ok {z w : World} {L : List HProp} {K : Nat} {p0 : List T_api_Access} {p1 : List T_api_Access} {va0 : Option Addr} {vc0 : Nat} {va1 : Option Addr} {vc1 : Nat} {r0 : Bool} (H : plunderlaw2_sameLog K p0 p1 = some r0) (h : Fit z (sepL (L)) w) (hv0 : RdRow L 6 enc_T_api_Access va0 p0) (hv1 : RdRow L 6 enc_T_api_Access va1 p1) :
    Calls Try.prog 41 #[.slice va0 p0.length vc0, .slice va1 p1.length vc1] w fun e w => e = .returned (.bool r0) ∧ Fit z (sepL (L)) w := by
  unfold plunderlaw2_sameLog at H
  refine enter Try.func41 rfl 26 rfl rfl [(0, .slice va0 p0.length vc0), (1, .slice va1 p1.length vc1)] ⟨rfl, rfl, trivial⟩ ?_
  intro j a hr
  refine wp_seq ?_
  refine wp_region_lit ?_
  refine ov hr (.bool false) (by kernel_rfl) ?_; clear hr a; intro a hr
  refine wpList_nil ?_
  refine then_normal ?_
  refine wp_seq ?_
  refine wp_seq ?_
  refine wp_region_lit ?_
  refine ovs [6, 7, 8, 9, 10] [.slice va0 p0.length vc0, .int .i64 ((p0.length : Nat) : Int), .slice va1 p1.length vc1, .int .i64 ((p1.length : Nat) : Int), .bool (((p0.length : Nat) : Int) != ((p1.length : Nat) : Int))] hr ⟨rfl, rfl⟩ (by kernel_rfl) ?_; clear hr a; intro a hr
  refine wpList_nil ?_
  refine then_normal ?_
  by_cases c1 : ((p0.length : Nat) : Int) = ((p1.length : Nat) : Int)
  ·
    replace H := ifT c1 H
    refine cond_ff hr (b := (((p0.length : Nat) : Int) != ((p1.length : Nat) : Int))) (bne_eq_false_iff_eq.mpr c1) ?_
    refine wp_skip ?_
    refine then_normal ?_
    refine wp_seq ?_
    refine wp_seq ?_
    refine wp_region_lit ?_
    refine ov hr (.int .i64 0) (by kernel_rfl) ?_; clear hr a; intro a hr
    refine wpList_nil ?_
    refine then_normal ?_
    refine wp_block ?_
    replace hr := hr.fold2 [(0, .slice va0 p0.length vc0), (1, .slice va1 p1.length vc1), (5, .int .i64 0)] (by kernel_rfl); obtain ⟨j, hr⟩ := hr
    refine loop_rule (β := Nat) id (fun m a w => ∃ g2 : Int, (plunderlaw2_sameLog_l1 K p0 p1 m g2) = some r0 ∧ ∃ j, Rep 26 (lk [(0, .slice va0 p0.length vc0), (1, .slice va1 p1.length vc1), (5, .int .i64 g2)] j) a ∧ Fit z (sepL (L)) w) K ⟨0, H, j, hr, h⟩ ?_
    clear h hr a H; rintro k1 a w ⟨g2, H, j, hr, h⟩
    cases k1 with
    | zero => exact absurd H (by simp [plunderlaw2_sameLog_l1])
    | succ k1 =>
      rw [plunderlaw2_sameLog_l1] at H
      refine wp_seq ?_
      refine wp_seq ?_
      refine wp_region_lit ?_
      refine ovs [11, 12, 13, 14] [.int .i64 g2, .slice va0 p0.length vc0, .int .i64 ((p0.length : Nat) : Int), .bool (decide (g2 < ((p0.length : Nat) : Int)))] hr ⟨rfl, rfl⟩ (by kernel_rfl) ?_; clear hr a; intro a hr
      refine wpList_nil ?_
      refine then_normal ?_
      by_cases c3 : g2 < ((p0.length : Nat) : Int)
      ·
        replace H := ifT c3 H
        refine cond_tt hr (b := (decide (g2 < ((p0.length : Nat) : Int)))) (decide_eq_true c3) ?_
        refine wp_skip ?_
        refine then_normal ?_
        refine wp_seq ?_
        refine wp_block ?_
        refine wp_seq ?_
        replace H := gd H; obtain ⟨c4, H⟩ := H
        replace H := gd H; obtain ⟨c5, H⟩ := H
        refine reg_E (fun w => heldC w (blk va0) (offs va0 + g2.toNat * 6) [.int .i64 ((at_ p0 g2.toNat).Who), .int .i64 ((at_ p0 g2.toNat).Kind), .int .i64 ((at_ p0 g2.toNat).Addr), .int .i64 ((at_ p0 g2.toNat).A), .int .i64 ((at_ p0 g2.toNat).B), .bool ((at_ p0 g2.toNat).OK)] ∧ heldC w (blk va1) (offs va1 + g2.toNat * 6) [.int .i64 ((at_ p1 g2.toNat).Who), .int .i64 ((at_ p1 g2.toNat).Kind), .int .i64 ((at_ p1 g2.toNat).Addr), .int .i64 ((at_ p1 g2.toNat).A), .int .i64 ((at_ p1 g2.toNat).B), .bool ((at_ p1 g2.toNat).OK)] ∧ True) [2, 6] h (by kernel_rfl) ?_; intro w h
        change wpAnyE _ _ _ _ _ _ 9 (Array.replicate 9 false) a w
        have hgo : ∀ w w', CellsGo w w' → (heldC w (blk va0) (offs va0 + g2.toNat * 6) [.int .i64 ((at_ p0 g2.toNat).Who), .int .i64 ((at_ p0 g2.toNat).Kind), .int .i64 ((at_ p0 g2.toNat).Addr), .int .i64 ((at_ p0 g2.toNat).A), .int .i64 ((at_ p0 g2.toNat).B), .bool ((at_ p0 g2.toNat).OK)] ∧ heldC w (blk va1) (offs va1 + g2.toNat * 6) [.int .i64 ((at_ p1 g2.toNat).Who), .int .i64 ((at_ p1 g2.toNat).Kind), .int .i64 ((at_ p1 g2.toNat).Addr), .int .i64 ((at_ p1 g2.toNat).A), .int .i64 ((at_ p1 g2.toNat).B), .bool ((at_ p1 g2.toNat).OK)] ∧ True) → heldC w' (blk va0) (offs va0 + g2.toNat * 6) [.int .i64 ((at_ p0 g2.toNat).Who), .int .i64 ((at_ p0 g2.toNat).Kind), .int .i64 ((at_ p0 g2.toNat).Addr), .int .i64 ((at_ p0 g2.toNat).A), .int .i64 ((at_ p0 g2.toNat).B), .bool ((at_ p0 g2.toNat).OK)] ∧ heldC w' (blk va1) (offs va1 + g2.toNat * 6) [.int .i64 ((at_ p1 g2.toNat).Who), .int .i64 ((at_ p1 g2.toNat).Kind), .int .i64 ((at_ p1 g2.toNat).Addr), .int .i64 ((at_ p1 g2.toNat).A), .int .i64 ((at_ p1 g2.toNat).B), .bool ((at_ p1 g2.toNat).OK)] ∧ True := fun w w' g hD => ⟨heldC_go _ _ _ _ _ g hD.1, heldC_go _ _ _ _ _ g hD.2.1, trivial⟩
        refine ev 8 0 rfl (by kernel_rfl) (wn rfl) hr (.slice va0 p0.length vc0) (fun w => by kernel_rfl) ?_; clear hr a; intro a hr
        refine ev 7 1 rfl (by kernel_rfl) (wn rfl) hr (.int .i64 g2) (fun w => by kernel_rfl) ?_; clear hr a; intro a hr
        refine evD hgo ⟨⟨hv0.cell c4 (h.dn 0) 0 rfl, hv0.cell c4 (h.dn 0) 1 rfl, hv0.cell c4 (h.dn 0) 2 rfl, hv0.cell c4 (h.dn 0) 3 rfl, hv0.cell c4 (h.dn 0) 4 rfl, hv0.cell c4 (h.dn 0) 5 rfl, trivial⟩, ⟨hv1.cell c5 (h.dn 0) 0 rfl, hv1.cell c5 (h.dn 0) 1 rfl, hv1.cell c5 (h.dn 0) 2 rfl, hv1.cell c5 (h.dn 0) 3 rfl, hv1.cell c5 (h.dn 0) 4 rfl, hv1.cell c5 (h.dn 0) 5 rfl, trivial⟩, trivial⟩ 6 2 rfl (by kernel_rfl) (wn rfl) hr (.pointer (some ⟨blk va0, offs va0 + g2.toNat * 6, none⟩)) (fun w => ri_rd (k := .i64) (E := 90) (cc := vc0) rfl (by kernel_rfl) (by kernel_rfl) rfl (by kernel_rfl) (by kernel_rfl) hv0 c4) ?_; clear hr a; intro a hr
        refine ev 5 4 rfl (by kernel_rfl) (wn rfl) hr (.slice va1 p1.length vc1) (fun w => by kernel_rfl) ?_; clear hr a; intro a hr
        refine ev 4 5 rfl (by kernel_rfl) (wn rfl) hr (.int .i64 g2) (fun w => by kernel_rfl) ?_; clear hr a; intro a hr
        refine evD hgo ⟨⟨hv0.cell c4 (h.dn 0) 0 rfl, hv0.cell c4 (h.dn 0) 1 rfl, hv0.cell c4 (h.dn 0) 2 rfl, hv0.cell c4 (h.dn 0) 3 rfl, hv0.cell c4 (h.dn 0) 4 rfl, hv0.cell c4 (h.dn 0) 5 rfl, trivial⟩, ⟨hv1.cell c5 (h.dn 0) 0 rfl, hv1.cell c5 (h.dn 0) 1 rfl, hv1.cell c5 (h.dn 0) 2 rfl, hv1.cell c5 (h.dn 0) 3 rfl, hv1.cell c5 (h.dn 0) 4 rfl, hv1.cell c5 (h.dn 0) 5 rfl, trivial⟩, trivial⟩ 3 6 rfl (by kernel_rfl) (wn rfl) hr (.pointer (some ⟨blk va1, offs va1 + g2.toNat * 6, none⟩)) (fun w => ri_rd (k := .i64) (E := 90) (cc := vc1) rfl (by kernel_rfl) (by kernel_rfl) rfl (by kernel_rfl) (by kernel_rfl) hv1 c5) ?_; clear hr a; intro a hr
        refine el [2, 6] (b := blk va0) (off := offs va0 + g2.toNat * 6) (cs := [.int .i64 ((at_ p0 g2.toNat).Who), .int .i64 ((at_ p0 g2.toNat).Kind), .int .i64 ((at_ p0 g2.toNat).Addr), .int .i64 ((at_ p0 g2.toNat).A), .int .i64 ((at_ p0 g2.toNat).B), .bool ((at_ p0 g2.toNat).OK)]) (fun _ hk => ⟨hk, fun w hD => hD.1⟩) 2 3 rfl (by kernel_rfl) (wn rfl) hr (.agg #[.int .i64 ((at_ p0 g2.toNat).Who), .int .i64 ((at_ p0 g2.toNat).Kind), .int .i64 ((at_ p0 g2.toNat).Addr), .int .i64 ((at_ p0 g2.toNat).A), .int .i64 ((at_ p0 g2.toNat).B), .bool ((at_ p0 g2.toNat).OK)]) ⟨hv0.cell c4 (h.dn 0) 0 rfl, hv0.cell c4 (h.dn 0) 1 rfl, hv0.cell c4 (h.dn 0) 2 rfl, hv0.cell c4 (h.dn 0) 3 rfl, hv0.cell c4 (h.dn 0) 4 rfl, hv0.cell c4 (h.dn 0) 5 rfl, trivial⟩ (fun w hc => rlm (cs := [.int .i64 ((at_ p0 g2.toNat).Who), .int .i64 ((at_ p0 g2.toNat).Kind), .int .i64 ((at_ p0 g2.toNat).Addr), .int .i64 ((at_ p0 g2.toNat).A), .int .i64 ((at_ p0 g2.toNat).B), .bool ((at_ p0 g2.toNat).OK)]) rfl (by kernel_rfl) (by kernel_rfl) (by kernel_rfl) hc) ?_; clear hr a; intro a hr
        refine el [2, 6] (b := blk va1) (off := offs va1 + g2.toNat * 6) (cs := [.int .i64 ((at_ p1 g2.toNat).Who), .int .i64 ((at_ p1 g2.toNat).Kind), .int .i64 ((at_ p1 g2.toNat).Addr), .int .i64 ((at_ p1 g2.toNat).A), .int .i64 ((at_ p1 g2.toNat).B), .bool ((at_ p1 g2.toNat).OK)]) (fun _ hk => ⟨hk, fun w hD => hD.2.1⟩) 1 7 rfl (by kernel_rfl) (wn rfl) hr (.agg #[.int .i64 ((at_ p1 g2.toNat).Who), .int .i64 ((at_ p1 g2.toNat).Kind), .int .i64 ((at_ p1 g2.toNat).Addr), .int .i64 ((at_ p1 g2.toNat).A), .int .i64 ((at_ p1 g2.toNat).B), .bool ((at_ p1 g2.toNat).OK)]) ⟨hv1.cell c5 (h.dn 0) 0 rfl, hv1.cell c5 (h.dn 0) 1 rfl, hv1.cell c5 (h.dn 0) 2 rfl, hv1.cell c5 (h.dn 0) 3 rfl, hv1.cell c5 (h.dn 0) 4 rfl, hv1.cell c5 (h.dn 0) 5 rfl, trivial⟩ (fun w hc => rlm (cs := [.int .i64 ((at_ p1 g2.toNat).Who), .int .i64 ((at_ p1 g2.toNat).Kind), .int .i64 ((at_ p1 g2.toNat).Addr), .int .i64 ((at_ p1 g2.toNat).A), .int .i64 ((at_ p1 g2.toNat).B), .bool ((at_ p1 g2.toNat).OK)]) rfl (by kernel_rfl) (by kernel_rfl) (by kernel_rfl) hc) ?_; clear hr a; intro a hr
        refine ev 0 8 rfl (by kernel_rfl) (wn rfl) hr (.bool (!(decide (at_ p0 g2.toNat = at_ p1 g2.toNat)))) (fun w => rb (rne rfl (by kernel_rfl) (by kernel_rfl) (by kernel_rfl) (by kernel_rfl) (by kernel_rfl) (by kernel_rfl)) (congrArg (!·) (eq_T_api_Access (at_ p0 g2.toNat) (at_ p1 g2.toNat)))) ?_; clear hr a; intro a hr
        refine e_end (by kernel_rfl) ?_
        refine then_normal ?_
        by_cases c6 : at_ p0 g2.toNat = at_ p1 g2.toNat
        ·
          replace H := ifT c6 H
          refine cond_ff hr (b := (!(decide (at_ p0 g2.toNat = at_ p1 g2.toNat)))) (by rw [show (decide (at_ p0 g2.toNat = at_ p1 g2.toNat)) = true from (decide_eq_true c6)]; rfl) ?_
          refine wp_skip ?_
          refine blk_normal ?_
          refine then_normal ?_
          refine wp_region_lit ?_
          refine ovs [15, 16, 5] [.int .i64 g2, .int .i64 (wi (g2 + (1 : Int))), .int .i64 (wi (g2 + (1 : Int)))] hr ⟨rfl, rfl⟩ (by kernel_rfl) ?_; clear hr a; intro a hr
          refine wpList_nil ?_
          refine then_normal ?_
          replace hr := hr.fold2 [(0, .slice va0 p0.length vc0), (1, .slice va1 p1.length vc1), (5, .int .i64 (wi (g2 + (1 : Int))))] (by kernel_rfl); obtain ⟨j, hr⟩ := hr
          exact ⟨_, ⟨(wi (g2 + (1 : Int))), H, j, hr, h⟩, Nat.lt_succ_self _⟩
        ·
          replace H := ifF c6 H
          refine cond_tt hr (b := (!(decide (at_ p0 g2.toNat = at_ p1 g2.toNat)))) (by rw [show (decide (at_ p0 g2.toNat = at_ p1 g2.toNat)) = false from (decide_eq_false c6)]; rfl) ?_
          refine wp_seq ?_
          refine wp_region_lit ?_
          refine ov hr (.bool false) (by kernel_rfl) ?_; clear hr a; intro a hr
          refine wpList_nil ?_
          refine then_normal ?_
          refine wp_ret ?_
          refine blk_ret ?_
          refine then_ret ?_
          refine then_ret ?_
          refine blk_ret ?_
          refine then_ret ?_
          refine end_ret1 (v := .bool false) rfl hr (by kernel_rfl) ?_
          replace H := ej1 H; subst H
          exact ⟨rfl, h⟩
      ·
        replace H := ifF c3 H
        refine cond_ff hr (b := (decide (g2 < ((p0.length : Nat) : Int)))) (decide_eq_false c3) ?_
        refine wp_exit ?_
        refine then_exit ?_
        refine then_exit ?_
        refine blk_here ?_
        refine then_normal ?_
        refine wp_seq ?_
        refine wp_region_lit ?_
        refine ov hr (.bool true) (by kernel_rfl) ?_; clear hr a; intro a hr
        refine wpList_nil ?_
        refine then_normal ?_
        refine wp_ret ?_
        refine end_ret1 (v := .bool true) rfl hr (by kernel_rfl) ?_
        replace H := ej1 H; subst H
        exact ⟨rfl, h⟩
  ·
    replace H := ifF c1 H
    refine cond_tt hr (b := (((p0.length : Nat) : Int) != ((p1.length : Nat) : Int))) (bne_iff_ne.mpr c1) ?_
    refine wp_seq ?_
    refine wp_region_lit ?_
    refine ov hr (.bool false) (by kernel_rfl) ?_; clear hr a; intro a hr
    refine wpList_nil ?_
    refine then_normal ?_
    refine wp_ret ?_
    refine then_ret ?_
    refine end_ret1 (v := .bool false) rfl hr (by kernel_rfl) ?_
    replace H := ej1 H; subst H
    exact ⟨rfl, h⟩

/-- (*plunder/plunderlaw2.book).mark -/
def plunderlaw2_book_mark (p0 : T_plunderlaw2_book) : Option (Int × T_plunderlaw2_book) :=
  some (wi ((wi ((1000003 : Int) * (wi (p0.next + (16 : Int))))) + (7 : Int)), { p0 with next := wi (p0.next + (16 : Int)) })
set_option maxRecDepth 100000 in
set_option maxHeartbeats 4000000 in
theorem plunderlaw2_book_mark_ok {z w : World} {L : List HProp} {p0 : T_plunderlaw2_book} {B0 : Nat} {ca1 : Option Addr} {cc2 : Nat} {ca3 : Option Addr} {cc4 : Nat} {r0 : Int} {q0 : T_plunderlaw2_book} (H : plunderlaw2_book_mark p0 = some (r0, q0)) (h : Fit z (sepL (ob78 B0 p0 ca1 cc2 ca3 cc4 :: rn139 ca1 cc2 p0.numberLists :: rn142 ca3 cc4 p0.accessLists :: L)) w)  :
    Calls Try.prog 90 #[.pointer (some ⟨B0, 0, none⟩)] w fun e w => ∃ caq0_1 : Option Addr, ∃ ccq0_2 : Nat, ∃ caq0_3 : Option Addr, ∃ ccq0_4 : Nat, e = .returned (.int .i64 r0) ∧ Fit z (sepL (ob78 B0 q0 caq0_1 ccq0_2 caq0_3 ccq0_4 :: rn139 caq0_1 ccq0_2 q0.numberLists :: rn142 caq0_3 ccq0_4 q0.accessLists :: L)) w := by
  unfold plunderlaw2_book_mark at H
  refine enter Try.func90 rfl 17 rfl rfl [(0, .pointer (some ⟨B0, 0, none⟩))] ⟨rfl, trivial⟩ ?_
  intro j a hr
  refine wp_seq ?_
  refine wp_region_lit ?_
  refine ov hr (.int .i64 0) (by kernel_rfl) ?_; clear hr a; intro a hr
  refine wpList_nil ?_
  refine then_normal ?_
  refine wp_seq ?_
  refine wp_region_lit ?_
  refine ovs [3, 4, 5, 6] [.pointer (some ⟨B0, 0, none⟩), .pointer (some ⟨B0, 0, none⟩), .pointer (some ⟨B0, 0, none⟩), .pointer (some ⟨B0, 2, none⟩)] hr ⟨rfl, rfl⟩ (by kernel_rfl) ?_; clear hr a; intro a hr
  refine op_val (wn rfl) rfl rfl hr (v := .int .i64 p0.next) (rl rfl (by kernel_rfl) (by kernel_rfl) (h.cell 2 rfl)) ?_; clear hr a; intro a hr
  refine ovs [8, 9, 10] [.int .i64 (wi (p0.next + (16 : Int))), .pointer (some ⟨B0, 0, none⟩), .pointer (some ⟨B0, 2, none⟩)] hr ⟨rfl, rfl⟩ (by kernel_rfl) ?_; clear hr a; intro a hr
  refine op_store (wn rfl) rfl hr rfl (by kernel_rfl) (by kernel_rfl) (v := .int .i64 (wi (p0.next + (16 : Int)))) rfl rfl (by kernel_rfl) h (i := 2) rfl ?_; clear h; intro w h
  refine wpList_nil ?_
  replace h : Fit z (sepL (pts B0 (.cells #[.slice ca1 p0.numberLists.length cc2, .slice ca3 p0.accessLists.length cc4, .int .i64 (wi (p0.next + (16 : Int)))] 78) :: rn139 ca1 cc2 p0.numberLists :: rn142 ca3 cc4 p0.accessLists :: L)) _ := h
  refine then_normal ?_
  refine wp_seq ?_
  refine wp_region_lit ?_
  refine ovs [11, 12, 13] [.pointer (some ⟨B0, 0, none⟩), .pointer (some ⟨B0, 0, none⟩), .pointer (some ⟨B0, 2, none⟩)] hr ⟨rfl, rfl⟩ (by kernel_rfl) ?_; clear hr a; intro a hr
  refine op_val (wn rfl) rfl rfl hr (v := .int .i64 (wi (p0.next + (16 : Int)))) (rl rfl (by kernel_rfl) (by kernel_rfl) (h.cell 2 rfl)) ?_; clear hr a; intro a hr
  refine ovs [15, 16, 2] [.int .i64 (wi ((1000003 : Int) * (wi (p0.next + (16 : Int))))), .int .i64 (wi ((wi ((1000003 : Int) * (wi (p0.next + (16 : Int))))) + (7 : Int))), .int .i64 (wi ((wi ((1000003 : Int) * (wi (p0.next + (16 : Int))))) + (7 : Int)))] hr ⟨rfl, rfl⟩ (by kernel_rfl) ?_; clear hr a; intro a hr
  refine wpList_nil ?_
  refine then_normal ?_
  refine wp_ret ?_
  refine end_ret1 (v := .int .i64 (wi ((wi ((1000003 : Int) * (wi (p0.next + (16 : Int))))) + (7 : Int)))) rfl hr (by kernel_rfl) ?_
  replace H := ej2 H; obtain ⟨rfl, rfl⟩ := H
  exact ⟨ca1, cc2, ca3, cc4, rfl, h⟩

def plunderlaw2_book_numbers_l1 (K : Nat) (p1 : List Int) (r6 : Int) : Nat → (List Int) → Int → Option ((List Int))
  | 0, _, _ => none
  | k1 + 1, l16, g17 => (if g17 < ((p1.length : Nat) : Int) then if inr_ g17 l16.length then (plunderlaw2_book_numbers_l1 K p1 r6 k1 (l16.set g17.toNat r6) (wi (g17 + (1 : Int)))) else none else some l16)
def plunderlaw2_book_numbers_l2 (K : Nat) (r6 : Int) : Nat → (List Int) → Int → Option (Unit)
  | 0, _, _ => none
  | k2 + 1, l24, g25 => (if g25 < (64 : Int) then if (l24.length + 1) * 8 ≤ 140737488355328 then (plunderlaw2_book_numbers_l2 K r6 k2 (l24 ++ [wi (r6 + (7 : Int))]) (wi (g25 + (1 : Int)))) else none else some ())
/-- (*plunder/plunderlaw2.book).numbers -/
def plunderlaw2_book_numbers (K : Nat) (p0 : T_plunderlaw2_book) (p1 : List Int) : Option (T_plunderlaw2_book) :=
  ob2 (plunderlaw2_book_mark p0) (fun r6 S7 => ob1 ((plunderlaw2_book_numbers_l1 K p1 r6 K p1 0)) (fun l13 => ob0 (if (l13.length + 1) * 8 ≤ 140737488355328 then (plunderlaw2_book_numbers_l2 K r6 K (l13 ++ [wi (r6 + (7 : Int))]) 1) else none) (if (l13.length + 1) * 8 ≤ 140737488355328 then if (l13.length + 2) * 8 ≤ 140737488355328 then if (l13.length + 3) * 8 ≤ 140737488355328 then if (S7.numberLists.length + 1) * 104 ≤ 140737488355328 then some ({ S7 with numberLists := S7.numberLists ++ [(⟨r6, l13, l13 ++ [wi (r6 + (1 : Int))], l13 ++ [wi (r6 + (2 : Int)), wi (r6 + (3 : Int))], l13 ++ [wi (r6 + (4 : Int)), wi (r6 + (5 : Int)), wi (r6 + (6 : Int))]⟩ : T_plunderlaw2_kept)] }) else none else none else none else none)))
set_option maxRecDepth 100000 in
set_option maxHeartbeats 4000000 in
theorem plunderlaw2_book_numbers_ok {z w : World} {L : List HProp} {K : Nat} {p0 : T_plunderlaw2_book} {p1 : List Int} {B0 : Nat} {ca1 : Option Addr} {cc2 : Nat} {ca3 : Option Addr} {cc4 : Nat} {ca5 : Option Addr} {q0 : T_plunderlaw2_book} (H : plunderlaw2_book_numbers K p0 p1 = some q0) (h : Fit z (sepL (ob78 B0 p0 ca1 cc2 ca3 cc4 :: rn139 ca1 cc2 p0.numberLists :: rn142 ca3 cc4 p0.accessLists :: ro2 ca5 p1.length p1 :: L)) w)  :
    Calls Try.prog 42 #[.pointer (some ⟨B0, 0, none⟩), .slice ca5 p1.length p1.length] w fun e w => ∃ caq0_1 : Option Addr, ∃ ccq0_2 : Nat, ∃ caq0_3 : Option Addr, ∃ ccq0_4 : Nat, e = .returned (.tuple #[]) ∧ Fit z (sepL (ob78 B0 q0 caq0_1 ccq0_2 caq0_3 ccq0_4 :: rn139 caq0_1 ccq0_2 q0.numberLists :: rn142 caq0_3 ccq0_4 q0.accessLists :: L)) w := by
  unfold plunderlaw2_book_numbers at H
  refine enter Try.func42 rfl 69 rfl rfl [(0, .pointer (some ⟨B0, 0, none⟩)), (1, .slice ca5 p1.length p1.length)] ⟨rfl, rfl, trivial⟩ ?_
  intro j a hr
  refine wp_seq ?_
  refine wp_region_lit ?_
  replace H := bd2 H; obtain ⟨r6, S7, e8, H⟩ := H
  refine ov hr (.pointer (some ⟨B0, 0, none⟩)) (by kernel_rfl) ?_; clear hr a; intro a hr
  have hc := plunderlaw2_book_mark_ok (H := e8) (h := h)
  refine op_call (wn rfl) rfl rfl hr (f := 90) (args := #[.pointer (some ⟨B0, 0, none⟩)]) (by kernel_rfl) hc ?_; clear hc h
  rintro _ w ⟨caq9, ccq10, caq11, ccq12, rfl, h⟩; refine ⟨_, rfl, ?_⟩
  clear hr a; intro a hr
  refine ov hr (.int .i64 r6) (by kernel_rfl) ?_; clear hr a; intro a hr
  refine wpList_nil ?_
  refine then_normal ?_
  replace H := kd1 H; obtain ⟨o15, H, hK14⟩ := H
  refine cut_rule (β := Unit) (fun _ a w => ∃ l13 : List Int, l13 = o15 ∧ ∃ j, Rep 69 (lk [(0, .pointer (some ⟨B0, 0, none⟩)), (1, .slice ca5 p1.length p1.length), (4, .int .i64 r6)] j) a ∧ Fit z (sepL (ob78 B0 S7 caq9 ccq10 caq11 ccq12 :: rn139 caq9 ccq10 S7.numberLists :: rn142 caq11 ccq12 S7.accessLists :: rowOf 2 1 encZ_i64 (.slice ca5 p1.length p1.length) l13 :: L)) w) ?_ ?_
  ·
    refine wp_seq ?_
    refine wp_region_lit ?_
    refine ov hr (.int .i64 0) (by kernel_rfl) ?_; clear hr a; intro a hr
    refine wpList_nil ?_
    refine then_normal ?_
    refine wp_block ?_
    replace hr := hr.fold2 [(0, .pointer (some ⟨B0, 0, none⟩)), (1, .slice ca5 p1.length p1.length), (4, .int .i64 r6), (5, .int .i64 0)] (by kernel_rfl); obtain ⟨j, hr⟩ := hr
    refine loop_rule (β := Nat) id (fun m a w => ∃ l16 : List Int, ∃ g17 : Int, (plunderlaw2_book_numbers_l1 K p1 r6 m l16 g17) = some o15 ∧ ∃ j, Rep 69 (lk [(0, .pointer (some ⟨B0, 0, none⟩)), (1, .slice ca5 p1.length p1.length), (4, .int .i64 r6), (5, .int .i64 g17)] j) a ∧ Fit z (sepL (ob78 B0 S7 caq9 ccq10 caq11 ccq12 :: rn139 caq9 ccq10 S7.numberLists :: rn142 caq11 ccq12 S7.accessLists :: rowOf 2 1 encZ_i64 (.slice ca5 p1.length p1.length) l16 :: L)) w) K ⟨p1, 0, H, j, hr, h⟩ ?_
    clear h hr a H; rintro k1 a w ⟨l16, g17, H, j, hr, h⟩
    cases k1 with
    | zero => exact absurd H (by simp [plunderlaw2_book_numbers_l1])
    | succ k1 =>
      rw [plunderlaw2_book_numbers_l1] at H
      refine wp_seq ?_
      refine wp_seq ?_
      refine wp_region_lit ?_
      refine ovs [13, 14, 15, 16] [.int .i64 g17, .slice ca5 p1.length p1.length, .int .i64 ((p1.length : Nat) : Int), .bool (decide (g17 < ((p1.length : Nat) : Int)))] hr ⟨rfl, rfl⟩ (by kernel_rfl) ?_; clear hr a; intro a hr
      refine wpList_nil ?_
      refine then_normal ?_
      by_cases c18 : g17 < ((p1.length : Nat) : Int)
      ·
        replace H := ifT c18 H
        refine cond_tt hr (b := (decide (g17 < ((p1.length : Nat) : Int)))) (decide_eq_true c18) ?_
        refine wp_skip ?_
        refine then_normal ?_
        refine wp_seq ?_
        refine wp_block ?_
        refine wp_region_lit ?_
        replace H := gd H; obtain ⟨c19, H⟩ := H
        refine ovs [19, 20, 21] [.slice ca5 p1.length p1.length, .int .i64 g17, .int .i64 r6] hr ⟨rfl, rfl⟩ (by kernel_rfl) ?_; clear hr a; intro a hr
        refine op_val (wn rfl) rfl rfl hr (v := .pointer (some ⟨blk ca5, g17.toNat * 1, none⟩)) (ri_row (k := .i64) (E := 2) rfl (by kernel_rfl) (by kernel_rfl) (by kernel_rfl) (by kernel_rfl) (h.pick 3) c19) ?_; clear hr a; intro a hr
        replace h : Fit z (sepL (rowOf 2 1 encZ_i64 (.slice ca5 p1.length p1.length) l16 :: ob78 B0 S7 caq9 ccq10 caq11 ccq12 :: rn139 caq9 ccq10 S7.numberLists :: rn142 caq11 ccq12 S7.accessLists :: L)) _ := h.sel 4 [3, 0, 1, 2] (by kernel_rfl) (by kernel_rfl)
        refine op_store_row (wn rfl) rfl hr rfl (by kernel_rfl) (by kernel_rfl) (v := .int .i64 r6) rfl rfl (by kernel_rfl) encZ_i64_ok h (i := g17.toNat) (f := 0) (p := (at_ l16 g17.toNat)) (q := r6) (at_ok c19) (by decide) rfl ?_; clear h; intro w h
        replace h : Fit z (sepL (rowOf 2 1 encZ_i64 (.slice ca5 p1.length p1.length) (l16.set g17.toNat r6) :: ob78 B0 S7 caq9 ccq10 caq11 ccq12 :: rn139 caq9 ccq10 S7.numberLists :: rn142 caq11 ccq12 S7.accessLists :: L)) _ := h
        refine wpList_nil ?_
        refine blk_normal ?_
        refine then_normal ?_
        refine wp_region_lit ?_
        refine ovs [17, 18, 5] [.int .i64 g17, .int .i64 (wi (g17 + (1 : Int))), .int .i64 (wi (g17 + (1 : Int)))] hr ⟨rfl, rfl⟩ (by kernel_rfl) ?_; clear hr a; intro a hr
        refine wpList_nil ?_
        refine then_normal ?_
        replace hr := hr.fold2 [(0, .pointer (some ⟨B0, 0, none⟩)), (1, .slice ca5 p1.length p1.length), (4, .int .i64 r6), (5, .int .i64 (wi (g17 + (1 : Int))))] (by kernel_rfl); obtain ⟨j, hr⟩ := hr
        replace h : Fit z (sepL (ob78 B0 S7 caq9 ccq10 caq11 ccq12 :: rn139 caq9 ccq10 S7.numberLists :: rn142 caq11 ccq12 S7.accessLists :: rowOf 2 1 encZ_i64 (.slice ca5 p1.length p1.length) (l16.set g17.toNat r6) :: L)) _ := h.sel 4 [1, 2, 3, 0] (by kernel_rfl) (by kernel_rfl)
        exact ⟨_, ⟨(l16.set g17.toNat r6), (wi (g17 + (1 : Int))), H, j, hr, h⟩, Nat.lt_succ_self _⟩
      ·
        replace H := ifF c18 H
        refine cond_ff hr (b := (decide (g17 < ((p1.length : Nat) : Int)))) (decide_eq_false c18) ?_
        refine wp_exit ?_
        refine then_exit ?_
        refine then_exit ?_
        refine blk_here ?_
        refine then_normal ?_
        replace hr := hr.fold2 [(0, .pointer (some ⟨B0, 0, none⟩)), (1, .slice ca5 p1.length p1.length), (4, .int .i64 r6)] (by kernel_rfl); obtain ⟨j, hr⟩ := hr
        exact ⟨(), l16, sinj H, j, hr, h⟩
  clear h hr a; rintro _ a w ⟨l13, rfl, j, hr, h⟩
  replace H := kk1 hK14
  refine wp_seq ?_
  refine wp_region_lit ?_
  refine ovs [23, 6] [.slice ca5 p1.length p1.length, .slice ca5 p1.length p1.length] hr ⟨rfl, rfl⟩ (by kernel_rfl) ?_; clear hr a; intro a hr
  refine wpList_nil ?_
  refine then_normal ?_
  replace H := kd0 H; obtain ⟨o21, H, hK20⟩ := H
  refine cut_rule (β := Unit) (fun _ a w => () = o21 ∧ ∃ j, Rep 69 (lk [(0, .pointer (some ⟨B0, 0, none⟩)), (1, .slice ca5 p1.length p1.length), (4, .int .i64 r6)] j) a ∧ Fit z (sepL (ob78 B0 S7 caq9 ccq10 caq11 ccq12 :: rn139 caq9 ccq10 S7.numberLists :: rn142 caq11 ccq12 S7.accessLists :: rowOf 2 1 encZ_i64 (.slice ca5 p1.length p1.length) l13 :: L)) w) ?_ ?_
  ·
    refine wp_seq ?_
    refine wp_region_lit ?_
    refine ov hr (.int .i64 0) (by kernel_rfl) ?_; clear hr a; intro a hr
    refine wpList_nil ?_
    refine then_normal ?_
    refine wp_block ?_
    refine loop_first (β := Nat) id (fun m a w => ∃ ca22 : Option Addr, ∃ cc23 : Nat, ∃ l24 : List Int, ∃ g25 : Int, (plunderlaw2_book_numbers_l2 K r6 m l24 g25) = some o21 ∧ ∃ j, Rep 69 (lk [(0, .pointer (some ⟨B0, 0, none⟩)), (1, .slice ca5 p1.length p1.length), (4, .int .i64 r6), (6, .slice ca22 l24.length cc23), (7, .int .i64 g25)] j) a ∧ Fit z (sepL (ob78 B0 S7 caq9 ccq10 caq11 ccq12 :: rn139 caq9 ccq10 S7.numberLists :: rn142 caq11 ccq12 S7.accessLists :: rowOf 2 1 encZ_i64 (.slice ca5 p1.length p1.length) l13 :: ro2 ca22 cc23 l24 :: L)) w) ?_ ?_
    ·
      refine wp_seq ?_
      refine wp_seq ?_
      refine wp_region_lit ?_
      refine ovs [24, 25] [.int .i64 0, .bool true] hr ⟨rfl, rfl⟩ (by kernel_rfl) ?_; clear hr a; intro a hr
      refine wpList_nil ?_
      refine then_normal ?_
      refine cond_tt hr (b := true) rfl ?_
      refine wp_skip ?_
      refine then_normal ?_
      refine wp_seq ?_
      refine wp_block ?_
      refine wp_region_lit ?_
      refine ovs [28, 29, 30] [.slice ca5 p1.length p1.length, .int .i64 r6, .int .i64 (wi (r6 + (7 : Int)))] hr ⟨rfl, rfl⟩ (by kernel_rfl) ?_; clear hr a; intro a hr
      refine op_new (wn rfl) rfl rfl hr h (vf := fun b => .slice (some ⟨b, 0, none⟩) 1 1) (cs := #[.int .i64 (wi (r6 + (7 : Int)))]) (T := 2) (by kernel_rfl) ?_; clear h hr a; intro b26 w a h hr
      replace h : Fit z (sepL (rowOf 2 1 encZ_i64 (.slice ca5 p1.length p1.length) l13 :: pts b26 (.cells #[.int .i64 (wi (r6 + (7 : Int)))] 2) :: ob78 B0 S7 caq9 ccq10 caq11 ccq12 :: rn139 caq9 ccq10 S7.numberLists :: rn142 caq11 ccq12 S7.accessLists :: L)) _ := h.sel 5 [4, 0, 1, 2, 3] (by kernel_rfl) (by kernel_rfl)
      replace H := gd H; obtain ⟨c29, H⟩ := H
      refine op_append_fullrow (n0 := p1.length) (c := 1) (bytes := 8) (wn rfl) rfl rfl hr rfl (by kernel_rfl) rfl (by kernel_rfl) (by kernel_rfl) encZ_i64_ok (E := 2) (xs := l13) (by kernel_rfl) (by kernel_rfl) h (news := [wi (r6 + (7 : Int))]) (m := 1) rfl ((h.pick 1).news rfl) c29 rfl ?_; clear h hr a; intro ca27 cc28 w a h hr
      refine ov hr (.slice ca27 ((l13 ++ [wi (r6 + (7 : Int))]).length) cc28) (by kernel_rfl) ?_; clear hr a; intro a hr
      refine wpList_nil ?_
      replace h : Fit z (sepL (ro2 ca27 cc28 (l13 ++ [wi (r6 + (7 : Int))]) :: rowOf 2 1 encZ_i64 (.slice ca5 p1.length p1.length) l13 :: pts b26 (.cells #[.int .i64 (wi (r6 + (7 : Int)))] 2) :: ob78 B0 S7 caq9 ccq10 caq11 ccq12 :: rn139 caq9 ccq10 S7.numberLists :: rn142 caq11 ccq12 S7.accessLists :: L)) _ := h
      refine blk_normal ?_
      refine then_normal ?_
      refine wp_region_lit ?_
      refine ovs [26, 27, 7] [.int .i64 0, .int .i64 1, .int .i64 1] hr ⟨rfl, rfl⟩ (by kernel_rfl) ?_; clear hr a; intro a hr
      refine wpList_nil ?_
      refine then_normal ?_
      replace hr := hr.fold2 [(0, .pointer (some ⟨B0, 0, none⟩)), (1, .slice ca5 p1.length p1.length), (4, .int .i64 r6), (6, .slice ca27 ((l13 ++ [wi (r6 + (7 : Int))]).length) cc28), (7, .int .i64 1)] (by kernel_rfl); obtain ⟨j, hr⟩ := hr
      replace h : Fit z (sepL (ob78 B0 S7 caq9 ccq10 caq11 ccq12 :: rn139 caq9 ccq10 S7.numberLists :: rn142 caq11 ccq12 S7.accessLists :: rowOf 2 1 encZ_i64 (.slice ca5 p1.length p1.length) l13 :: ro2 ca27 cc28 (l13 ++ [wi (r6 + (7 : Int))]) :: L)) _ := h.sel 6 [3, 4, 5, 1, 0] (by kernel_rfl) (by kernel_rfl)
      exact ⟨K, ca27, cc28, (l13 ++ [wi (r6 + (7 : Int))]), 1, H, j, hr, h⟩
    clear h hr a H; rintro k2 a w ⟨ca22, cc23, l24, g25, H, j, hr, h⟩
    cases k2 with
    | zero => exact absurd H (by simp [plunderlaw2_book_numbers_l2])
    | succ k2 =>
      rw [plunderlaw2_book_numbers_l2] at H
      refine wp_seq ?_
      refine wp_seq ?_
      refine wp_region_lit ?_
      refine ovs [24, 25] [.int .i64 g25, .bool (decide (g25 < (64 : Int)))] hr ⟨rfl, rfl⟩ (by kernel_rfl) ?_; clear hr a; intro a hr
      refine wpList_nil ?_
      refine then_normal ?_
      by_cases c30 : g25 < (64 : Int)
      ·
        replace H := ifT c30 H
        refine cond_tt hr (b := (decide (g25 < (64 : Int)))) (decide_eq_true c30) ?_
        refine wp_skip ?_
        refine then_normal ?_
        refine wp_seq ?_
        refine wp_block ?_
        refine wp_region_lit ?_
        refine ovs [28, 29, 30] [.slice ca22 l24.length cc23, .int .i64 r6, .int .i64 (wi (r6 + (7 : Int)))] hr ⟨rfl, rfl⟩ (by kernel_rfl) ?_; clear hr a; intro a hr
        refine op_new (wn rfl) rfl rfl hr h (vf := fun b => .slice (some ⟨b, 0, none⟩) 1 1) (cs := #[.int .i64 (wi (r6 + (7 : Int)))]) (T := 2) (by kernel_rfl) ?_; clear h hr a; intro b31 w a h hr
        replace h : Fit z (sepL (ro2 ca22 cc23 l24 :: pts b31 (.cells #[.int .i64 (wi (r6 + (7 : Int)))] 2) :: ob78 B0 S7 caq9 ccq10 caq11 ccq12 :: rn139 caq9 ccq10 S7.numberLists :: rn142 caq11 ccq12 S7.accessLists :: rowOf 2 1 encZ_i64 (.slice ca5 p1.length p1.length) l13 :: L)) _ := h.sel 6 [5, 0, 1, 2, 3, 4] (by kernel_rfl) (by kernel_rfl)
        replace H := gd H; obtain ⟨c34, H⟩ := H
        refine op_append (n0 := l24.length) (c := 1) (bytes := 8) (wn rfl) rfl rfl hr rfl (by kernel_rfl) (by kernel_rfl) encZ_i64_ok (E := 2) (xs := l24) (by kernel_rfl) (by kernel_rfl) h (news := [wi (r6 + (7 : Int))]) (m := 1) rfl ((h.pick 1).news rfl) c34 rfl ?_; clear h hr a; intro ca32 cc33 w a h hr
        refine ov hr (.slice ca32 ((l24 ++ [wi (r6 + (7 : Int))]).length) cc33) (by kernel_rfl) ?_; clear hr a; intro a hr
        refine wpList_nil ?_
        replace h : Fit z (sepL (ro2 ca32 cc33 (l24 ++ [wi (r6 + (7 : Int))]) :: pts b31 (.cells #[.int .i64 (wi (r6 + (7 : Int)))] 2) :: ob78 B0 S7 caq9 ccq10 caq11 ccq12 :: rn139 caq9 ccq10 S7.numberLists :: rn142 caq11 ccq12 S7.accessLists :: rowOf 2 1 encZ_i64 (.slice ca5 p1.length p1.length) l13 :: L)) _ := h
        refine blk_normal ?_
        refine then_normal ?_
        refine wp_region_lit ?_
        refine ovs [26, 27, 7] [.int .i64 g25, .int .i64 (wi (g25 + (1 : Int))), .int .i64 (wi (g25 + (1 : Int)))] hr ⟨rfl, rfl⟩ (by kernel_rfl) ?_; clear hr a; intro a hr
        refine wpList_nil ?_
        refine then_normal ?_
        replace hr := hr.fold2 [(0, .pointer (some ⟨B0, 0, none⟩)), (1, .slice ca5 p1.length p1.length), (4, .int .i64 r6), (6, .slice ca32 ((l24 ++ [wi (r6 + (7 : Int))]).length) cc33), (7, .int .i64 (wi (g25 + (1 : Int))))] (by kernel_rfl); obtain ⟨j, hr⟩ := hr
        replace h : Fit z (sepL (ob78 B0 S7 caq9 ccq10 caq11 ccq12 :: rn139 caq9 ccq10 S7.numberLists :: rn142 caq11 ccq12 S7.accessLists :: rowOf 2 1 encZ_i64 (.slice ca5 p1.length p1.length) l13 :: ro2 ca32 cc33 (l24 ++ [wi (r6 + (7 : Int))]) :: L)) _ := h.sel 6 [2, 3, 4, 5, 0] (by kernel_rfl) (by kernel_rfl)
        exact ⟨_, ⟨ca32, cc33, (l24 ++ [wi (r6 + (7 : Int))]), (wi (g25 + (1 : Int))), H, j, hr, h⟩, Nat.lt_succ_self _⟩
      ·
        replace H := ifF c30 H
        refine cond_ff hr (b := (decide (g25 < (64 : Int)))) (decide_eq_false c30) ?_
        refine wp_exit ?_
        refine then_exit ?_
        refine then_exit ?_
        refine blk_here ?_
        refine then_normal ?_
        replace hr := hr.fold2 [(0, .pointer (some ⟨B0, 0, none⟩)), (1, .slice ca5 p1.length p1.length), (4, .int .i64 r6)] (by kernel_rfl); obtain ⟨j, hr⟩ := hr
        replace h : Fit z (sepL (ob78 B0 S7 caq9 ccq10 caq11 ccq12 :: rn139 caq9 ccq10 S7.numberLists :: rn142 caq11 ccq12 S7.accessLists :: rowOf 2 1 encZ_i64 (.slice ca5 p1.length p1.length) l13 :: L)) _ := h.sel 5 [0, 1, 2, 3] (by kernel_rfl) (by kernel_rfl)
        exact ⟨(), sinj H, j, hr, h⟩
  clear h hr a; rintro _ a w ⟨rfl, j, hr, h⟩
  replace H := kk0 hK20
  refine wp_seq ?_
  refine wp_region_lit ?_
  refine ovs [33, 34, 35] [.slice ca5 p1.length p1.length, .int .i64 r6, .int .i64 (wi (r6 + (1 : Int)))] hr ⟨rfl, rfl⟩ (by kernel_rfl) ?_; clear hr a; intro a hr
  refine op_new (wn rfl) rfl rfl hr h (vf := fun b => .slice (some ⟨b, 0, none⟩) 1 1) (cs := #[.int .i64 (wi (r6 + (1 : Int)))]) (T := 2) (by kernel_rfl) ?_; clear h hr a; intro b35 w a h hr
  replace h : Fit z (sepL (rowOf 2 1 encZ_i64 (.slice ca5 p1.length p1.length) l13 :: pts b35 (.cells #[.int .i64 (wi (r6 + (1 : Int)))] 2) :: ob78 B0 S7 caq9 ccq10 caq11 ccq12 :: rn139 caq9 ccq10 S7.numberLists :: rn142 caq11 ccq12 S7.accessLists :: L)) _ := h.sel 5 [4, 0, 1, 2, 3] (by kernel_rfl) (by kernel_rfl)
  replace H := gd H; obtain ⟨c38, H⟩ := H
  refine op_append_fullrow (n0 := p1.length) (c := 1) (bytes := 8) (wn rfl) rfl rfl hr rfl (by kernel_rfl) rfl (by kernel_rfl) (by kernel_rfl) encZ_i64_ok (E := 2) (xs := l13) (by kernel_rfl) (by kernel_rfl) h (news := [wi (r6 + (1 : Int))]) (m := 1) rfl ((h.pick 1).news rfl) c38 rfl ?_; clear h hr a; intro ca36 cc37 w a h hr
  refine ov hr (.slice ca36 ((l13 ++ [wi (r6 + (1 : Int))]).length) cc37) (by kernel_rfl) ?_; clear hr a; intro a hr
  refine wpList_nil ?_
  replace h : Fit z (sepL (ro2 ca36 cc37 (l13 ++ [wi (r6 + (1 : Int))]) :: rowOf 2 1 encZ_i64 (.slice ca5 p1.length p1.length) l13 :: pts b35 (.cells #[.int .i64 (wi (r6 + (1 : Int)))] 2) :: ob78 B0 S7 caq9 ccq10 caq11 ccq12 :: rn139 caq9 ccq10 S7.numberLists :: rn142 caq11 ccq12 S7.accessLists :: L)) _ := h
  refine then_normal ?_
  refine wp_seq ?_
  refine wp_region_lit ?_
  refine ovs [38, 39, 40, 41, 42] [.slice ca5 p1.length p1.length, .int .i64 r6, .int .i64 (wi (r6 + (2 : Int))), .int .i64 r6, .int .i64 (wi (r6 + (3 : Int)))] hr ⟨rfl, rfl⟩ (by kernel_rfl) ?_; clear hr a; intro a hr
  refine op_new (wn rfl) rfl rfl hr h (vf := fun b => .slice (some ⟨b, 0, none⟩) 2 2) (cs := #[.int .i64 (wi (r6 + (2 : Int))), .int .i64 (wi (r6 + (3 : Int)))]) (T := 2) (by kernel_rfl) ?_; clear h hr a; intro b39 w a h hr
  replace h : Fit z (sepL (rowOf 2 1 encZ_i64 (.slice ca5 p1.length p1.length) l13 :: pts b39 (.cells #[.int .i64 (wi (r6 + (2 : Int))), .int .i64 (wi (r6 + (3 : Int)))] 2) :: ro2 ca36 cc37 (l13 ++ [wi (r6 + (1 : Int))]) :: pts b35 (.cells #[.int .i64 (wi (r6 + (1 : Int)))] 2) :: ob78 B0 S7 caq9 ccq10 caq11 ccq12 :: rn139 caq9 ccq10 S7.numberLists :: rn142 caq11 ccq12 S7.accessLists :: L)) _ := h.sel 7 [2, 0, 1, 3, 4, 5, 6] (by kernel_rfl) (by kernel_rfl)
  replace H := gd H; obtain ⟨c42, H⟩ := H
  refine op_append_fullrow (n0 := p1.length) (c := 2) (bytes := 8) (wn rfl) rfl rfl hr rfl (by kernel_rfl) rfl (by kernel_rfl) (by kernel_rfl) encZ_i64_ok (E := 2) (xs := l13) (by kernel_rfl) (by kernel_rfl) h (news := [wi (r6 + (2 : Int)), wi (r6 + (3 : Int))]) (m := 2) rfl ((h.pick 1).news rfl) c42 rfl ?_; clear h hr a; intro ca40 cc41 w a h hr
  refine ov hr (.slice ca40 ((l13 ++ [wi (r6 + (2 : Int)), wi (r6 + (3 : Int))]).length) cc41) (by kernel_rfl) ?_; clear hr a; intro a hr
  refine wpList_nil ?_
  replace h : Fit z (sepL (ro2 ca40 cc41 (l13 ++ [wi (r6 + (2 : Int)), wi (r6 + (3 : Int))]) :: rowOf 2 1 encZ_i64 (.slice ca5 p1.length p1.length) l13 :: pts b39 (.cells #[.int .i64 (wi (r6 + (2 : Int))), .int .i64 (wi (r6 + (3 : Int)))] 2) :: ro2 ca36 cc37 (l13 ++ [wi (r6 + (1 : Int))]) :: pts b35 (.cells #[.int .i64 (wi (r6 + (1 : Int)))] 2) :: ob78 B0 S7 caq9 ccq10 caq11 ccq12 :: rn139 caq9 ccq10 S7.numberLists :: rn142 caq11 ccq12 S7.accessLists :: L)) _ := h
  refine then_normal ?_
  refine wp_seq ?_
  refine wp_region_lit ?_
  refine ovs [45, 46, 47, 48, 49, 50, 51] [.slice ca5 p1.length p1.length, .int .i64 r6, .int .i64 (wi (r6 + (4 : Int))), .int .i64 r6, .int .i64 (wi (r6 + (5 : Int))), .int .i64 r6, .int .i64 (wi (r6 + (6 : Int)))] hr ⟨rfl, rfl⟩ (by kernel_rfl) ?_; clear hr a; intro a hr
  refine op_new (wn rfl) rfl rfl hr h (vf := fun b => .slice (some ⟨b, 0, none⟩) 3 3) (cs := #[.int .i64 (wi (r6 + (4 : Int))), .int .i64 (wi (r6 + (5 : Int))), .int .i64 (wi (r6 + (6 : Int)))]) (T := 2) (by kernel_rfl) ?_; clear h hr a; intro b43 w a h hr
  replace h : Fit z (sepL (rowOf 2 1 encZ_i64 (.slice ca5 p1.length p1.length) l13 :: pts b43 (.cells #[.int .i64 (wi (r6 + (4 : Int))), .int .i64 (wi (r6 + (5 : Int))), .int .i64 (wi (r6 + (6 : Int)))] 2) :: ro2 ca40 cc41 (l13 ++ [wi (r6 + (2 : Int)), wi (r6 + (3 : Int))]) :: pts b39 (.cells #[.int .i64 (wi (r6 + (2 : Int))), .int .i64 (wi (r6 + (3 : Int)))] 2) :: ro2 ca36 cc37 (l13 ++ [wi (r6 + (1 : Int))]) :: pts b35 (.cells #[.int .i64 (wi (r6 + (1 : Int)))] 2) :: ob78 B0 S7 caq9 ccq10 caq11 ccq12 :: rn139 caq9 ccq10 S7.numberLists :: rn142 caq11 ccq12 S7.accessLists :: L)) _ := h.sel 9 [2, 0, 1, 3, 4, 5, 6, 7, 8] (by kernel_rfl) (by kernel_rfl)
  replace H := gd H; obtain ⟨c46, H⟩ := H
  refine op_append_fullrow (n0 := p1.length) (c := 3) (bytes := 8) (wn rfl) rfl rfl hr rfl (by kernel_rfl) rfl (by kernel_rfl) (by kernel_rfl) encZ_i64_ok (E := 2) (xs := l13) (by kernel_rfl) (by kernel_rfl) h (news := [wi (r6 + (4 : Int)), wi (r6 + (5 : Int)), wi (r6 + (6 : Int))]) (m := 3) rfl ((h.pick 1).news rfl) c46 rfl ?_; clear h hr a; intro ca44 cc45 w a h hr
  refine ov hr (.slice ca44 ((l13 ++ [wi (r6 + (4 : Int)), wi (r6 + (5 : Int)), wi (r6 + (6 : Int))]).length) cc45) (by kernel_rfl) ?_; clear hr a; intro a hr
  refine wpList_nil ?_
  replace h : Fit z (sepL (ro2 ca44 cc45 (l13 ++ [wi (r6 + (4 : Int)), wi (r6 + (5 : Int)), wi (r6 + (6 : Int))]) :: rowOf 2 1 encZ_i64 (.slice ca5 p1.length p1.length) l13 :: pts b43 (.cells #[.int .i64 (wi (r6 + (4 : Int))), .int .i64 (wi (r6 + (5 : Int))), .int .i64 (wi (r6 + (6 : Int)))] 2) :: ro2 ca40 cc41 (l13 ++ [wi (r6 + (2 : Int)), wi (r6 + (3 : Int))]) :: pts b39 (.cells #[.int .i64 (wi (r6 + (2 : Int))), .int .i64 (wi (r6 + (3 : Int)))] 2) :: ro2 ca36 cc37 (l13 ++ [wi (r6 + (1 : Int))]) :: pts b35 (.cells #[.int .i64 (wi (r6 + (1 : Int)))] 2) :: ob78 B0 S7 caq9 ccq10 caq11 ccq12 :: rn139 caq9 ccq10 S7.numberLists :: rn142 caq11 ccq12 S7.accessLists :: L)) _ := h
  refine then_normal ?_
  refine wp_region_lit ?_
  refine ovs [54, 55, 56, 57] [.pointer (some ⟨B0, 0, none⟩), .pointer (some ⟨B0, 0, none⟩), .pointer (some ⟨B0, 0, none⟩), .pointer (some ⟨B0, 0, none⟩)] hr ⟨rfl, rfl⟩ (by kernel_rfl) ?_; clear hr a; intro a hr
  refine op_val (wn rfl) rfl rfl hr (v := .slice caq9 S7.numberLists.length ccq10) (rl rfl (by kernel_rfl) (by kernel_rfl) ((h.pick 7).cell 0 rfl)) ?_; clear hr a; intro a hr
  refine ovs [59, 60, 61, 62, 63, 64] [.int .i64 r6, .slice ca5 p1.length p1.length, .slice ca36 ((l13 ++ [wi (r6 + (1 : Int))]).length) cc37, .slice ca40 ((l13 ++ [wi (r6 + (2 : Int)), wi (r6 + (3 : Int))]).length) cc41, .slice ca44 ((l13 ++ [wi (r6 + (4 : Int)), wi (r6 + (5 : Int)), wi (r6 + (6 : Int))]).length) cc45, .agg #[.int .i64 r6, .slice ca5 p1.length p1.length, .slice ca36 ((l13 ++ [wi (r6 + (1 : Int))]).length) cc37, .slice ca40 ((l13 ++ [wi (r6 + (2 : Int)), wi (r6 + (3 : Int))]).length) cc41, .slice ca44 ((l13 ++ [wi (r6 + (4 : Int)), wi (r6 + (5 : Int)), wi (r6 + (6 : Int))]).length) cc45]] hr ⟨rfl, rfl⟩ (by kernel_rfl) ?_; clear hr a; intro a hr
  refine op_new (wn rfl) rfl rfl hr h (vf := fun b => .slice (some ⟨b, 0, none⟩) 1 1) (cs := #[.int .i64 r6, .slice ca5 p1.length p1.length, .slice ca36 ((l13 ++ [wi (r6 + (1 : Int))]).length) cc37, .slice ca40 ((l13 ++ [wi (r6 + (2 : Int)), wi (r6 + (3 : Int))]).length) cc41, .slice ca44 ((l13 ++ [wi (r6 + (4 : Int)), wi (r6 + (5 : Int)), wi (r6 + (6 : Int))]).length) cc45]) (T := 139) (by kernel_rfl) ?_; clear h hr a; intro b47 w a h hr
  have hn47 := (h.pick 2).row_n
  replace h : Fit z (sepL (pts b47 (.cells #[.int .i64 r6, .slice ca5 l13.length p1.length, .slice ca36 ((l13 ++ [wi (r6 + (1 : Int))]).length) cc37, .slice ca40 ((l13 ++ [wi (r6 + (2 : Int)), wi (r6 + (3 : Int))]).length) cc41, .slice ca44 ((l13 ++ [wi (r6 + (4 : Int)), wi (r6 + (5 : Int)), wi (r6 + (6 : Int))]).length) cc45] 139) :: ro2 ca44 cc45 (l13 ++ [wi (r6 + (4 : Int)), wi (r6 + (5 : Int)), wi (r6 + (6 : Int))]) :: ro2 ca5 p1.length l13 :: pts b43 (.cells #[.int .i64 (wi (r6 + (4 : Int))), .int .i64 (wi (r6 + (5 : Int))), .int .i64 (wi (r6 + (6 : Int)))] 2) :: ro2 ca40 cc41 (l13 ++ [wi (r6 + (2 : Int)), wi (r6 + (3 : Int))]) :: pts b39 (.cells #[.int .i64 (wi (r6 + (2 : Int))), .int .i64 (wi (r6 + (3 : Int)))] 2) :: ro2 ca36 cc37 (l13 ++ [wi (r6 + (1 : Int))]) :: pts b35 (.cells #[.int .i64 (wi (r6 + (1 : Int)))] 2) :: ob78 B0 S7 caq9 ccq10 caq11 ccq12 :: rn139 caq9 ccq10 S7.numberLists :: rn142 caq11 ccq12 S7.accessLists :: L)) w := (congrArg (fun q_ : Nat => Fit z (sepL (pts b47 (.cells #[.int .i64 r6, .slice ca5 q_ p1.length, .slice ca36 ((l13 ++ [wi (r6 + (1 : Int))]).length) cc37, .slice ca40 ((l13 ++ [wi (r6 + (2 : Int)), wi (r6 + (3 : Int))]).length) cc41, .slice ca44 ((l13 ++ [wi (r6 + (4 : Int)), wi (r6 + (5 : Int)), wi (r6 + (6 : Int))]).length) cc45] 139) :: ro2 ca44 cc45 (l13 ++ [wi (r6 + (4 : Int)), wi (r6 + (5 : Int)), wi (r6 + (6 : Int))]) :: rowOf 2 1 encZ_i64 (.slice ca5 q_ p1.length) l13 :: pts b43 (.cells #[.int .i64 (wi (r6 + (4 : Int))), .int .i64 (wi (r6 + (5 : Int))), .int .i64 (wi (r6 + (6 : Int)))] 2) :: ro2 ca40 cc41 (l13 ++ [wi (r6 + (2 : Int)), wi (r6 + (3 : Int))]) :: pts b39 (.cells #[.int .i64 (wi (r6 + (2 : Int))), .int .i64 (wi (r6 + (3 : Int)))] 2) :: ro2 ca36 cc37 (l13 ++ [wi (r6 + (1 : Int))]) :: pts b35 (.cells #[.int .i64 (wi (r6 + (1 : Int)))] 2) :: ob78 B0 S7 caq9 ccq10 caq11 ccq12 :: rn139 caq9 ccq10 S7.numberLists :: rn142 caq11 ccq12 S7.accessLists :: L)) w) (h.pick 2).row_n).mp h
  replace h : Fit z (sepL (ro2 ca5 p1.length l13 :: ro2 ca36 cc37 (l13 ++ [wi (r6 + (1 : Int))]) :: ro2 ca40 cc41 (l13 ++ [wi (r6 + (2 : Int)), wi (r6 + (3 : Int))]) :: ro2 ca44 cc45 (l13 ++ [wi (r6 + (4 : Int)), wi (r6 + (5 : Int)), wi (r6 + (6 : Int))]) :: pts b47 (.cells #[.int .i64 r6, .slice ca5 l13.length p1.length, .slice ca36 ((l13 ++ [wi (r6 + (1 : Int))]).length) cc37, .slice ca40 ((l13 ++ [wi (r6 + (2 : Int)), wi (r6 + (3 : Int))]).length) cc41, .slice ca44 ((l13 ++ [wi (r6 + (4 : Int)), wi (r6 + (5 : Int)), wi (r6 + (6 : Int))]).length) cc45] 139) :: pts b43 (.cells #[.int .i64 (wi (r6 + (4 : Int))), .int .i64 (wi (r6 + (5 : Int))), .int .i64 (wi (r6 + (6 : Int)))] 2) :: pts b39 (.cells #[.int .i64 (wi (r6 + (2 : Int))), .int .i64 (wi (r6 + (3 : Int)))] 2) :: pts b35 (.cells #[.int .i64 (wi (r6 + (1 : Int)))] 2) :: ob78 B0 S7 caq9 ccq10 caq11 ccq12 :: rn139 caq9 ccq10 S7.numberLists :: rn142 caq11 ccq12 S7.accessLists :: L)) _ := h.sel 11 [2, 6, 4, 1, 0, 3, 5, 7, 8, 9, 10] (by kernel_rfl) (by kernel_rfl)
  replace h := own_T_plunderlaw2_kept_sh (x := (⟨r6, l13, l13 ++ [wi (r6 + (1 : Int))], l13 ++ [wi (r6 + (2 : Int)), wi (r6 + (3 : Int))], l13 ++ [wi (r6 + (4 : Int)), wi (r6 + (5 : Int)), wi (r6 + (6 : Int))]⟩ : T_plunderlaw2_kept)) h
  replace H := gd H; obtain ⟨c49, H⟩ := H
  replace h : Fit z (sepL (rn139 caq9 ccq10 S7.numberLists :: own_T_plunderlaw2_kept (⟨r6, l13, l13 ++ [wi (r6 + (1 : Int))], l13 ++ [wi (r6 + (2 : Int)), wi (r6 + (3 : Int))], l13 ++ [wi (r6 + (4 : Int)), wi (r6 + (5 : Int)), wi (r6 + (6 : Int))]⟩ : T_plunderlaw2_kept) [.int .i64 r6, .slice ca5 l13.length p1.length, .slice ca36 ((l13 ++ [wi (r6 + (1 : Int))]).length) cc37, .slice ca40 ((l13 ++ [wi (r6 + (2 : Int)), wi (r6 + (3 : Int))]).length) cc41, .slice ca44 ((l13 ++ [wi (r6 + (4 : Int)), wi (r6 + (5 : Int)), wi (r6 + (6 : Int))]).length) cc45] :: pts b47 (.cells #[.int .i64 r6, .slice ca5 l13.length p1.length, .slice ca36 ((l13 ++ [wi (r6 + (1 : Int))]).length) cc37, .slice ca40 ((l13 ++ [wi (r6 + (2 : Int)), wi (r6 + (3 : Int))]).length) cc41, .slice ca44 ((l13 ++ [wi (r6 + (4 : Int)), wi (r6 + (5 : Int)), wi (r6 + (6 : Int))]).length) cc45] 139) :: pts b43 (.cells #[.int .i64 (wi (r6 + (4 : Int))), .int .i64 (wi (r6 + (5 : Int))), .int .i64 (wi (r6 + (6 : Int)))] 2) :: pts b39 (.cells #[.int .i64 (wi (r6 + (2 : Int))), .int .i64 (wi (r6 + (3 : Int)))] 2) :: pts b35 (.cells #[.int .i64 (wi (r6 + (1 : Int)))] 2) :: ob78 B0 S7 caq9 ccq10 caq11 ccq12 :: rn142 caq11 ccq12 S7.accessLists :: L)) _ := h.sel 8 [6, 0, 1, 2, 3, 4, 5, 7] (by kernel_rfl) (by kernel_rfl)
  refine op_append_N (n0 := S7.numberLists.length) (c := 1) (bytes := 104) (sz := 5) (wn rfl) rfl rfl hr rfl (by kernel_rfl) (by kernel_rfl) (E := 139) (xs := S7.numberLists) (by kernel_rfl) (by kernel_rfl) rfl rfl rfl h ((h.pick 2).news rfl) c49 rfl ?_; clear h hr a; intro ca50 cc51 w a h hr
  refine ovs [67, 68] [.pointer (some ⟨B0, 0, none⟩), .pointer (some ⟨B0, 0, none⟩)] hr ⟨rfl, rfl⟩ (by kernel_rfl) ?_; clear hr a; intro a hr
  replace h : Fit z (sepL (ob78 B0 S7 caq9 ccq10 caq11 ccq12 :: rn139 ca50 cc51 (S7.numberLists ++ [(⟨r6, l13, l13 ++ [wi (r6 + (1 : Int))], l13 ++ [wi (r6 + (2 : Int)), wi (r6 + (3 : Int))], l13 ++ [wi (r6 + (4 : Int)), wi (r6 + (5 : Int)), wi (r6 + (6 : Int))]⟩ : T_plunderlaw2_kept)]) :: pts b47 (.cells #[.int .i64 r6, .slice ca5 l13.length p1.length, .slice ca36 ((l13 ++ [wi (r6 + (1 : Int))]).length) cc37, .slice ca40 ((l13 ++ [wi (r6 + (2 : Int)), wi (r6 + (3 : Int))]).length) cc41, .slice ca44 ((l13 ++ [wi (r6 + (4 : Int)), wi (r6 + (5 : Int)), wi (r6 + (6 : Int))]).length) cc45] 139) :: pts b43 (.cells #[.int .i64 (wi (r6 + (4 : Int))), .int .i64 (wi (r6 + (5 : Int))), .int .i64 (wi (r6 + (6 : Int)))] 2) :: pts b39 (.cells #[.int .i64 (wi (r6 + (2 : Int))), .int .i64 (wi (r6 + (3 : Int)))] 2) :: pts b35 (.cells #[.int .i64 (wi (r6 + (1 : Int)))] 2) :: rn142 caq11 ccq12 S7.accessLists :: L)) _ := h.sel 7 [5, 0, 1, 2, 3, 4, 6] (by kernel_rfl) (by kernel_rfl)
  refine op_store (wn rfl) rfl hr rfl (by kernel_rfl) (by kernel_rfl) (v := .slice ca50 ((S7.numberLists ++ [(⟨r6, l13, l13 ++ [wi (r6 + (1 : Int))], l13 ++ [wi (r6 + (2 : Int)), wi (r6 + (3 : Int))], l13 ++ [wi (r6 + (4 : Int)), wi (r6 + (5 : Int)), wi (r6 + (6 : Int))]⟩ : T_plunderlaw2_kept)]).length) cc51) rfl rfl (by kernel_rfl) h (i := 0) rfl ?_; clear h; intro w h
  refine wpList_nil ?_
  replace h : Fit z (sepL (pts B0 (.cells #[.slice ca50 ((S7.numberLists ++ [(⟨r6, l13, l13 ++ [wi (r6 + (1 : Int))], l13 ++ [wi (r6 + (2 : Int)), wi (r6 + (3 : Int))], l13 ++ [wi (r6 + (4 : Int)), wi (r6 + (5 : Int)), wi (r6 + (6 : Int))]⟩ : T_plunderlaw2_kept)]).length) cc51, .slice caq11 S7.accessLists.length ccq12, .int .i64 S7.next] 78) :: rn139 ca50 cc51 (S7.numberLists ++ [(⟨r6, l13, l13 ++ [wi (r6 + (1 : Int))], l13 ++ [wi (r6 + (2 : Int)), wi (r6 + (3 : Int))], l13 ++ [wi (r6 + (4 : Int)), wi (r6 + (5 : Int)), wi (r6 + (6 : Int))]⟩ : T_plunderlaw2_kept)]) :: pts b47 (.cells #[.int .i64 r6, .slice ca5 l13.length p1.length, .slice ca36 ((l13 ++ [wi (r6 + (1 : Int))]).length) cc37, .slice ca40 ((l13 ++ [wi (r6 + (2 : Int)), wi (r6 + (3 : Int))]).length) cc41, .slice ca44 ((l13 ++ [wi (r6 + (4 : Int)), wi (r6 + (5 : Int)), wi (r6 + (6 : Int))]).length) cc45] 139) :: pts b43 (.cells #[.int .i64 (wi (r6 + (4 : Int))), .int .i64 (wi (r6 + (5 : Int))), .int .i64 (wi (r6 + (6 : Int)))] 2) :: pts b39 (.cells #[.int .i64 (wi (r6 + (2 : Int))), .int .i64 (wi (r6 + (3 : Int)))] 2) :: pts b35 (.cells #[.int .i64 (wi (r6 + (1 : Int)))] 2) :: rn142 caq11 ccq12 S7.accessLists :: L)) _ := h
  refine end_norm0 rfl hr ?_
  replace h : Fit z (sepL (pts B0 (.cells #[.slice ca50 ((S7.numberLists ++ [(⟨r6, l13, l13 ++ [wi (r6 + (1 : Int))], l13 ++ [wi (r6 + (2 : Int)), wi (r6 + (3 : Int))], l13 ++ [wi (r6 + (4 : Int)), wi (r6 + (5 : Int)), wi (r6 + (6 : Int))]⟩ : T_plunderlaw2_kept)]).length) cc51, .slice caq11 S7.accessLists.length ccq12, .int .i64 S7.next] 78) :: rn139 ca50 cc51 (S7.numberLists ++ [(⟨r6, l13, l13 ++ [wi (r6 + (1 : Int))], l13 ++ [wi (r6 + (2 : Int)), wi (r6 + (3 : Int))], l13 ++ [wi (r6 + (4 : Int)), wi (r6 + (5 : Int)), wi (r6 + (6 : Int))]⟩ : T_plunderlaw2_kept)]) :: rn142 caq11 ccq12 S7.accessLists :: L)) _ := h.sel 7 [0, 1, 6] (by kernel_rfl) (by kernel_rfl)
  replace H := ej1 H; subst H
  exact ⟨ca50, cc51, caq11, ccq12, rfl, h⟩

/-- plunder/plunderlaw2.entry -/
def plunderlaw2_entry (p0 : Int) : Option (T_api_Access) :=
  some (⟨-3, 9, -4, p0, wi (0 - p0), true⟩ : T_api_Access)
set_option maxRecDepth 100000 in
set_option maxHeartbeats 4000000 in
theorem plunderlaw2_entry_ok {z w : World} {L : List HProp} {p0 : Int} {r0 : T_api_Access} (H : plunderlaw2_entry p0 = some r0) (h : Fit z (sepL (L)) w)  :
    Calls Try.prog 91 #[.int .i64 p0] w fun e w => e = .returned (.agg #[.int .i64 r0.Who, .int .i64 r0.Kind, .int .i64 r0.Addr, .int .i64 r0.A, .int .i64 r0.B, .bool r0.OK]) ∧ Fit z (sepL (L)) w := by
  unfold plunderlaw2_entry at H
  refine enter Try.func91 rfl 7 rfl rfl [(0, .int .i64 p0)] ⟨rfl, trivial⟩ ?_
  intro j a hr
  refine wp_seq ?_
  refine wp_region_lit ?_
  refine op_new (wn rfl) rfl rfl hr h (vf := fun b => .pointer (some ⟨b, 0, none⟩)) (cs := #[.int .i64 0, .int .i64 0, .int .i64 0, .int .i64 0, .int .i64 0, .bool false]) (T := 90) (by kernel_rfl) ?_; clear h hr a; intro b1 w a h hr
  refine wpList_nil ?_
  refine then_normal ?_
  refine wp_seq ?_
  refine wp_region_lit ?_
  refine ovs [3, 4, 5, 6] [.int .i64 p0, .int .i64 p0, .int .i64 (wi (0 - p0)), .agg #[.int .i64 (-3), .int .i64 9, .int .i64 (-4), .int .i64 p0, .int .i64 (wi (0 - p0)), .bool true]] hr ⟨rfl, rfl⟩ (by kernel_rfl) ?_; clear hr a; intro a hr
  refine op_stores (wn rfl) rfl hr rfl (by kernel_rfl) (by kernel_rfl) (vs := [.int .i64 (-3), .int .i64 9, .int .i64 (-4), .int .i64 p0, .int .i64 (wi (0 - p0)), .bool true]) rfl rfl (by kernel_rfl) h (i := 0) (cs' := #[.int .i64 (-3), .int .i64 9, .int .i64 (-4), .int .i64 p0, .int .i64 (wi (0 - p0)), .bool true]) rfl ?_; clear h; intro w h
  refine wpList_nil ?_
  replace h : Fit z (sepL (pts b1 (.cells #[.int .i64 (-3), .int .i64 9, .int .i64 (-4), .int .i64 p0, .int .i64 (wi (0 - p0)), .bool true] 90) :: L)) _ := h
  refine then_normal ?_
  refine wp_ret ?_
  refine end_retC (cs := [.int .i64 (-3), .int .i64 9, .int .i64 (-4), .int .i64 p0, .int .i64 (wi (0 - p0)), .bool true]) rfl hr (by kernel_rfl) (by kernel_rfl) (by kernel_rfl) ⟨h.cell 0 rfl, h.cell 1 rfl, h.cell 2 rfl, h.cell 3 rfl, h.cell 4 rfl, h.cell 5 rfl, trivial⟩ ?_
  replace h : Fit z (sepL (L)) _ := h.sel 1 [] (by kernel_rfl) (by kernel_rfl)
  replace H := ej1 H; subst H
  exact ⟨rfl, h⟩

def plunderlaw2_book_accesses_l1 (K : Nat) (p1 : List T_api_Access) (r6 : Int) : Nat → (List T_api_Access) → Int → Option ((List T_api_Access))
  | 0, _, _ => none
  | k1 + 1, l16, g17 => (if g17 < ((p1.length : Nat) : Int) then ob1 (plunderlaw2_entry r6) (fun r19 => if inr_ g17 l16.length then (plunderlaw2_book_accesses_l1 K p1 r6 k1 (l16.set g17.toNat r19) (wi (g17 + (1 : Int)))) else none) else some l16)
def plunderlaw2_book_accesses_l2 (K : Nat) (r6 : Int) : Nat → (List T_api_Access) → Int → Option (Unit)
  | 0, _, _ => none
  | k2 + 1, l26, g27 => (if g27 < (64 : Int) then ob1 (plunderlaw2_entry (wi (r6 + (7 : Int)))) (fun r35 => if (l26.length + 1) * 48 ≤ 140737488355328 then (plunderlaw2_book_accesses_l2 K r6 k2 (l26 ++ [r35]) (wi (g27 + (1 : Int)))) else none) else some ())
/-- (*plunder/plunderlaw2.book).accesses -/
def plunderlaw2_book_accesses (K : Nat) (p0 : T_plunderlaw2_book) (p1 : List T_api_Access) : Option (T_plunderlaw2_book) :=
  ob2 (plunderlaw2_book_mark p0) (fun r6 S7 => ob1 ((plunderlaw2_book_accesses_l1 K p1 r6 K p1 0)) (fun l13 => ob0 (ob1 (plunderlaw2_entry (wi (r6 + (7 : Int)))) (fun r28 => if (l13.length + 1) * 48 ≤ 140737488355328 then (plunderlaw2_book_accesses_l2 K r6 K (l13 ++ [r28]) 1) else none)) (ob1 (plunderlaw2_entry (wi (r6 + (1 : Int)))) (fun r41 => if (l13.length + 1) * 48 ≤ 140737488355328 then ob1 (plunderlaw2_entry (wi (r6 + (2 : Int)))) (fun r47 => ob1 (plunderlaw2_entry (wi (r6 + (3 : Int)))) (fun r49 => if (l13.length + 2) * 48 ≤ 140737488355328 then ob1 (plunderlaw2_entry (wi (r6 + (4 : Int)))) (fun r55 => ob1 (plunderlaw2_entry (wi (r6 + (5 : Int)))) (fun r57 => ob1 (plunderlaw2_entry (wi (r6 + (6 : Int)))) (fun r59 => if (l13.length + 3) * 48 ≤ 140737488355328 then if (S7.accessLists.length + 1) * 104 ≤ 140737488355328 then some ({ S7 with accessLists := S7.accessLists ++ [(⟨r6, l13, l13 ++ [r41], l13 ++ [r47, r49], l13 ++ [r55, r57, r59]⟩ : T_plunderlaw2_noted)] }) else none else none))) else none)) else none))))
set_option maxRecDepth 100000 in
set_option maxHeartbeats 4000000 in
theorem plunderlaw2_book_accesses_ok {z w : World} {L : List HProp} {K : Nat} {p0 : T_plunderlaw2_book} {p1 : List T_api_Access} {B0 : Nat} {ca1 : Option Addr} {cc2 : Nat} {ca3 : Option Addr} {cc4 : Nat} {ca5 : Option Addr} {q0 : T_plunderlaw2_book} (H : plunderlaw2_book_accesses K p0 p1 = some q0) (h : Fit z (sepL (ob78 B0 p0 ca1 cc2 ca3 cc4 :: rn139 ca1 cc2 p0.numberLists :: rn142 ca3 cc4 p0.accessLists :: ro90 ca5 p1.length p1 :: L)) w)  :
    Calls Try.prog 43 #[.pointer (some ⟨B0, 0, none⟩), .slice ca5 p1.length p1.length] w fun e w => ∃ caq0_1 : Option Addr, ∃ ccq0_2 : Nat, ∃ caq0_3 : Option Addr, ∃ ccq0_4 : Nat, e = .returned (.tuple #[]) ∧ Fit z (sepL (ob78 B0 q0 caq0_1 ccq0_2 caq0_3 ccq0_4 :: rn139 caq0_1 ccq0_2 q0.numberLists :: rn142 caq0_3 ccq0_4 q0.accessLists :: L)) w := by
  unfold plunderlaw2_book_accesses at H
  refine enter Try.func43 rfl 77 rfl rfl [(0, .pointer (some ⟨B0, 0, none⟩)), (1, .slice ca5 p1.length p1.length)] ⟨rfl, rfl, trivial⟩ ?_
  intro j a hr
  refine wp_seq ?_
  refine wp_region_lit ?_
  replace H := bd2 H; obtain ⟨r6, S7, e8, H⟩ := H
  refine ov hr (.pointer (some ⟨B0, 0, none⟩)) (by kernel_rfl) ?_; clear hr a; intro a hr
  have hc := plunderlaw2_book_mark_ok (H := e8) (h := h)
  refine op_call (wn rfl) rfl rfl hr (f := 90) (args := #[.pointer (some ⟨B0, 0, none⟩)]) (by kernel_rfl) hc ?_; clear hc h
  rintro _ w ⟨caq9, ccq10, caq11, ccq12, rfl, h⟩; refine ⟨_, rfl, ?_⟩
  clear hr a; intro a hr
  refine ov hr (.int .i64 r6) (by kernel_rfl) ?_; clear hr a; intro a hr
  refine wpList_nil ?_
  refine then_normal ?_
  replace H := kd1 H; obtain ⟨o15, H, hK14⟩ := H
  refine cut_rule (β := Unit) (fun _ a w => ∃ l13 : List T_api_Access, l13 = o15 ∧ ∃ j, Rep 77 (lk [(0, .pointer (some ⟨B0, 0, none⟩)), (1, .slice ca5 p1.length p1.length), (4, .int .i64 r6)] j) a ∧ Fit z (sepL (ob78 B0 S7 caq9 ccq10 caq11 ccq12 :: rn139 caq9 ccq10 S7.numberLists :: rn142 caq11 ccq12 S7.accessLists :: rowOf 90 6 enc_T_api_Access (.slice ca5 p1.length p1.length) l13 :: L)) w) ?_ ?_
  ·
    refine wp_seq ?_
    refine wp_region_lit ?_
    refine ov hr (.int .i64 0) (by kernel_rfl) ?_; clear hr a; intro a hr
    refine wpList_nil ?_
    refine then_normal ?_
    refine wp_block ?_
    replace hr := hr.fold2 [(0, .pointer (some ⟨B0, 0, none⟩)), (1, .slice ca5 p1.length p1.length), (4, .int .i64 r6), (5, .int .i64 0)] (by kernel_rfl); obtain ⟨j, hr⟩ := hr
    refine loop_rule (β := Nat) id (fun m a w => ∃ l16 : List T_api_Access, ∃ g17 : Int, (plunderlaw2_book_accesses_l1 K p1 r6 m l16 g17) = some o15 ∧ ∃ j, Rep 77 (lk [(0, .pointer (some ⟨B0, 0, none⟩)), (1, .slice ca5 p1.length p1.length), (4, .int .i64 r6), (5, .int .i64 g17)] j) a ∧ Fit z (sepL (ob78 B0 S7 caq9 ccq10 caq11 ccq12 :: rn139 caq9 ccq10 S7.numberLists :: rn142 caq11 ccq12 S7.accessLists :: rowOf 90 6 enc_T_api_Access (.slice ca5 p1.length p1.length) l16 :: L)) w) K ⟨p1, 0, H, j, hr, h⟩ ?_
    clear h hr a H; rintro k1 a w ⟨l16, g17, H, j, hr, h⟩
    cases k1 with
    | zero => exact absurd H (by simp [plunderlaw2_book_accesses_l1])
    | succ k1 =>
      rw [plunderlaw2_book_accesses_l1] at H
      refine wp_seq ?_
      refine wp_seq ?_
      refine wp_region_lit ?_
      refine ovs [13, 14, 15, 16] [.int .i64 g17, .slice ca5 p1.length p1.length, .int .i64 ((p1.length : Nat) : Int), .bool (decide (g17 < ((p1.length : Nat) : Int)))] hr ⟨rfl, rfl⟩ (by kernel_rfl) ?_; clear hr a; intro a hr
      refine wpList_nil ?_
      refine then_normal ?_
      by_cases c18 : g17 < ((p1.length : Nat) : Int)
      ·
        replace H := ifT c18 H
        refine cond_tt hr (b := (decide (g17 < ((p1.length : Nat) : Int)))) (decide_eq_true c18) ?_
        refine wp_skip ?_
        refine then_normal ?_
        refine wp_seq ?_
        refine wp_block ?_
        refine wp_region_lit ?_
        replace H := bd1 H; obtain ⟨r19, e20, H⟩ := H
        refine ovs [19, 20, 21] [.slice ca5 p1.length p1.length, .int .i64 g17, .int .i64 r6] hr ⟨rfl, rfl⟩ (by kernel_rfl) ?_; clear hr a; intro a hr
        have hc := plunderlaw2_entry_ok (H := e20) (h := h)
        refine op_call (wn rfl) rfl rfl hr (f := 91) (args := #[.int .i64 r6]) (by kernel_rfl) hc ?_; clear hc h
        rintro _ w ⟨rfl, h⟩; refine ⟨_, rfl, ?_⟩
        clear hr a; intro a hr
        replace H := gd H; obtain ⟨c21, H⟩ := H
        refine op_val (wn rfl) rfl rfl hr (v := .pointer (some ⟨blk ca5, g17.toNat * 6, none⟩)) (ri_row (k := .i64) (E := 90) rfl (by kernel_rfl) (by kernel_rfl) (by kernel_rfl) (by kernel_rfl) (h.pick 3) c21) ?_; clear hr a; intro a hr
        replace h : Fit z (sepL (rowOf 90 6 enc_T_api_Access (.slice ca5 p1.length p1.length) l16 :: ob78 B0 S7 caq9 ccq10 caq11 ccq12 :: rn139 caq9 ccq10 S7.numberLists :: rn142 caq11 ccq12 S7.accessLists :: L)) _ := h.sel 4 [3, 0, 1, 2] (by kernel_rfl) (by kernel_rfl)
        refine op_stores_row (wn rfl) rfl hr rfl (by kernel_rfl) (by kernel_rfl) (vs := [.int .i64 r19.Who, .int .i64 r19.Kind, .int .i64 r19.Addr, .int .i64 r19.A, .int .i64 r19.B, .bool r19.OK]) rfl (by kernel_rfl) enc_T_api_Access_ok h (i := g17.toNat) (q := r19) (at_okL c21) rfl ?_; clear h; intro w h
        replace h : Fit z (sepL (rowOf 90 6 enc_T_api_Access (.slice ca5 p1.length p1.length) (l16.set g17.toNat r19) :: ob78 B0 S7 caq9 ccq10 caq11 ccq12 :: rn139 caq9 ccq10 S7.numberLists :: rn142 caq11 ccq12 S7.accessLists :: L)) _ := h
        refine wpList_nil ?_
        refine blk_normal ?_
        refine then_normal ?_
        refine wp_region_lit ?_
        refine ovs [17, 18, 5] [.int .i64 g17, .int .i64 (wi (g17 + (1 : Int))), .int .i64 (wi (g17 + (1 : Int)))] hr ⟨rfl, rfl⟩ (by kernel_rfl) ?_; clear hr a; intro a hr
        refine wpList_nil ?_
        refine then_normal ?_
        replace hr := hr.fold2 [(0, .pointer (some ⟨B0, 0, none⟩)), (1, .slice ca5 p1.length p1.length), (4, .int .i64 r6), (5, .int .i64 (wi (g17 + (1 : Int))))] (by kernel_rfl); obtain ⟨j, hr⟩ := hr
        replace h : Fit z (sepL (ob78 B0 S7 caq9 ccq10 caq11 ccq12 :: rn139 caq9 ccq10 S7.numberLists :: rn142 caq11 ccq12 S7.accessLists :: rowOf 90 6 enc_T_api_Access (.slice ca5 p1.length p1.length) (l16.set g17.toNat r19) :: L)) _ := h.sel 4 [1, 2, 3, 0] (by kernel_rfl) (by kernel_rfl)
        exact ⟨_, ⟨(l16.set g17.toNat r19), (wi (g17 + (1 : Int))), H, j, hr, h⟩, Nat.lt_succ_self _⟩
      ·
        replace H := ifF c18 H
        refine cond_ff hr (b := (decide (g17 < ((p1.length : Nat) : Int)))) (decide_eq_false c18) ?_
        refine wp_exit ?_
        refine then_exit ?_
        refine then_exit ?_
        refine blk_here ?_
        refine then_normal ?_
        replace hr := hr.fold2 [(0, .pointer (some ⟨B0, 0, none⟩)), (1, .slice ca5 p1.length p1.length), (4, .int .i64 r6)] (by kernel_rfl); obtain ⟨j, hr⟩ := hr
        exact ⟨(), l16, sinj H, j, hr, h⟩
  clear h hr a; rintro _ a w ⟨l13, rfl, j, hr, h⟩
  replace H := kk1 hK14
  refine wp_seq ?_
  refine wp_region_lit ?_
  refine ovs [24, 6] [.slice ca5 p1.length p1.length, .slice ca5 p1.length p1.length] hr ⟨rfl, rfl⟩ (by kernel_rfl) ?_; clear hr a; intro a hr
  refine wpList_nil ?_
  refine then_normal ?_
  replace H := kd0 H; obtain ⟨o23, H, hK22⟩ := H
  refine cut_rule (β := Unit) (fun _ a w => () = o23 ∧ ∃ j, Rep 77 (lk [(0, .pointer (some ⟨B0, 0, none⟩)), (1, .slice ca5 p1.length p1.length), (4, .int .i64 r6)] j) a ∧ Fit z (sepL (ob78 B0 S7 caq9 ccq10 caq11 ccq12 :: rn139 caq9 ccq10 S7.numberLists :: rn142 caq11 ccq12 S7.accessLists :: rowOf 90 6 enc_T_api_Access (.slice ca5 p1.length p1.length) l13 :: L)) w) ?_ ?_
  ·
    refine wp_seq ?_
    refine wp_region_lit ?_
    refine ov hr (.int .i64 0) (by kernel_rfl) ?_; clear hr a; intro a hr
    refine wpList_nil ?_
    refine then_normal ?_
    refine wp_block ?_
    refine loop_first (β := Nat) id (fun m a w => ∃ ca24 : Option Addr, ∃ cc25 : Nat, ∃ l26 : List T_api_Access, ∃ g27 : Int, (plunderlaw2_book_accesses_l2 K r6 m l26 g27) = some o23 ∧ ∃ j, Rep 77 (lk [(0, .pointer (some ⟨B0, 0, none⟩)), (1, .slice ca5 p1.length p1.length), (4, .int .i64 r6), (6, .slice ca24 l26.length cc25), (7, .int .i64 g27)] j) a ∧ Fit z (sepL (ob78 B0 S7 caq9 ccq10 caq11 ccq12 :: rn139 caq9 ccq10 S7.numberLists :: rn142 caq11 ccq12 S7.accessLists :: rowOf 90 6 enc_T_api_Access (.slice ca5 p1.length p1.length) l13 :: ro90 ca24 cc25 l26 :: L)) w) ?_ ?_
    ·
      refine wp_seq ?_
      refine wp_seq ?_
      refine wp_region_lit ?_
      refine ovs [25, 26] [.int .i64 0, .bool true] hr ⟨rfl, rfl⟩ (by kernel_rfl) ?_; clear hr a; intro a hr
      refine wpList_nil ?_
      refine then_normal ?_
      refine cond_tt hr (b := true) rfl ?_
      refine wp_skip ?_
      refine then_normal ?_
      refine wp_seq ?_
      refine wp_block ?_
      refine wp_region_lit ?_
      replace H := bd1 H; obtain ⟨r28, e29, H⟩ := H
      refine ovs [29, 30, 31] [.slice ca5 p1.length p1.length, .int .i64 r6, .int .i64 (wi (r6 + (7 : Int)))] hr ⟨rfl, rfl⟩ (by kernel_rfl) ?_; clear hr a; intro a hr
      have hc := plunderlaw2_entry_ok (H := e29) (h := h)
      refine op_call (wn rfl) rfl rfl hr (f := 91) (args := #[.int .i64 (wi (r6 + (7 : Int)))]) (by kernel_rfl) hc ?_; clear hc h
      rintro _ w ⟨rfl, h⟩; refine ⟨_, rfl, ?_⟩
      clear hr a; intro a hr
      refine op_new (wn rfl) rfl rfl hr h (vf := fun b => .slice (some ⟨b, 0, none⟩) 1 1) (cs := #[.int .i64 r28.Who, .int .i64 r28.Kind, .int .i64 r28.Addr, .int .i64 r28.A, .int .i64 r28.B, .bool r28.OK]) (T := 90) (by kernel_rfl) ?_; clear h hr a; intro b30 w a h hr
      replace h : Fit z (sepL (rowOf 90 6 enc_T_api_Access (.slice ca5 p1.length p1.length) l13 :: ob90 b30 r28 :: ob78 B0 S7 caq9 ccq10 caq11 ccq12 :: rn139 caq9 ccq10 S7.numberLists :: rn142 caq11 ccq12 S7.accessLists :: L)) _ := h.sel 5 [4, 0, 1, 2, 3] (by kernel_rfl) (by kernel_rfl)
      replace H := gd H; obtain ⟨c33, H⟩ := H
      refine op_append_fullrow (n0 := p1.length) (c := 1) (bytes := 48) (wn rfl) rfl rfl hr rfl (by kernel_rfl) rfl (by kernel_rfl) (by kernel_rfl) enc_T_api_Access_ok (E := 90) (xs := l13) (by kernel_rfl) (by kernel_rfl) h (news := [r28]) (m := 1) rfl ((h.pick 1).news rfl) c33 rfl ?_; clear h hr a; intro ca31 cc32 w a h hr
      refine ov hr (.slice ca31 ((l13 ++ [r28]).length) cc32) (by kernel_rfl) ?_; clear hr a; intro a hr
      refine wpList_nil ?_
      replace h : Fit z (sepL (ro90 ca31 cc32 (l13 ++ [r28]) :: rowOf 90 6 enc_T_api_Access (.slice ca5 p1.length p1.length) l13 :: ob90 b30 r28 :: ob78 B0 S7 caq9 ccq10 caq11 ccq12 :: rn139 caq9 ccq10 S7.numberLists :: rn142 caq11 ccq12 S7.accessLists :: L)) _ := h
      refine blk_normal ?_
      refine then_normal ?_
      refine wp_region_lit ?_
      refine ovs [27, 28, 7] [.int .i64 0, .int .i64 1, .int .i64 1] hr ⟨rfl, rfl⟩ (by kernel_rfl) ?_; clear hr a; intro a hr
      refine wpList_nil ?_
      refine then_normal ?_
      replace hr := hr.fold2 [(0, .pointer (some ⟨B0, 0, none⟩)), (1, .slice ca5 p1.length p1.length), (4, .int .i64 r6), (6, .slice ca31 ((l13 ++ [r28]).length) cc32), (7, .int .i64 1)] (by kernel_rfl); obtain ⟨j, hr⟩ := hr
      replace h : Fit z (sepL (ob78 B0 S7 caq9 ccq10 caq11 ccq12 :: rn139 caq9 ccq10 S7.numberLists :: rn142 caq11 ccq12 S7.accessLists :: rowOf 90 6 enc_T_api_Access (.slice ca5 p1.length p1.length) l13 :: ro90 ca31 cc32 (l13 ++ [r28]) :: L)) _ := h.sel 6 [3, 4, 5, 1, 0] (by kernel_rfl) (by kernel_rfl)
      exact ⟨K, ca31, cc32, (l13 ++ [r28]), 1, H, j, hr, h⟩
    clear h hr a H; rintro k2 a w ⟨ca24, cc25, l26, g27, H, j, hr, h⟩
    cases k2 with
    | zero => exact absurd H (by simp [plunderlaw2_book_accesses_l2])
    | succ k2 =>
      rw [plunderlaw2_book_accesses_l2] at H
      refine wp_seq ?_
      refine wp_seq ?_
      refine wp_region_lit ?_
      refine ovs [25, 26] [.int .i64 g27, .bool (decide (g27 < (64 : Int)))] hr ⟨rfl, rfl⟩ (by kernel_rfl) ?_; clear hr a; intro a hr
      refine wpList_nil ?_
      refine then_normal ?_
      by_cases c34 : g27 < (64 : Int)
      ·
        replace H := ifT c34 H
        refine cond_tt hr (b := (decide (g27 < (64 : Int)))) (decide_eq_true c34) ?_
        refine wp_skip ?_
        refine then_normal ?_
        refine wp_seq ?_
        refine wp_block ?_
        refine wp_region_lit ?_
        replace H := bd1 H; obtain ⟨r35, e36, H⟩ := H
        refine ovs [29, 30, 31] [.slice ca24 l26.length cc25, .int .i64 r6, .int .i64 (wi (r6 + (7 : Int)))] hr ⟨rfl, rfl⟩ (by kernel_rfl) ?_; clear hr a; intro a hr
        have hc := plunderlaw2_entry_ok (H := e36) (h := h)
        refine op_call (wn rfl) rfl rfl hr (f := 91) (args := #[.int .i64 (wi (r6 + (7 : Int)))]) (by kernel_rfl) hc ?_; clear hc h
        rintro _ w ⟨rfl, h⟩; refine ⟨_, rfl, ?_⟩
        clear hr a; intro a hr
        refine op_new (wn rfl) rfl rfl hr h (vf := fun b => .slice (some ⟨b, 0, none⟩) 1 1) (cs := #[.int .i64 r35.Who, .int .i64 r35.Kind, .int .i64 r35.Addr, .int .i64 r35.A, .int .i64 r35.B, .bool r35.OK]) (T := 90) (by kernel_rfl) ?_; clear h hr a; intro b37 w a h hr
        replace h : Fit z (sepL (ro90 ca24 cc25 l26 :: ob90 b37 r35 :: ob78 B0 S7 caq9 ccq10 caq11 ccq12 :: rn139 caq9 ccq10 S7.numberLists :: rn142 caq11 ccq12 S7.accessLists :: rowOf 90 6 enc_T_api_Access (.slice ca5 p1.length p1.length) l13 :: L)) _ := h.sel 6 [5, 0, 1, 2, 3, 4] (by kernel_rfl) (by kernel_rfl)
        replace H := gd H; obtain ⟨c40, H⟩ := H
        refine op_append (n0 := l26.length) (c := 1) (bytes := 48) (wn rfl) rfl rfl hr rfl (by kernel_rfl) (by kernel_rfl) enc_T_api_Access_ok (E := 90) (xs := l26) (by kernel_rfl) (by kernel_rfl) h (news := [r35]) (m := 1) rfl ((h.pick 1).news rfl) c40 rfl ?_; clear h hr a; intro ca38 cc39 w a h hr
        refine ov hr (.slice ca38 ((l26 ++ [r35]).length) cc39) (by kernel_rfl) ?_; clear hr a; intro a hr
        refine wpList_nil ?_
        replace h : Fit z (sepL (ro90 ca38 cc39 (l26 ++ [r35]) :: ob90 b37 r35 :: ob78 B0 S7 caq9 ccq10 caq11 ccq12 :: rn139 caq9 ccq10 S7.numberLists :: rn142 caq11 ccq12 S7.accessLists :: rowOf 90 6 enc_T_api_Access (.slice ca5 p1.length p1.length) l13 :: L)) _ := h
        refine blk_normal ?_
        refine then_normal ?_
        refine wp_region_lit ?_
        refine ovs [27, 28, 7] [.int .i64 g27, .int .i64 (wi (g27 + (1 : Int))), .int .i64 (wi (g27 + (1 : Int)))] hr ⟨rfl, rfl⟩ (by kernel_rfl) ?_; clear hr a; intro a hr
        refine wpList_nil ?_
        refine then_normal ?_
        replace hr := hr.fold2 [(0, .pointer (some ⟨B0, 0, none⟩)), (1, .slice ca5 p1.length p1.length), (4, .int .i64 r6), (6, .slice ca38 ((l26 ++ [r35]).length) cc39), (7, .int .i64 (wi (g27 + (1 : Int))))] (by kernel_rfl); obtain ⟨j, hr⟩ := hr
        replace h : Fit z (sepL (ob78 B0 S7 caq9 ccq10 caq11 ccq12 :: rn139 caq9 ccq10 S7.numberLists :: rn142 caq11 ccq12 S7.accessLists :: rowOf 90 6 enc_T_api_Access (.slice ca5 p1.length p1.length) l13 :: ro90 ca38 cc39 (l26 ++ [r35]) :: L)) _ := h.sel 6 [2, 3, 4, 5, 0] (by kernel_rfl) (by kernel_rfl)
        exact ⟨_, ⟨ca38, cc39, (l26 ++ [r35]), (wi (g27 + (1 : Int))), H, j, hr, h⟩, Nat.lt_succ_self _⟩
      ·
        replace H := ifF c34 H
        refine cond_ff hr (b := (decide (g27 < (64 : Int)))) (decide_eq_false c34) ?_
        refine wp_exit ?_
        refine then_exit ?_
        refine then_exit ?_
        refine blk_here ?_
        refine then_normal ?_
        replace hr := hr.fold2 [(0, .pointer (some ⟨B0, 0, none⟩)), (1, .slice ca5 p1.length p1.length), (4, .int .i64 r6)] (by kernel_rfl); obtain ⟨j, hr⟩ := hr
        replace h : Fit z (sepL (ob78 B0 S7 caq9 ccq10 caq11 ccq12 :: rn139 caq9 ccq10 S7.numberLists :: rn142 caq11 ccq12 S7.accessLists :: rowOf 90 6 enc_T_api_Access (.slice ca5 p1.length p1.length) l13 :: L)) _ := h.sel 5 [0, 1, 2, 3] (by kernel_rfl) (by kernel_rfl)
        exact ⟨(), sinj H, j, hr, h⟩
  clear h hr a; rintro _ a w ⟨rfl, j, hr, h⟩
  replace H := kk0 hK22
  refine wp_seq ?_
  refine wp_region_lit ?_
  replace H := bd1 H; obtain ⟨r41, e42, H⟩ := H
  refine ovs [35, 36, 37] [.slice ca5 p1.length p1.length, .int .i64 r6, .int .i64 (wi (r6 + (1 : Int)))] hr ⟨rfl, rfl⟩ (by kernel_rfl) ?_; clear hr a; intro a hr
  have hc := plunderlaw2_entry_ok (H := e42) (h := h)
  refine op_call (wn rfl) rfl rfl hr (f := 91) (args := #[.int .i64 (wi (r6 + (1 : Int)))]) (by kernel_rfl) hc ?_; clear hc h
  rintro _ w ⟨rfl, h⟩; refine ⟨_, rfl, ?_⟩
  clear hr a; intro a hr
  refine op_new (wn rfl) rfl rfl hr h (vf := fun b => .slice (some ⟨b, 0, none⟩) 1 1) (cs := #[.int .i64 r41.Who, .int .i64 r41.Kind, .int .i64 r41.Addr, .int .i64 r41.A, .int .i64 r41.B, .bool r41.OK]) (T := 90) (by kernel_rfl) ?_; clear h hr a; intro b43 w a h hr
  replace h : Fit z (sepL (rowOf 90 6 enc_T_api_Access (.slice ca5 p1.length p1.length) l13 :: ob90 b43 r41 :: ob78 B0 S7 caq9 ccq10 caq11 ccq12 :: rn139 caq9 ccq10 S7.numberLists :: rn142 caq11 ccq12 S7.accessLists :: L)) _ := h.sel 5 [4, 0, 1, 2, 3] (by kernel_rfl) (by kernel_rfl)
  replace H := gd H; obtain ⟨c46, H⟩ := H
  refine op_append_fullrow (n0 := p1.length) (c := 1) (bytes := 48) (wn rfl) rfl rfl hr rfl (by kernel_rfl) rfl (by kernel_rfl) (by kernel_rfl) enc_T_api_Access_ok (E := 90) (xs := l13) (by kernel_rfl) (by kernel_rfl) h (news := [r41]) (m := 1) rfl ((h.pick 1).news rfl) c46 rfl ?_; clear h hr a; intro ca44 cc45 w a h hr
  refine ov hr (.slice ca44 ((l13 ++ [r41]).length) cc45) (by kernel_rfl) ?_; clear hr a; intro a hr
  refine wpList_nil ?_
  replace h : Fit z (sepL (ro90 ca44 cc45 (l13 ++ [r41]) :: rowOf 90 6 enc_T_api_Access (.slice ca5 p1.length p1.length) l13 :: ob90 b43 r41 :: ob78 B0 S7 caq9 ccq10 caq11 ccq12 :: rn139 caq9 ccq10 S7.numberLists :: rn142 caq11 ccq12 S7.accessLists :: L)) _ := h
  refine then_normal ?_
  refine wp_seq ?_
  refine wp_region_lit ?_
  replace H := bd1 H; obtain ⟨r47, e48, H⟩ := H
  refine ovs [41, 42, 43] [.slice ca5 p1.length p1.length, .int .i64 r6, .int .i64 (wi (r6 + (2 : Int)))] hr ⟨rfl, rfl⟩ (by kernel_rfl) ?_; clear hr a; intro a hr
  have hc := plunderlaw2_entry_ok (H := e48) (h := h)
  refine op_call (wn rfl) rfl rfl hr (f := 91) (args := #[.int .i64 (wi (r6 + (2 : Int)))]) (by kernel_rfl) hc ?_; clear hc h
  rintro _ w ⟨rfl, h⟩; refine ⟨_, rfl, ?_⟩
  clear hr a; intro a hr
  replace H := bd1 H; obtain ⟨r49, e50, H⟩ := H
  refine ovs [45, 46] [.int .i64 r6, .int .i64 (wi (r6 + (3 : Int)))] hr ⟨rfl, rfl⟩ (by kernel_rfl) ?_; clear hr a; intro a hr
  have hc := plunderlaw2_entry_ok (H := e50) (h := h)
  refine op_call (wn rfl) rfl rfl hr (f := 91) (args := #[.int .i64 (wi (r6 + (3 : Int)))]) (by kernel_rfl) hc ?_; clear hc h
  rintro _ w ⟨rfl, h⟩; refine ⟨_, rfl, ?_⟩
  clear hr a; intro a hr
  refine op_new (wn rfl) rfl rfl hr h (vf := fun b => .slice (some ⟨b, 0, none⟩) 2 2) (cs := #[.int .i64 r47.Who, .int .i64 r47.Kind, .int .i64 r47.Addr, .int .i64 r47.A, .int .i64 r47.B, .bool r47.OK, .int .i64 r49.Who, .int .i64 r49.Kind, .int .i64 r49.Addr, .int .i64 r49.A, .int .i64 r49.B, .bool r49.OK]) (T := 90) (by kernel_rfl) ?_; clear h hr a; intro b51 w a h hr
  replace h : Fit z (sepL (rowOf 90 6 enc_T_api_Access (.slice ca5 p1.length p1.length) l13 :: pts b51 (.cells #[.int .i64 r47.Who, .int .i64 r47.Kind, .int .i64 r47.Addr, .int .i64 r47.A, .int .i64 r47.B, .bool r47.OK, .int .i64 r49.Who, .int .i64 r49.Kind, .int .i64 r49.Addr, .int .i64 r49.A, .int .i64 r49.B, .bool r49.OK] 90) :: ro90 ca44 cc45 (l13 ++ [r41]) :: ob90 b43 r41 :: ob78 B0 S7 caq9 ccq10 caq11 ccq12 :: rn139 caq9 ccq10 S7.numberLists :: rn142 caq11 ccq12 S7.accessLists :: L)) _ := h.sel 7 [2, 0, 1, 3, 4, 5, 6] (by kernel_rfl) (by kernel_rfl)
  replace H := gd H; obtain ⟨c54, H⟩ := H
  refine op_append_fullrow (n0 := p1.length) (c := 2) (bytes := 48) (wn rfl) rfl rfl hr rfl (by kernel_rfl) rfl (by kernel_rfl) (by kernel_rfl) enc_T_api_Access_ok (E := 90) (xs := l13) (by kernel_rfl) (by kernel_rfl) h (news := [r47, r49]) (m := 2) rfl ((h.pick 1).news rfl) c54 rfl ?_; clear h hr a; intro ca52 cc53 w a h hr
  refine ov hr (.slice ca52 ((l13 ++ [r47, r49]).length) cc53) (by kernel_rfl) ?_; clear hr a; intro a hr
  refine wpList_nil ?_
  replace h : Fit z (sepL (ro90 ca52 cc53 (l13 ++ [r47, r49]) :: rowOf 90 6 enc_T_api_Access (.slice ca5 p1.length p1.length) l13 :: pts b51 (.cells #[.int .i64 r47.Who, .int .i64 r47.Kind, .int .i64 r47.Addr, .int .i64 r47.A, .int .i64 r47.B, .bool r47.OK, .int .i64 r49.Who, .int .i64 r49.Kind, .int .i64 r49.Addr, .int .i64 r49.A, .int .i64 r49.B, .bool r49.OK] 90) :: ro90 ca44 cc45 (l13 ++ [r41]) :: ob90 b43 r41 :: ob78 B0 S7 caq9 ccq10 caq11 ccq12 :: rn139 caq9 ccq10 S7.numberLists :: rn142 caq11 ccq12 S7.accessLists :: L)) _ := h
  refine then_normal ?_
  refine wp_seq ?_
  refine wp_region_lit ?_
  replace H := bd1 H; obtain ⟨r55, e56, H⟩ := H
  refine ovs [50, 51, 52] [.slice ca5 p1.length p1.length, .int .i64 r6, .int .i64 (wi (r6 + (4 : Int)))] hr ⟨rfl, rfl⟩ (by kernel_rfl) ?_; clear hr a; intro a hr
  have hc := plunderlaw2_entry_ok (H := e56) (h := h)
  refine op_call (wn rfl) rfl rfl hr (f := 91) (args := #[.int .i64 (wi (r6 + (4 : Int)))]) (by kernel_rfl) hc ?_; clear hc h
  rintro _ w ⟨rfl, h⟩; refine ⟨_, rfl, ?_⟩
  clear hr a; intro a hr
  replace H := bd1 H; obtain ⟨r57, e58, H⟩ := H
  refine ovs [54, 55] [.int .i64 r6, .int .i64 (wi (r6 + (5 : Int)))] hr ⟨rfl, rfl⟩ (by kernel_rfl) ?_; clear hr a; intro a hr
  have hc := plunderlaw2_entry_ok (H := e58) (h := h)
  refine op_call (wn rfl) rfl rfl hr (f := 91) (args := #[.int .i64 (wi (r6 + (5 : Int)))]) (by kernel_rfl) hc ?_; clear hc h
  rintro _ w ⟨rfl, h⟩; refine ⟨_, rfl, ?_⟩
  clear hr a; intro a hr
  replace H := bd1 H; obtain ⟨r59, e60, H⟩ := H
  refine ovs [57, 58] [.int .i64 r6, .int .i64 (wi (r6 + (6 : Int)))] hr ⟨rfl, rfl⟩ (by kernel_rfl) ?_; clear hr a; intro a hr
  have hc := plunderlaw2_entry_ok (H := e60) (h := h)
  refine op_call (wn rfl) rfl rfl hr (f := 91) (args := #[.int .i64 (wi (r6 + (6 : Int)))]) (by kernel_rfl) hc ?_; clear hc h
  rintro _ w ⟨rfl, h⟩; refine ⟨_, rfl, ?_⟩
  clear hr a; intro a hr
  refine op_new (wn rfl) rfl rfl hr h (vf := fun b => .slice (some ⟨b, 0, none⟩) 3 3) (cs := #[.int .i64 r55.Who, .int .i64 r55.Kind, .int .i64 r55.Addr, .int .i64 r55.A, .int .i64 r55.B, .bool r55.OK, .int .i64 r57.Who, .int .i64 r57.Kind, .int .i64 r57.Addr, .int .i64 r57.A, .int .i64 r57.B, .bool r57.OK, .int .i64 r59.Who, .int .i64 r59.Kind, .int .i64 r59.Addr, .int .i64 r59.A, .int .i64 r59.B, .bool r59.OK]) (T := 90) (by kernel_rfl) ?_; clear h hr a; intro b61 w a h hr
  replace h : Fit z (sepL (rowOf 90 6 enc_T_api_Access (.slice ca5 p1.length p1.length) l13 :: pts b61 (.cells #[.int .i64 r55.Who, .int .i64 r55.Kind, .int .i64 r55.Addr, .int .i64 r55.A, .int .i64 r55.B, .bool r55.OK, .int .i64 r57.Who, .int .i64 r57.Kind, .int .i64 r57.Addr, .int .i64 r57.A, .int .i64 r57.B, .bool r57.OK, .int .i64 r59.Who, .int .i64 r59.Kind, .int .i64 r59.Addr, .int .i64 r59.A, .int .i64 r59.B, .bool r59.OK] 90) :: ro90 ca52 cc53 (l13 ++ [r47, r49]) :: pts b51 (.cells #[.int .i64 r47.Who, .int .i64 r47.Kind, .int .i64 r47.Addr, .int .i64 r47.A, .int .i64 r47.B, .bool r47.OK, .int .i64 r49.Who, .int .i64 r49.Kind, .int .i64 r49.Addr, .int .i64 r49.A, .int .i64 r49.B, .bool r49.OK] 90) :: ro90 ca44 cc45 (l13 ++ [r41]) :: ob90 b43 r41 :: ob78 B0 S7 caq9 ccq10 caq11 ccq12 :: rn139 caq9 ccq10 S7.numberLists :: rn142 caq11 ccq12 S7.accessLists :: L)) _ := h.sel 9 [2, 0, 1, 3, 4, 5, 6, 7, 8] (by kernel_rfl) (by kernel_rfl)
  replace H := gd H; obtain ⟨c64, H⟩ := H
  refine op_append_fullrow (n0 := p1.length) (c := 3) (bytes := 48) (wn rfl) rfl rfl hr rfl (by kernel_rfl) rfl (by kernel_rfl) (by kernel_rfl) enc_T_api_Access_ok (E := 90) (xs := l13) (by kernel_rfl) (by kernel_rfl) h (news := [r55, r57, r59]) (m := 3) rfl ((h.pick 1).news rfl) c64 rfl ?_; clear h hr a; intro ca62 cc63 w a h hr
  refine ov hr (.slice ca62 ((l13 ++ [r55, r57, r59]).length) cc63) (by kernel_rfl) ?_; clear hr a; intro a hr
  refine wpList_nil ?_
  replace h : Fit z (sepL (ro90 ca62 cc63 (l13 ++ [r55, r57, r59]) :: rowOf 90 6 enc_T_api_Access (.slice ca5 p1.length p1.length) l13 :: pts b61 (.cells #[.int .i64 r55.Who, .int .i64 r55.Kind, .int .i64 r55.Addr, .int .i64 r55.A, .int .i64 r55.B, .bool r55.OK, .int .i64 r57.Who, .int .i64 r57.Kind, .int .i64 r57.Addr, .int .i64 r57.A, .int .i64 r57.B, .bool r57.OK, .int .i64 r59.Who, .int .i64 r59.Kind, .int .i64 r59.Addr, .int .i64 r59.A, .int .i64 r59.B, .bool r59.OK] 90) :: ro90 ca52 cc53 (l13 ++ [r47, r49]) :: pts b51 (.cells #[.int .i64 r47.Who, .int .i64 r47.Kind, .int .i64 r47.Addr, .int .i64 r47.A, .int .i64 r47.B, .bool r47.OK, .int .i64 r49.Who, .int .i64 r49.Kind, .int .i64 r49.Addr, .int .i64 r49.A, .int .i64 r49.B, .bool r49.OK] 90) :: ro90 ca44 cc45 (l13 ++ [r41]) :: ob90 b43 r41 :: ob78 B0 S7 caq9 ccq10 caq11 ccq12 :: rn139 caq9 ccq10 S7.numberLists :: rn142 caq11 ccq12 S7.accessLists :: L)) _ := h
  refine then_normal ?_
  refine wp_region_lit ?_
  refine ovs [62, 63, 64, 65] [.pointer (some ⟨B0, 0, none⟩), .pointer (some ⟨B0, 0, none⟩), .pointer (some ⟨B0, 0, none⟩), .pointer (some ⟨B0, 1, none⟩)] hr ⟨rfl, rfl⟩ (by kernel_rfl) ?_; clear hr a; intro a hr
  refine op_val (wn rfl) rfl rfl hr (v := .slice caq11 S7.accessLists.length ccq12) (rl rfl (by kernel_rfl) (by kernel_rfl) ((h.pick 7).cell 1 rfl)) ?_; clear hr a; intro a hr
  refine ovs [67, 68, 69, 70, 71, 72] [.int .i64 r6, .slice ca5 p1.length p1.length, .slice ca44 ((l13 ++ [r41]).length) cc45, .slice ca52 ((l13 ++ [r47, r49]).length) cc53, .slice ca62 ((l13 ++ [r55, r57, r59]).length) cc63, .agg #[.int .i64 r6, .slice ca5 p1.length p1.length, .slice ca44 ((l13 ++ [r41]).length) cc45, .slice ca52 ((l13 ++ [r47, r49]).length) cc53, .slice ca62 ((l13 ++ [r55, r57, r59]).length) cc63]] hr ⟨rfl, rfl⟩ (by kernel_rfl) ?_; clear hr a; intro a hr
  refine op_new (wn rfl) rfl rfl hr h (vf := fun b => .slice (some ⟨b, 0, none⟩) 1 1) (cs := #[.int .i64 r6, .slice ca5 p1.length p1.length, .slice ca44 ((l13 ++ [r41]).length) cc45, .slice ca52 ((l13 ++ [r47, r49]).length) cc53, .slice ca62 ((l13 ++ [r55, r57, r59]).length) cc63]) (T := 142) (by kernel_rfl) ?_; clear h hr a; intro b65 w a h hr
  have hn65 := (h.pick 2).row_n
  replace h : Fit z (sepL (pts b65 (.cells #[.int .i64 r6, .slice ca5 l13.length p1.length, .slice ca44 ((l13 ++ [r41]).length) cc45, .slice ca52 ((l13 ++ [r47, r49]).length) cc53, .slice ca62 ((l13 ++ [r55, r57, r59]).length) cc63] 142) :: ro90 ca62 cc63 (l13 ++ [r55, r57, r59]) :: ro90 ca5 p1.length l13 :: pts b61 (.cells #[.int .i64 r55.Who, .int .i64 r55.Kind, .int .i64 r55.Addr, .int .i64 r55.A, .int .i64 r55.B, .bool r55.OK, .int .i64 r57.Who, .int .i64 r57.Kind, .int .i64 r57.Addr, .int .i64 r57.A, .int .i64 r57.B, .bool r57.OK, .int .i64 r59.Who, .int .i64 r59.Kind, .int .i64 r59.Addr, .int .i64 r59.A, .int .i64 r59.B, .bool r59.OK] 90) :: ro90 ca52 cc53 (l13 ++ [r47, r49]) :: pts b51 (.cells #[.int .i64 r47.Who, .int .i64 r47.Kind, .int .i64 r47.Addr, .int .i64 r47.A, .int .i64 r47.B, .bool r47.OK, .int .i64 r49.Who, .int .i64 r49.Kind, .int .i64 r49.Addr, .int .i64 r49.A, .int .i64 r49.B, .bool r49.OK] 90) :: ro90 ca44 cc45 (l13 ++ [r41]) :: ob90 b43 r41 :: ob78 B0 S7 caq9 ccq10 caq11 ccq12 :: rn139 caq9 ccq10 S7.numberLists :: rn142 caq11 ccq12 S7.accessLists :: L)) w := (congrArg (fun q_ : Nat => Fit z (sepL (pts b65 (.cells #[.int .i64 r6, .slice ca5 q_ p1.length, .slice ca44 ((l13 ++ [r41]).length) cc45, .slice ca52 ((l13 ++ [r47, r49]).length) cc53, .slice ca62 ((l13 ++ [r55, r57, r59]).length) cc63] 142) :: ro90 ca62 cc63 (l13 ++ [r55, r57, r59]) :: rowOf 90 6 enc_T_api_Access (.slice ca5 q_ p1.length) l13 :: pts b61 (.cells #[.int .i64 r55.Who, .int .i64 r55.Kind, .int .i64 r55.Addr, .int .i64 r55.A, .int .i64 r55.B, .bool r55.OK, .int .i64 r57.Who, .int .i64 r57.Kind, .int .i64 r57.Addr, .int .i64 r57.A, .int .i64 r57.B, .bool r57.OK, .int .i64 r59.Who, .int .i64 r59.Kind, .int .i64 r59.Addr, .int .i64 r59.A, .int .i64 r59.B, .bool r59.OK] 90) :: ro90 ca52 cc53 (l13 ++ [r47, r49]) :: pts b51 (.cells #[.int .i64 r47.Who, .int .i64 r47.Kind, .int .i64 r47.Addr, .int .i64 r47.A, .int .i64 r47.B, .bool r47.OK, .int .i64 r49.Who, .int .i64 r49.Kind, .int .i64 r49.Addr, .int .i64 r49.A, .int .i64 r49.B, .bool r49.OK] 90) :: ro90 ca44 cc45 (l13 ++ [r41]) :: ob90 b43 r41 :: ob78 B0 S7 caq9 ccq10 caq11 ccq12 :: rn139 caq9 ccq10 S7.numberLists :: rn142 caq11 ccq12 S7.accessLists :: L)) w) (h.pick 2).row_n).mp h
  replace h : Fit z (sepL (ro90 ca5 p1.length l13 :: ro90 ca44 cc45 (l13 ++ [r41]) :: ro90 ca52 cc53 (l13 ++ [r47, r49]) :: ro90 ca62 cc63 (l13 ++ [r55, r57, r59]) :: pts b65 (.cells #[.int .i64 r6, .slice ca5 l13.length p1.length, .slice ca44 ((l13 ++ [r41]).length) cc45, .slice ca52 ((l13 ++ [r47, r49]).length) cc53, .slice ca62 ((l13 ++ [r55, r57, r59]).length) cc63] 142) :: pts b61 (.cells #[.int .i64 r55.Who, .int .i64 r55.Kind, .int .i64 r55.Addr, .int .i64 r55.A, .int .i64 r55.B, .bool r55.OK, .int .i64 r57.Who, .int .i64 r57.Kind, .int .i64 r57.Addr, .int .i64 r57.A, .int .i64 r57.B, .bool r57.OK, .int .i64 r59.Who, .int .i64 r59.Kind, .int .i64 r59.Addr, .int .i64 r59.A, .int .i64 r59.B, .bool r59.OK] 90) :: pts b51 (.cells #[.int .i64 r47.Who, .int .i64 r47.Kind, .int .i64 r47.Addr, .int .i64 r47.A, .int .i64 r47.B, .bool r47.OK, .int .i64 r49.Who, .int .i64 r49.Kind, .int .i64 r49.Addr, .int .i64 r49.A, .int .i64 r49.B, .bool r49.OK] 90) :: ob90 b43 r41 :: ob78 B0 S7 caq9 ccq10 caq11 ccq12 :: rn139 caq9 ccq10 S7.numberLists :: rn142 caq11 ccq12 S7.accessLists :: L)) _ := h.sel 11 [2, 6, 4, 1, 0, 3, 5, 7, 8, 9, 10] (by kernel_rfl) (by kernel_rfl)
  replace h := own_T_plunderlaw2_noted_sh (x := (⟨r6, l13, l13 ++ [r41], l13 ++ [r47, r49], l13 ++ [r55, r57, r59]⟩ : T_plunderlaw2_noted)) h
  replace H := gd H; obtain ⟨c67, H⟩ := H
  replace h : Fit z (sepL (rn142 caq11 ccq12 S7.accessLists :: own_T_plunderlaw2_noted (⟨r6, l13, l13 ++ [r41], l13 ++ [r47, r49], l13 ++ [r55, r57, r59]⟩ : T_plunderlaw2_noted) [.int .i64 r6, .slice ca5 l13.length p1.length, .slice ca44 ((l13 ++ [r41]).length) cc45, .slice ca52 ((l13 ++ [r47, r49]).length) cc53, .slice ca62 ((l13 ++ [r55, r57, r59]).length) cc63] :: pts b65 (.cells #[.int .i64 r6, .slice ca5 l13.length p1.length, .slice ca44 ((l13 ++ [r41]).length) cc45, .slice ca52 ((l13 ++ [r47, r49]).length) cc53, .slice ca62 ((l13 ++ [r55, r57, r59]).length) cc63] 142) :: pts b61 (.cells #[.int .i64 r55.Who, .int .i64 r55.Kind, .int .i64 r55.Addr, .int .i64 r55.A, .int .i64 r55.B, .bool r55.OK, .int .i64 r57.Who, .int .i64 r57.Kind, .int .i64 r57.Addr, .int .i64 r57.A, .int .i64 r57.B, .bool r57.OK, .int .i64 r59.Who, .int .i64 r59.Kind, .int .i64 r59.Addr, .int .i64 r59.A, .int .i64 r59.B, .bool r59.OK] 90) :: pts b51 (.cells #[.int .i64 r47.Who, .int .i64 r47.Kind, .int .i64 r47.Addr, .int .i64 r47.A, .int .i64 r47.B, .bool r47.OK, .int .i64 r49.Who, .int .i64 r49.Kind, .int .i64 r49.Addr, .int .i64 r49.A, .int .i64 r49.B, .bool r49.OK] 90) :: ob90 b43 r41 :: ob78 B0 S7 caq9 ccq10 caq11 ccq12 :: rn139 caq9 ccq10 S7.numberLists :: L)) _ := h.sel 8 [7, 0, 1, 2, 3, 4, 5, 6] (by kernel_rfl) (by kernel_rfl)
  refine op_append_N (n0 := S7.accessLists.length) (c := 1) (bytes := 104) (sz := 5) (wn rfl) rfl rfl hr rfl (by kernel_rfl) (by kernel_rfl) (E := 142) (xs := S7.accessLists) (by kernel_rfl) (by kernel_rfl) rfl rfl rfl h ((h.pick 2).news rfl) c67 rfl ?_; clear h hr a; intro ca68 cc69 w a h hr
  refine ovs [75, 76] [.pointer (some ⟨B0, 0, none⟩), .pointer (some ⟨B0, 1, none⟩)] hr ⟨rfl, rfl⟩ (by kernel_rfl) ?_; clear hr a; intro a hr
  replace h : Fit z (sepL (ob78 B0 S7 caq9 ccq10 caq11 ccq12 :: rn142 ca68 cc69 (S7.accessLists ++ [(⟨r6, l13, l13 ++ [r41], l13 ++ [r47, r49], l13 ++ [r55, r57, r59]⟩ : T_plunderlaw2_noted)]) :: pts b65 (.cells #[.int .i64 r6, .slice ca5 l13.length p1.length, .slice ca44 ((l13 ++ [r41]).length) cc45, .slice ca52 ((l13 ++ [r47, r49]).length) cc53, .slice ca62 ((l13 ++ [r55, r57, r59]).length) cc63] 142) :: pts b61 (.cells #[.int .i64 r55.Who, .int .i64 r55.Kind, .int .i64 r55.Addr, .int .i64 r55.A, .int .i64 r55.B, .bool r55.OK, .int .i64 r57.Who, .int .i64 r57.Kind, .int .i64 r57.Addr, .int .i64 r57.A, .int .i64 r57.B, .bool r57.OK, .int .i64 r59.Who, .int .i64 r59.Kind, .int .i64 r59.Addr, .int .i64 r59.A, .int .i64 r59.B, .bool r59.OK] 90) :: pts b51 (.cells #[.int .i64 r47.Who, .int .i64 r47.Kind, .int .i64 r47.Addr, .int .i64 r47.A, .int .i64 r47.B, .bool r47.OK, .int .i64 r49.Who, .int .i64 r49.Kind, .int .i64 r49.Addr, .int .i64 r49.A, .int .i64 r49.B, .bool r49.OK] 90) :: ob90 b43 r41 :: rn139 caq9 ccq10 S7.numberLists :: L)) _ := h.sel 7 [5, 0, 1, 2, 3, 4, 6] (by kernel_rfl) (by kernel_rfl)
  refine op_store (wn rfl) rfl hr rfl (by kernel_rfl) (by kernel_rfl) (v := .slice ca68 ((S7.accessLists ++ [(⟨r6, l13, l13 ++ [r41], l13 ++ [r47, r49], l13 ++ [r55, r57, r59]⟩ : T_plunderlaw2_noted)]).length) cc69) rfl rfl (by kernel_rfl) h (i := 1) rfl ?_; clear h; intro w h
  refine wpList_nil ?_
  replace h : Fit z (sepL (pts B0 (.cells #[.slice caq9 S7.numberLists.length ccq10, .slice ca68 ((S7.accessLists ++ [(⟨r6, l13, l13 ++ [r41], l13 ++ [r47, r49], l13 ++ [r55, r57, r59]⟩ : T_plunderlaw2_noted)]).length) cc69, .int .i64 S7.next] 78) :: rn142 ca68 cc69 (S7.accessLists ++ [(⟨r6, l13, l13 ++ [r41], l13 ++ [r47, r49], l13 ++ [r55, r57, r59]⟩ : T_plunderlaw2_noted)]) :: pts b65 (.cells #[.int .i64 r6, .slice ca5 l13.length p1.length, .slice ca44 ((l13 ++ [r41]).length) cc45, .slice ca52 ((l13 ++ [r47, r49]).length) cc53, .slice ca62 ((l13 ++ [r55, r57, r59]).length) cc63] 142) :: pts b61 (.cells #[.int .i64 r55.Who, .int .i64 r55.Kind, .int .i64 r55.Addr, .int .i64 r55.A, .int .i64 r55.B, .bool r55.OK, .int .i64 r57.Who, .int .i64 r57.Kind, .int .i64 r57.Addr, .int .i64 r57.A, .int .i64 r57.B, .bool r57.OK, .int .i64 r59.Who, .int .i64 r59.Kind, .int .i64 r59.Addr, .int .i64 r59.A, .int .i64 r59.B, .bool r59.OK] 90) :: pts b51 (.cells #[.int .i64 r47.Who, .int .i64 r47.Kind, .int .i64 r47.Addr, .int .i64 r47.A, .int .i64 r47.B, .bool r47.OK, .int .i64 r49.Who, .int .i64 r49.Kind, .int .i64 r49.Addr, .int .i64 r49.A, .int .i64 r49.B, .bool r49.OK] 90) :: ob90 b43 r41 :: rn139 caq9 ccq10 S7.numberLists :: L)) _ := h
  refine end_norm0 rfl hr ?_
  replace h : Fit z (sepL (pts B0 (.cells #[.slice caq9 S7.numberLists.length ccq10, .slice ca68 ((S7.accessLists ++ [(⟨r6, l13, l13 ++ [r41], l13 ++ [r47, r49], l13 ++ [r55, r57, r59]⟩ : T_plunderlaw2_noted)]).length) cc69, .int .i64 S7.next] 78) :: rn139 caq9 ccq10 S7.numberLists :: rn142 ca68 cc69 (S7.accessLists ++ [(⟨r6, l13, l13 ++ [r41], l13 ++ [r47, r49], l13 ++ [r55, r57, r59]⟩ : T_plunderlaw2_noted)]) :: L)) _ := h.sel 7 [0, 6, 1] (by kernel_rfl) (by kernel_rfl)
  replace H := ej1 H; subst H
  exact ⟨caq9, ccq10, ca68, cc69, rfl, h⟩


end Go.Proofs.Ytacgigkonoegiaa.Mo
