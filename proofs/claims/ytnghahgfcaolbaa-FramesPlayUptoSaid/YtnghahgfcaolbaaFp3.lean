/- what the functions compute, as plain Lean functions, and that they do -/
import Derived.Test.YtnghahgfcaolbaaFp2
namespace Go.Proofs.Ytnghahgfcaolbaa.Mo
open Go Go.RowKit Go.Proofs.Ytnghahgfcaolbaa.SL Go.Proofs.Ytnghahgfcaolbaa.GX
set_option linter.unusedVariables false
set_option linter.unusedSimpArgs false
set_option maxRecDepth 100000
set_option maxHeartbeats 4000000

theorem frames_Play_ok {z w : World} {L : List HProp} {K : Nat} {p0 p1 : List Int} {va0 va1 : Option Addr} {vc0 vc1 : Nat} {r0 : T_api_JoinRun} {r1 : Int} (H : frames_Play K p0 p1 = some (r0, r1)) (h : Fit z (sepL (L)) w) (hv0 : RdRow L 1 encZ_i64 va0 p0) (hv1 : RdRow L 1 encZ_i64 va1 p1) :
    Calls Try.prog 43 #[.slice va0 p0.length vc0, .slice va1 p1.length vc1] w fun e w => ∃ car0_1 ccr0_2 car0_3 ccr0_4 car0_5 ccr0_6 car0_7, e = .returned (.tuple #[.agg #[vB r0.Done, vI r0.Steps, .slice car0_1 r0.Holders.length ccr0_2, .slice car0_3 r0.Reads.length ccr0_4, .slice car0_5 r0.Marks.length ccr0_6, .slice car0_7 r0.Log.length r0.Log.length], vI r1]) ∧ Fit z (sepL (ro3 car0_1 ccr0_2 r0.Holders :: rn31 car0_3 ccr0_4 r0.Reads :: ro2 car0_5 ccr0_6 r0.Marks :: ro96 car0_7 r0.Log.length r0.Log :: L)) w := by
 unfold frames_Play at H
 refine enter Try.func43 rfl 147 rfl rfl [(0, .slice va0 p0.length vc0), (1, .slice va1 p1.length vc1)] ⟨rfl, rfl, trivial⟩ ?_
 intro j a hr
 refine sr ?_
 refine onew (wn rfl) hr h nb (#[vB false, vI 0, .slice none 0 0, .slice none 0 0, .slice none 0 0, .slice none 0 0]) 86 fun b1 w a h hr => ?_
 refine o1 hr (vI 0) fun a hr => ?_
 refine ln ?_
 obtain ⟨o3, H, hK2⟩ := jd0 H
 refine cut_rule (β := Unit) (fun _ a w => .inl () = o3 ∧ ∃ j, Rep 147 (lk [(0, .slice va0 p0.length vc0), (1, .slice va1 p1.length vc1), (4, pA b1 0)] j) a ∧ Fit z (sepL (pts b1 (.cells #[vB false, vI 0, .slice none 0 0, .slice none 0 0, .slice none 0 0, .slice none 0 0] 86) :: L)) w) ?_ ?_
 ·
  refine sr ?_
  refine oo [14, 15, 16, 17] [.slice va0 p0.length vc0, vI ((p0.length : Nat) : Int), vB (decide (((p0.length : Nat) : Int) > 64)), vB (decide (((p0.length : Nat) : Int) > 64))] hr fun a hr => ?_
  by_cases c4 : ((p0.length : Nat) : Int) > 64
  ·
   replace H := ifT c4 H
   refine offl (decide_eq_true c4) [18, 19, 20] hr fun a hr => ?_
   refine opv (wn rfl) hr (vB true) (rp_t (b := (decide (((p0.length : Nat) : Int) > 64))) rfl (by kernel_rfl) (decide_eq_true c4) (by kernel_rfl)) fun a hr => ?_
   refine ln ?_
   refine cond_tt hr (b := true) rfl ?_
   refine sr ?_
   refine o1 hr (.agg #[vB false, vI 0, .slice none 0 0, .slice none 0 0, .slice none 0 0, .slice none 0 0]) fun a hr => ?_
   refine stm (wn rfl) hr h 0 ([vB false, vI 0, .slice none 0 0, .slice none 0 0, .slice none 0 0, .slice none 0 0]) (pts b1 (.cells #[vB false, vI 0, .slice none 0 0, .slice none 0 0, .slice none 0 0, .slice none 0 0] 86)) fun w h => ?_
   refine o1 hr (vI 2) fun a hr => ?_
   refine ln ?_
   refine wp_ret ?_
   refine then_ret ?_
   refine end_retCT (cs := [vB false, vI 0, .slice none 0 0, .slice none 0 0, .slice none 0 0, .slice none 0 0]) (v := vI 2) rfl hr (by kernel_rfl) (by kernel_rfl) (by kernel_rfl) (by kernel_rfl) (h.held 0 rfl) ?_
   replace h := h.row_nil (e := 3) (sz := 1) (enc := encZ_i64)
   replace h := h.rowN_nil (e := 31) (sz := 1) (own := own_sl31)
   replace h := h.row_nil (e := 2) (sz := 1) (enc := encZ_i64)
   replace h := h.row_nil (e := 96) (sz := 6) (enc := enc_T_api_Access)
   replace H := jx0 H hK2
   obtain ⟨rfl, rfl⟩ := ej2 H
   exact ⟨none, 0, none, 0, none, 0, none, rfl, h.se 5 [3, 2, 1, 0]⟩
  ·
   replace H := ifF c4 H
   refine onl (decide_eq_false c4) [18, 19, 20] [.slice va1 p1.length vc1, vI ((p1.length : Nat) : Int), vB (decide (((p1.length : Nat) : Int) > 1048576))] hr fun a hr => ?_
   refine opv (wn rfl) hr (vB (decide (((p1.length : Nat) : Int) > 1048576))) (rp_f (b := (decide (((p0.length : Nat) : Int) > 64))) rfl (by kernel_rfl) (decide_eq_false c4) (by kernel_rfl)) fun a hr => ?_
   refine ln ?_
   refine cD hr H (fun c5 H => ?_) fun c5 H => ?_
   ·
    refine sr ?_
    refine o1 hr (.agg #[vB false, vI 0, .slice none 0 0, .slice none 0 0, .slice none 0 0, .slice none 0 0]) fun a hr => ?_
    refine stm (wn rfl) hr h 0 ([vB false, vI 0, .slice none 0 0, .slice none 0 0, .slice none 0 0, .slice none 0 0]) (pts b1 (.cells #[vB false, vI 0, .slice none 0 0, .slice none 0 0, .slice none 0 0, .slice none 0 0] 86)) fun w h => ?_
    refine o1 hr (vI 2) fun a hr => ?_
    refine ln ?_
    refine wp_ret ?_
    refine then_ret ?_
    refine end_retCT (cs := [vB false, vI 0, .slice none 0 0, .slice none 0 0, .slice none 0 0, .slice none 0 0]) (v := vI 2) rfl hr (by kernel_rfl) (by kernel_rfl) (by kernel_rfl) (by kernel_rfl) (h.held 0 rfl) ?_
    replace h := h.row_nil (e := 3) (sz := 1) (enc := encZ_i64)
    replace h := h.rowN_nil (e := 31) (sz := 1) (own := own_sl31)
    replace h := h.row_nil (e := 2) (sz := 1) (enc := encZ_i64)
    replace h := h.row_nil (e := 96) (sz := 6) (enc := enc_T_api_Access)
    replace H := jx0 H hK2
    obtain ⟨rfl, rfl⟩ := ej2 H
    exact ⟨none, 0, none, 0, none, 0, none, rfl, h.se 5 [3, 2, 1, 0]⟩
   ·
    refine wp_skip ?_
    refine then_normal ?_
    exact ⟨(), sinj H, hr.fj h⟩
 clear h hr a; rintro _ a w ⟨rfl, j, hr, h⟩
 replace H := jk0 hK2
 refine sr ?_
 refine o1 hr (vI 1) fun a hr => ?_
 refine ln ?_
 obtain ⟨o8, H, hK7⟩ := jd1 H
 refine cut_rule (β := Unit) (fun _ a w => ∃ g6 : Int, .inl g6 = o8 ∧ ∃ j, Rep 147 (lk [(0, .slice va0 p0.length vc0), (1, .slice va1 p1.length vc1), (4, pA b1 0), (6, vI g6)] j) a ∧ Fit z (sepL (pts b1 (.cells #[vB false, vI 0, .slice none 0 0, .slice none 0 0, .slice none 0 0, .slice none 0 0] 86) :: L)) w) ?_ ?_
 ·
  refine sr ?_
  refine oo [23, 24, 25] [.slice va0 p0.length vc0, vI ((p0.length : Nat) : Int), vI 0] hr fun a hr => ?_
  refine ln ?_
  refine wp_block ?_
  refine loop_rule (β := Nat) id (fun m a w => ∃ g9 : Int, ∃ g10 : Int, (frames_Play_l1 K p0 m g9 g10) = some o8 ∧ ∃ j, Rep 147 (lk [(0, .slice va0 p0.length vc0), (1, .slice va1 p1.length vc1), (4, pA b1 0), (6, vI g9), (23, .slice va0 p0.length vc0), (24, vI ((p0.length : Nat) : Int)), (25, vI g10)] j) a ∧ Fit z (sepL (pts b1 (.cells #[vB false, vI 0, .slice none 0 0, .slice none 0 0, .slice none 0 0, .slice none 0 0] 86) :: L)) w) K ⟨1, 0, H, hr.fj h⟩ ?_
  clear h hr a H; rintro k1 a w ⟨g9, g10, H, j, hr, h⟩
  cases k1 with
  | zero => exact absurd H (by simp [frames_Play_l1])
  | succ k1 =>
   rw [frames_Play_l1] at H
   refine sr ?_
   refine o1 hr (vB (decide (g10 < ((p0.length : Nat) : Int)))) fun a hr => ?_
   refine ln ?_
   refine wp_seq ?_
   refine cD hr H (fun c11 H => ?_) fun c11 H => ?_
   ·
    refine wp_skip ?_
    refine then_normal ?_
    refine wp_seq ?_
    refine wp_block ?_
    refine sr ?_
    obtain ⟨c12, H⟩ := gd H
    refine opv (wn rfl) hr (pA (blk va0) (offs va0 + g10.toNat * 1)) (ri_rd (k := .i64) (E := 3) (cc := vc0) rfl (by kernel_rfl) (by kernel_rfl) rfl (by kernel_rfl) (by kernel_rfl) hv0 c12) fun a hr => ?_
    refine ld (wn rfl) hr (vI (at_ p0 g10.toNat)) (hv0.cell c12 (h.dn 1) 0 rfl) fun a hr => ?_
    refine o1 hr (vI (at_ p0 g10.toNat)) fun a hr => ?_
    refine ln ?_
    refine wp_seq ?_
    refine sr ?_
    refine oo [29, 30, 31] [vI (at_ p0 g10.toNat), vB (decide ((at_ p0 g10.toNat) < 0)), vB (decide ((at_ p0 g10.toNat) < 0))] hr fun a hr => ?_
    by_cases c13 : (at_ p0 g10.toNat) < 0
    ·
     replace H := ifT c13 H
     refine offl (decide_eq_true c13) [32, 33] hr fun a hr => ?_
     refine opv (wn rfl) hr (vB true) (rp_t (b := (decide ((at_ p0 g10.toNat) < 0))) rfl (by kernel_rfl) (decide_eq_true c13) (by kernel_rfl)) fun a hr => ?_
     refine ln ?_
     refine cond_tt hr (b := true) rfl ?_
     refine sr ?_
     refine o1 hr (.agg #[vB false, vI 0, .slice none 0 0, .slice none 0 0, .slice none 0 0, .slice none 0 0]) fun a hr => ?_
     refine stm (wn rfl) hr h 0 ([vB false, vI 0, .slice none 0 0, .slice none 0 0, .slice none 0 0, .slice none 0 0]) (pts b1 (.cells #[vB false, vI 0, .slice none 0 0, .slice none 0 0, .slice none 0 0, .slice none 0 0] 86)) fun w h => ?_
     refine o1 hr (vI 80) fun a hr => ?_
     refine ln ?_
     refine wp_ret ?_
     refine then_ret ?_
     refine blk_ret ?_
     refine then_ret ?_
     refine then_ret ?_
     refine blk_ret ?_
     refine then_ret ?_
     refine end_retCT (cs := [vB false, vI 0, .slice none 0 0, .slice none 0 0, .slice none 0 0, .slice none 0 0]) (v := vI 80) rfl hr (by kernel_rfl) (by kernel_rfl) (by kernel_rfl) (by kernel_rfl) (h.held 0 rfl) ?_
     replace h := h.row_nil (e := 3) (sz := 1) (enc := encZ_i64)
     replace h := h.rowN_nil (e := 31) (sz := 1) (own := own_sl31)
     replace h := h.row_nil (e := 2) (sz := 1) (enc := encZ_i64)
     replace h := h.row_nil (e := 96) (sz := 6) (enc := enc_T_api_Access)
     replace H := jx1 H hK7
     obtain ⟨rfl, rfl⟩ := ej2 H
     exact ⟨none, 0, none, 0, none, 0, none, rfl, h.se 5 [3, 2, 1, 0]⟩
    ·
     replace H := ifF c13 H
     refine onl (decide_eq_false c13) [32, 33] [vI (at_ p0 g10.toNat), vB (decide ((at_ p0 g10.toNat) > 8))] hr fun a hr => ?_
     refine opv (wn rfl) hr (vB (decide ((at_ p0 g10.toNat) > 8))) (rp_f (b := (decide ((at_ p0 g10.toNat) < 0))) rfl (by kernel_rfl) (decide_eq_false c13) (by kernel_rfl)) fun a hr => ?_
     refine ln ?_
     refine cD hr H (fun c14 H => ?_) fun c14 H => ?_
     ·
      refine sr ?_
      refine o1 hr (.agg #[vB false, vI 0, .slice none 0 0, .slice none 0 0, .slice none 0 0, .slice none 0 0]) fun a hr => ?_
      refine stm (wn rfl) hr h 0 ([vB false, vI 0, .slice none 0 0, .slice none 0 0, .slice none 0 0, .slice none 0 0]) (pts b1 (.cells #[vB false, vI 0, .slice none 0 0, .slice none 0 0, .slice none 0 0, .slice none 0 0] 86)) fun w h => ?_
      refine o1 hr (vI 80) fun a hr => ?_
      refine ln ?_
      refine wp_ret ?_
      refine then_ret ?_
      refine blk_ret ?_
      refine then_ret ?_
      refine then_ret ?_
      refine blk_ret ?_
      refine then_ret ?_
      refine end_retCT (cs := [vB false, vI 0, .slice none 0 0, .slice none 0 0, .slice none 0 0, .slice none 0 0]) (v := vI 80) rfl hr (by kernel_rfl) (by kernel_rfl) (by kernel_rfl) (by kernel_rfl) (h.held 0 rfl) ?_
      replace h := h.row_nil (e := 3) (sz := 1) (enc := encZ_i64)
      replace h := h.rowN_nil (e := 31) (sz := 1) (own := own_sl31)
      replace h := h.row_nil (e := 2) (sz := 1) (enc := encZ_i64)
      replace h := h.row_nil (e := 96) (sz := 6) (enc := enc_T_api_Access)
      replace H := jx1 H hK7
      obtain ⟨rfl, rfl⟩ := ej2 H
      exact ⟨none, 0, none, 0, none, 0, none, rfl, h.se 5 [3, 2, 1, 0]⟩
     ·
      refine wp_skip ?_
      refine then_normal ?_
      refine wp_region_lit ?_
      refine oo [36, 37, 38, 6] [vI g9, vI (at_ p0 g10.toNat), vI (wi (g9 + (at_ p0 g10.toNat))), vI (wi (g9 + (at_ p0 g10.toNat)))] hr fun a hr => ?_
      refine wpList_nil ?_
      refine blk_normal ?_
      refine then_normal ?_
      refine wp_region_lit ?_
      refine oo [39, 25] [vI (wi (g10 + 1)), vI (wi (g10 + 1))] hr fun a hr => ?_
      refine ln ?_
      exact ⟨_, ⟨(wi (g9 + (at_ p0 g10.toNat))), (wi (g10 + 1)), H, hr.fj h⟩, Nat.lt_succ_self _⟩
   ·
    refine wp_exit ?_
    refine then_exit ?_
    refine then_exit ?_
    refine blk_here ?_
    refine then_normal ?_
    exact ⟨(), g9, sinj H, hr.fj h⟩
 clear h hr a; rintro _ a w ⟨g6, rfl, j, hr, h⟩
 replace H := jk1 hK7
 refine sr ?_
 refine oo [40, 41] [.slice va0 p0.length vc0, .agg #[pN, vI 0, vI 0, .slice va0 p0.length vc0, vI 0, .slice none 0 0, vI 0, vI 0, vB false, vI 0, .slice none 0 0, .slice none 0 0, .slice none 0 0, .slice none 0 0]] hr fun a hr => ?_
 refine onew (wn rfl) hr h nb (#[pN, vI 0, vI 0, .slice va0 p0.length vc0, vI 0, .slice none 0 0, vI 0, vI 0, vB false, vI 0, .slice none 0 0, .slice none 0 0, .slice none 0 0, .slice none 0 0]) 133 fun b15 w a h hr => ?_
 refine o1 hr (pA b15 0) fun a hr => ?_
 refine ln ?_
 refine sr ?_
 obtain ⟨r16, e17, H⟩ := bd1 H
 refine oo [44, 45] [pA b15 0, vI g6] hr fun a hr => ?_
 have hc := frames_Cells_ok (H := e17) (h := h)
 refine cl (wn rfl) hr hc ?_; clear hc h
 rintro _ w ⟨rfl, h⟩; refine ⟨_, rfl, fun a hr => ?_⟩
 obtain ⟨r18, r19, e20, H⟩ := bd2 H
 cases r18 with
 | some S21 =>
  have hc := cells_New_ok0 (H := e20) (h := h)
  refine cl (wn rfl) hr hc ?_; clear hc h
  rintro _ w ⟨Bn22, car23, ccr24, car25, ccr26, rfl, h⟩; refine ⟨_, rfl, fun a hr => ?_⟩
  refine oo [43, 48, 49, 50, 51] [.tuple #[pA Bn22 0, vI r19], pA Bn22 0, vI r19, pA b15 0, pA b15 0] hr fun a hr => ?_
  replace h := h.m3
  refine st1 (wn rfl) hr h 0 (pA Bn22 0) (pts b15 (.cells #[pA Bn22 0, vI 0, vI 0, .slice va0 p0.length vc0, vI 0, .slice none 0 0, vI 0, vI 0, vB false, vI 0, .slice none 0 0, .slice none 0 0, .slice none 0 0, .slice none 0 0] 133)) fun w h => ?_
  refine ln ?_
  refine sr ?_
  refine oo [53, 54, 55, 56] [pA b15 0, pA b15 0, pA b15 0, pA b15 0] hr fun a hr => ?_
  refine ld (wn rfl) hr (pA Bn22 0) (h.cell 0 rfl) fun a hr => ?_
  obtain ⟨r27, r28, S29, e30, H⟩ := bd3 H
  refine oo [58, 59] [.iface 26 (pA Bn22 0), vI g6] hr fun a hr => ?_
  replace h := h.m3.m3.m3
  have hc := frames_New_iface_ok (H := e30) (h := h)
  refine cl (wn rfl) hr hc ?_; clear hc h
  rintro _ w ⟨caq31, ccq32, caq33, ccq34, rfl, h⟩; refine ⟨_, rfl, fun a hr => ?_⟩
  refine oo [52, 61, 62, 63, 64] [.tuple #[ag_T_frames_Table r27, vI r28], ag_T_frames_Table r27, vI r28, pA b15 0, pA b15 1] hr fun a hr => ?_
  replace h := h.m3
  refine stm (wn rfl) hr h 1 (cl_T_frames_Table r27) (pts b15 (.cells #[pA Bn22 0, vI r27.Base, vI r27.Frames, .slice va0 p0.length vc0, vI 0, .slice none 0 0, vI 0, vI 0, vB false, vI 0, .slice none 0 0, .slice none 0 0, .slice none 0 0, .slice none 0 0] 133)) fun w h => ?_
  refine ln ?_
  refine sr ?_
  refine oo [65, 66, 67] [pA b15 0, pA b15 0, pA b15 0] hr fun a hr => ?_
  refine ld (wn rfl) hr (pA Bn22 0) (h.cell 0 rfl) fun a hr => ?_
  obtain ⟨S35, e36, H⟩ := bd1 H
  replace h := h.m3.m3.m3
  have hc := cells_Arena_Watch_ok (H := e36) (h := h)
  refine cl (wn rfl) hr hc ?_; clear hc h
  rintro _ w ⟨caq37, ccq38, caq39, ccq40, rfl, h⟩; refine ⟨_, rfl, fun a hr => ?_⟩
  refine ln ?_
  refine sr ?_
  refine oo [70, 71] [pA b15 0, .agg #[vI 0, vI 0, vI 0, vI 0, vI 0, vI 0, vI 0, vI 0, vI 0, vI 0, vI 0, vB false, vI 0, vI 0, vI 0, vI 0, vB false]] hr fun a hr => ?_
  refine onew (wn rfl) hr h nb (#[vI 0, vI 0, vI 0, vI 0, vI 0, vI 0, vI 0, vI 0, vI 0, vI 0, vI 0, vB false, vI 0, vI 0, vI 0, vI 0, vB false]) 137 fun b41 w a h hr => ?_
  replace h := h.rowN_nil (e := 135) (sz := 1) (own := own_ptr135)
  replace h := h.row_nil (e := 3) (sz := 1) (enc := encZ_i64)
  replace h := h.rowN_nil (e := 31) (sz := 1) (own := own_sl31)
  replace h := h.row_nil (e := 2) (sz := 1) (enc := encZ_i64)
  replace h := h.row_nil (e := 96) (sz := 6) (enc := enc_T_api_Access)
  obtain ⟨S42, e43, H⟩ := bd1 H
  replace h := h.m5.m8.m8.m8.m4.m5.m6.m7.m8.m9
  have hc := frames_join_join_ok (va0_rounds := va0) (vc0_rounds := vc0) (hv0_rounds := (RdRow.up 1 hv0)) (H := e43) (h := h)
  refine cl (wn rfl) hr hc ?_; clear hc h
  rintro _ w ⟨caq44, ccq45, caq46, ccq47, caq48, ccq49, caq50, ccq51, caq52, ccq53, rfl, h⟩; refine ⟨_, rfl, fun a hr => ?_⟩
  refine ln ?_
  obtain ⟨o71, H, hK70⟩ := kd2 H
  refine cut_rule (β := Unit) (fun _ a w => ∃ ca56 : Option Addr, ∃ cc57 : Nat, ∃ ca58 : Option Addr, ∃ cc59 : Nat, ∃ ca60 : Option Addr, ∃ cc61 : Nat, ∃ ca62 : Option Addr, ∃ cc63 : Nat, ∃ ca64 : Option Addr, ∃ cc65 : Nat, ∃ ca66 : Option Addr, ∃ cc67 : Nat, ∃ ca68 : Option Addr, ∃ cc69 : Nat, ∃ S54 : T_frames_join, ∃ S55 : T_cells_Arena, (S54, S55) = o71 ∧ ∃ j, Rep 147 (lk [(4, pA b1 0), (6, vI g6), (9, pA b15 0)] j) a ∧ Fit z (sepL (pts b1 (.cells #[vB false, vI 0, .slice none 0 0, .slice none 0 0, .slice none 0 0, .slice none 0 0] 86) :: ob133 b15 S54 (pA Bn22 0) (.slice va0 p0.length vc0) ca60 cc61 ca62 cc63 ca64 cc65 ca66 cc67 ca68 cc69 :: ob103 Bn22 S55 ca56 cc57 ca58 cc59 :: ro2 ca56 cc57 S55.cell :: ro96 ca58 cc59 S55.log :: rn135 ca60 cc61 S54.live :: ro3 ca62 cc63 S54.run_Holders :: rn31 ca64 cc65 S54.run_Reads :: ro2 ca66 cc67 S54.run_Marks :: ro96 ca68 cc69 S54.run_Log :: L)) w) ?_ ?_
  ·
   refine sr ?_
   refine oo [74, 75, 76] [.slice va1 p1.length vc1, vI ((p1.length : Nat) : Int), vI 0] hr fun a hr => ?_
   refine ln ?_
   refine wp_block ?_
   refine loop_rule (β := Nat) id (fun m a w => ∃ ca74 : Option Addr, ∃ cc75 : Nat, ∃ ca76 : Option Addr, ∃ cc77 : Nat, ∃ ca78 : Option Addr, ∃ cc79 : Nat, ∃ ca80 : Option Addr, ∃ cc81 : Nat, ∃ ca82 : Option Addr, ∃ cc83 : Nat, ∃ ca84 : Option Addr, ∃ cc85 : Nat, ∃ ca86 : Option Addr, ∃ cc87 : Nat, ∃ S72 : T_frames_join, ∃ S73 : T_cells_Arena, ∃ g88 : Int, (frames_Play_l2 K p0 p1 m S72 S73 g88) = some o71 ∧ ∃ j, Rep 147 (lk [(4, pA b1 0), (6, vI g6), (9, pA b15 0), (74, .slice va1 p1.length vc1), (75, vI ((p1.length : Nat) : Int)), (76, vI g88)] j) a ∧ Fit z (sepL (pts b1 (.cells #[vB false, vI 0, .slice none 0 0, .slice none 0 0, .slice none 0 0, .slice none 0 0] 86) :: ob133 b15 S72 (pA Bn22 0) (.slice va0 p0.length vc0) ca78 cc79 ca80 cc81 ca82 cc83 ca84 cc85 ca86 cc87 :: ob103 Bn22 S73 ca74 cc75 ca76 cc77 :: ro2 ca74 cc75 S73.cell :: ro96 ca76 cc77 S73.log :: rn135 ca78 cc79 S72.live :: ro3 ca80 cc81 S72.run_Holders :: rn31 ca82 cc83 S72.run_Reads :: ro2 ca84 cc85 S72.run_Marks :: ro96 ca86 cc87 S72.run_Log :: L)) w) K ⟨caq37, ccq38, caq39, ccq40, caq44, ccq45, caq46, ccq47, caq48, ccq49, caq50, ccq51, caq52, ccq53, S42, S35, 0, H, hr.fj (h.se 10 [9, 0, 6, 7, 8, 1, 2, 3, 4, 5])⟩ ?_
   clear h hr a H; rintro k2 a w ⟨ca74, cc75, ca76, cc77, ca78, cc79, ca80, cc81, ca82, cc83, ca84, cc85, ca86, cc87, S72, S73, g88, H, j, hr, h⟩
   cases k2 with
   | zero => exact absurd H (by simp [frames_Play_l2])
   | succ k2 =>
    rw [frames_Play_l2] at H
    refine sr ?_
    refine o1 hr (vB (decide (g88 < ((p1.length : Nat) : Int)))) fun a hr => ?_
    refine ln ?_
    refine wp_seq ?_
    refine cD hr H (fun c89 H => ?_) fun c89 H => ?_
    ·
     refine wp_skip ?_
     refine then_normal ?_
     refine wp_seq ?_
     refine wp_block ?_
     refine sr ?_
     obtain ⟨c90, H⟩ := gd H
     refine opv (wn rfl) hr (pA (blk va1) (offs va1 + g88.toNat * 1)) (ri_rd (k := .i64) (E := 3) (cc := vc1) rfl (by kernel_rfl) (by kernel_rfl) rfl (by kernel_rfl) (by kernel_rfl) hv1 c90) fun a hr => ?_
     refine ld (wn rfl) hr (vI (at_ p1 g88.toNat)) (hv1.cell c90 (h.dn 10) 0 rfl) fun a hr => ?_
     refine o1 hr (vI (at_ p1 g88.toNat)) fun a hr => ?_
     refine ln ?_
     refine wp_seq ?_
     refine sr ?_
     refine oo [80, 81, 82, 83] [pA b15 0, pA b15 0, pA b15 8, pA b15 8] hr fun a hr => ?_
     refine ld (wn rfl) hr (vB S72.run_Done) ((h.pick 1).cell 8 rfl) fun a hr => ?_
     refine ln ?_
     refine cV hr H (fun c91 H => ?_) fun c91 H => ?_
     ·
      refine wp_exit ?_
      refine then_exit ?_
      refine blk_other (by decide) ?_
      refine then_exit ?_
      refine then_exit ?_
      refine blk_here ?_
      refine then_normal ?_
      exact ⟨(), ca74, cc75, ca76, cc77, ca78, cc79, ca80, cc81, ca82, cc83, ca84, cc85, ca86, cc87, S72, S73, sinj H, hr.fj h⟩
     ·
      refine wp_skip ?_
      refine then_normal ?_
      refine sr ?_
      refine oo [85, 86, 87, 88, 89] [pA b15 0, vI (at_ p1 g88.toNat), pA b15 0, pA b15 0, pA b15 5] hr fun a hr => ?_
      refine ld (wn rfl) hr (.slice ca78 S72.live.length cc79) ((h.pick 1).cell 5 rfl) fun a hr => ?_
      obtain ⟨r92, e93, H⟩ := bd1 H
      refine o1 hr (vI ((S72.live.length : Nat) : Int)) fun a hr => ?_
      have hc := ops_Mod_ok (H := e93) (h := h)
      refine cl (wn rfl) hr hc ?_; clear hc h
      rintro _ w ⟨rfl, h⟩; refine ⟨_, rfl, fun a hr => ?_⟩
      obtain ⟨S94, S95, e96, H⟩ := bd2 H
      replace h := h.m4.m4.m4.m9.m9.m9.m9.m9.m9
      have hc := frames_join_step_ok (va0_rounds := va0) (vc0_rounds := vc0) (hv0_rounds := (RdRow.up 1 hv0)) (H := e96) (h := h)
      refine cl (wn rfl) hr hc ?_; clear hc h
      rintro _ w ⟨caq97, ccq98, caq99, ccq100, caq101, ccq102, caq103, ccq104, caq105, ccq106, caq107, ccq108, caq109, ccq110, rfl, h⟩; refine ⟨_, rfl, fun a hr => ?_⟩
      refine ln ?_
      refine wp_region_lit ?_
      refine oo [94, 95, 96, 97] [pA b15 0, pA b15 0, pA b15 8, pA b15 9] hr fun a hr => ?_
      refine ld (wn rfl) hr (vI S94.run_Steps) (h.cell 9 rfl) fun a hr => ?_
      refine oo [99, 100, 101, 102] [vI (wi (S94.run_Steps + 1)), pA b15 0, pA b15 8, pA b15 9] hr fun a hr => ?_
      refine st1 (wn rfl) hr h 9 (vI (wi (S94.run_Steps + 1))) (pts b15 (.cells #[pA Bn22 0, vI S94.table_Base, vI S94.table_Frames, .slice va0 p0.length vc0, vI S94.round, .slice caq97 S94.live.length ccq98, vI S94.made, vI S94.got, vB S94.run_Done, vI (wi (S94.run_Steps + 1)), .slice caq99 S94.run_Holders.length ccq100, .slice caq101 S94.run_Reads.length ccq102, .slice caq103 S94.run_Marks.length ccq104, .slice caq105 S94.run_Log.length ccq106] 133)) fun w h => ?_
      refine wpList_nil ?_
      refine blk_normal ?_
      refine then_normal ?_
      refine wp_region_lit ?_
      refine oo [103, 76] [vI (wi (g88 + 1)), vI (wi (g88 + 1))] hr fun a hr => ?_
      refine ln ?_
      exact ⟨_, ⟨caq107, ccq108, caq109, ccq110, caq97, ccq98, caq99, ccq100, caq101, ccq102, caq103, ccq104, caq105, ccq106, ({ S94 with run_Steps := wi (S94.run_Steps + 1) }), S95, (wi (g88 + 1)), H, hr.fj (h.se 10 [9, 0, 6, 7, 8, 1, 2, 3, 4, 5])⟩, Nat.lt_succ_self _⟩
    ·
     refine wp_exit ?_
     refine then_exit ?_
     refine then_exit ?_
     refine blk_here ?_
     refine then_normal ?_
     exact ⟨(), ca74, cc75, ca76, cc77, ca78, cc79, ca80, cc81, ca82, cc83, ca84, cc85, ca86, cc87, S72, S73, sinj H, hr.fj h⟩
  clear h hr a; rintro _ a w ⟨ca56, cc57, ca58, cc59, ca60, cc61, ca62, cc63, ca64, cc65, ca66, cc67, ca68, cc69, S54, S55, rfl, j, hr, h⟩
  replace H := kk2 hK70
  refine sr ?_
  refine oo [104, 105, 106] [pA b15 0, pA b15 0, pA b15 0] hr fun a hr => ?_
  refine ld (wn rfl) hr (pA Bn22 0) ((h.pick 1).cell 0 rfl) fun a hr => ?_
  obtain ⟨r111, e112, H⟩ := bd1 H
  replace h := h.m4.m4.m4
  have hc := cells_Arena_Cells_ok (H := e112) (h := h)
  refine cl (wn rfl) hr hc ?_; clear hc h
  rintro _ w ⟨car113, rfl, h⟩; refine ⟨_, rfl, fun a hr => ?_⟩
  refine o1 hr (.slice car113 r111.length r111.length) fun a hr => ?_
  refine ln ?_
  obtain ⟨o118, H, hK117⟩ := kd1 H
  refine cut_rule (β := Unit) (fun _ a w => ∃ ca114 : Option Addr, ∃ cc115 : Nat, ∃ l116 : List Int, l116 = o118 ∧ ∃ j, Rep 147 (lk [(4, pA b1 0), (9, pA b15 0)] j) a ∧ Fit z (sepL (pts b1 (.cells #[vB false, vI 0, .slice none 0 0, .slice none 0 0, .slice none 0 0, .slice none 0 0] 86) :: pts b15 (.cells #[pA Bn22 0, vI S54.table_Base, vI S54.table_Frames, .slice va0 p0.length vc0, vI S54.round, .slice ca60 S54.live.length cc61, vI S54.made, vI S54.got, vB S54.run_Done, vI S54.run_Steps, .slice ca62 S54.run_Holders.length cc63, .slice ca64 S54.run_Reads.length cc65, .slice ca114 l116.length cc115, .slice ca68 S54.run_Log.length cc69] 133) :: ob103 Bn22 S55 ca56 cc57 ca58 cc59 :: ro2 ca56 cc57 S55.cell :: ro96 ca58 cc59 S55.log :: rn135 ca60 cc61 S54.live :: ro3 ca62 cc63 S54.run_Holders :: rn31 ca64 cc65 S54.run_Reads :: ro2 ca114 cc115 l116 :: ro96 ca68 cc69 S54.run_Log :: L)) w) ?_ ?_
  ·
   refine sr ?_
   refine oo [109, 110] [vI g6, vI 0] hr fun a hr => ?_
   refine ln ?_
   refine wp_block ?_
   refine loop_rule (β := Nat) id (fun m a w => ∃ ca119 : Option Addr, ∃ cc120 : Nat, ∃ l121 : List Int, ∃ g122 : Int, (frames_Play_l3 K g6 S54 r111 m l121 g122) = some o118 ∧ ∃ j, Rep 147 (lk [(4, pA b1 0), (9, pA b15 0), (12, .slice car113 r111.length r111.length), (109, vI g6), (110, vI g122)] j) a ∧ Fit z (sepL (pts b1 (.cells #[vB false, vI 0, .slice none 0 0, .slice none 0 0, .slice none 0 0, .slice none 0 0] 86) :: pts b15 (.cells #[pA Bn22 0, vI S54.table_Base, vI S54.table_Frames, .slice va0 p0.length vc0, vI S54.round, .slice ca60 S54.live.length cc61, vI S54.made, vI S54.got, vB S54.run_Done, vI S54.run_Steps, .slice ca62 S54.run_Holders.length cc63, .slice ca64 S54.run_Reads.length cc65, .slice ca119 l121.length cc120, .slice ca68 S54.run_Log.length cc69] 133) :: ob103 Bn22 S55 ca56 cc57 ca58 cc59 :: ro2 ca56 cc57 S55.cell :: ro96 ca58 cc59 S55.log :: rn135 ca60 cc61 S54.live :: ro3 ca62 cc63 S54.run_Holders :: rn31 ca64 cc65 S54.run_Reads :: ro2 ca119 cc120 l121 :: ro96 ca68 cc69 S54.run_Log :: ro2 car113 r111.length r111 :: L)) w) K ⟨ca66, cc67, S54.run_Marks, 0, H, hr.fj (h.se 11 [4, 5, 0, 1, 2, 6, 7, 8, 9, 10, 3])⟩ ?_
   clear h hr a H; rintro k3 a w ⟨ca119, cc120, l121, g122, H, j, hr, h⟩
   cases k3 with
   | zero => exact absurd H (by simp [frames_Play_l3])
   | succ k3 =>
    rw [frames_Play_l3] at H
    refine sr ?_
    refine o1 hr (vB (decide (g122 < g6))) fun a hr => ?_
    refine ln ?_
    refine wp_seq ?_
    refine cD hr H (fun c123 H => ?_) fun c123 H => ?_
    ·
     refine wp_skip ?_
     refine then_normal ?_
     refine wp_seq ?_
     refine wp_block ?_
     refine sr ?_
     refine oo [112, 13] [vI g122, vI g122] hr fun a hr => ?_
     refine ln ?_
     obtain ⟨r124, e125, H⟩ := bd1 H
     obtain ⟨c126, H⟩ := gd H
     obtain ⟨c130, H⟩ := gd H
     refine regL [(b15, 12, [.slice ca119 l121.length cc120]), (b15, 1, [vI S54.table_Base, vI S54.table_Frames]), (blk car113, r124.toNat * 1, [vI (at_ r111 r124.toNat)])] [2, 3, 4, 8, 9, 12, 13] 21 h (fun h => ⟨⟨(h.pick 1).cell 12 rfl, trivial⟩, ((h.pick 1).held 1 rfl), ⟨(h.pick 10).row_cell encZ_i64_ok (f := 0) (at_ok c126) rfl, trivial⟩, trivial⟩) fun w h hd => ?_
     refine evs' hd 11 [(0, 113, pA b15 0), (1, 114, pA b15 0), (2, 115, pA b15 0), (3, 116, pA b15 8), (4, 117, pA b15 12), (6, 119, .slice car113 r111.length r111.length), (7, 120, pA b15 0), (8, 121, pA b15 0), (9, 122, pA b15 1), (11, 124, vI g122)] hr fun a hr => ?_
     refine elx hd 0 10 5 hr (wn rfl) rfl rfl fun a hr => ?_
     refine elm hd 1 9 10 hr (wn rfl) rfl rfl fun a hr => ?_
     refine eo1 12 rfl ?_
     have hc := frames_Table__mark_ok (H := e125) (h := h)
     refine cl (wn rfl) hr hc ?_; clear hc h
     rintro _ w ⟨rfl, h⟩; refine ⟨_, rfl, fun a hr => ?_⟩
     refine ln ?_
     refine eE ⟨⟨(h.pick 1).cell 12 rfl, trivial⟩, ((h.pick 1).held 1 rfl), ⟨(h.pick 10).row_cell encZ_i64_ok (f := 0) (at_ok c126) rfl, trivial⟩, trivial⟩ fun hd => ?_
     refine eon hd 7 13 rfl (wn rfl) hr (pA (blk car113) (r124.toNat * 1)) (hrun := fun w => ri_row (k := .i64) (E := 2) rfl (by kernel_rfl) (by kernel_rfl) (by kernel_rfl) (by kernel_rfl) (h.pick 10) c126) fun a hr => ?_
     refine elx hd 2 6 14 hr (wn rfl) rfl rfl fun a hr => ?_
     refine eo1 15 rfl ?_
     refine onew (wn rfl) hr h (fun b => .slice (some ⟨b, 0, none⟩) 1 1) (#[vI (at_ r111 r124.toNat)]) 2 fun b127 w a h hr => ?_
     refine ln ?_
     refine xE ?_
     refine eo1 16 rfl ?_
     replace h := h.m9
     refine op_append (n0 := l121.length) (c := 1) (bytes := 8) (wn rfl) rfl rfl hr rfl (by kernel_rfl) (by kernel_rfl) encZ_i64_ok (E := 2) (xs := l121) (by kernel_rfl) (by kernel_rfl) h (news := [(at_ r111 r124.toNat)]) (m := 1) rfl ((h.pick 1).news rfl) c130 rfl fun ca128 cc129 w a h hr => ?_
     refine ln ?_
     refine xE ?_
     refine evs 3 17 rfl (wn rfl) hr (pA b15 0) fun a hr => ?_
     refine evs 2 18 rfl (wn rfl) hr (pA b15 8) fun a hr => ?_
     refine evs 1 19 rfl (wn rfl) hr (pA b15 12) fun a hr => ?_
     refine eo1 20 rfl ?_
     replace h := h.m3
     refine st1 (wn rfl) hr h 12 (.slice ca128 (l121 ++ [(at_ r111 r124.toNat)]).length cc129) (pts b15 (.cells #[pA Bn22 0, vI S54.table_Base, vI S54.table_Frames, .slice va0 p0.length vc0, vI S54.round, .slice ca60 S54.live.length cc61, vI S54.made, vI S54.got, vB S54.run_Done, vI S54.run_Steps, .slice ca62 S54.run_Holders.length cc63, .slice ca64 S54.run_Reads.length cc65, .slice ca128 (l121 ++ [(at_ r111 r124.toNat)]).length cc129, .slice ca68 S54.run_Log.length cc69] 133)) fun w h => ?_
     refine ln ?_
     refine xE ?_
     refine een ?_
     refine blk_normal ?_
     refine then_normal ?_
     refine wp_region_lit ?_
     refine oo [133, 110] [vI (wi (g122 + 1)), vI (wi (g122 + 1))] hr fun a hr => ?_
     refine ln ?_
     exact ⟨_, ⟨ca128, cc129, (l121 ++ [(at_ r111 r124.toNat)]), (wi (g122 + 1)), H, hr.fj (h.se 12 [3, 0, 4, 5, 6, 7, 8, 9, 1, 10, 11])⟩, Nat.lt_succ_self _⟩
    ·
     refine wp_exit ?_
     refine then_exit ?_
     refine then_exit ?_
     refine blk_here ?_
     refine then_normal ?_
     exact ⟨(), ca119, cc120, l121, sinj H, hr.fj (h.se 11 [0, 1, 2, 3, 4, 5, 6, 7, 8, 9])⟩
  clear h hr a; rintro _ a w ⟨ca114, cc115, l116, rfl, j, hr, h⟩
  replace H := kk1 hK117
  refine sr ?_
  refine oo [134, 135, 136, 137] [pA b15 0, pA b15 0, pA b15 0, pA b15 0] hr fun a hr => ?_
  refine ld (wn rfl) hr (pA Bn22 0) ((h.pick 1).cell 0 rfl) fun a hr => ?_
  obtain ⟨r131, e132, H⟩ := bd1 H
  replace h := h.m4.m4.m4
  have hc := cells_Arena_Log_ok (H := e132) (h := h)
  refine cl (wn rfl) hr hc ?_; clear hc h
  rintro _ w ⟨car133, rfl, h⟩; refine ⟨_, rfl, fun a hr => ?_⟩
  refine oo [140, 141, 142] [pA b15 0, pA b15 8, pA b15 13] hr fun a hr => ?_
  replace h := h.m5
  refine st1 (wn rfl) hr h 13 (.slice car133 r131.length r131.length) (pts b15 (.cells #[pA Bn22 0, vI S54.table_Base, vI S54.table_Frames, .slice va0 p0.length vc0, vI S54.round, .slice ca60 S54.live.length cc61, vI S54.made, vI S54.got, vB S54.run_Done, vI S54.run_Steps, .slice ca62 S54.run_Holders.length cc63, .slice ca64 S54.run_Reads.length cc65, .slice ca114 l116.length cc115, .slice car133 r131.length r131.length] 133)) fun w h => ?_
  refine ln ?_
  refine sr ?_
  refine oo [143, 144, 145] [pA b15 0, pA b15 0, pA b15 8] hr fun a hr => ?_
  refine ldm (wn rfl) hr (.agg #[vB S54.run_Done, vI S54.run_Steps, .slice ca62 S54.run_Holders.length cc63, .slice ca64 S54.run_Reads.length cc65, .slice ca114 l116.length cc115, .slice car133 r131.length r131.length]) (cs := [vB S54.run_Done, vI S54.run_Steps, .slice ca62 S54.run_Holders.length cc63, .slice ca64 S54.run_Reads.length cc65, .slice ca114 l116.length cc115, .slice car133 r131.length r131.length]) (h.held 8 rfl) fun a hr => ?_
  replace h := h.m5
  refine stm (wn rfl) hr h 0 ([vB S54.run_Done, vI S54.run_Steps, .slice ca62 S54.run_Holders.length cc63, .slice ca64 S54.run_Reads.length cc65, .slice ca114 l116.length cc115, .slice car133 r131.length r131.length]) (pts b1 (.cells #[vB S54.run_Done, vI S54.run_Steps, .slice ca62 S54.run_Holders.length cc63, .slice ca64 S54.run_Reads.length cc65, .slice ca114 l116.length cc115, .slice car133 r131.length r131.length] 86)) fun w h => ?_
  refine o1 hr (vI 0) fun a hr => ?_
  refine ln ?_
  refine wp_ret ?_
  refine end_retCT (cs := [vB S54.run_Done, vI S54.run_Steps, .slice ca62 S54.run_Holders.length cc63, .slice ca64 S54.run_Reads.length cc65, .slice ca114 l116.length cc115, .slice car133 r131.length r131.length]) (v := vI 0) rfl hr (by kernel_rfl) (by kernel_rfl) (by kernel_rfl) (by kernel_rfl) (h.held 0 rfl) ?_
  obtain ⟨rfl, rfl⟩ := ej2 H
  exact ⟨ca62, cc63, ca64, cc65, ca114, cc115, car133, rfl, h.se 11 [7, 8, 9, 5]⟩
 | none =>
  cases H

def plunderlaw8_sameInts_l1 (K : Nat) (p0 : List Int) (p1 : List Int) : Nat → Int → Option (Bool)
  | 0, _ => none
  | k1 + 1, g2 => (if g2 < ((p0.length : Nat) : Int) then if inr_ g2 p0.length then if inr_ g2 p1.length then (if (at_ p0 g2.toNat) = (at_ p1 g2.toNat) then (plunderlaw8_sameInts_l1 K p0 p1 k1 (wi (g2 + 1))) else some false) else none else none else some true)
/-- plunder/plunderlaw8.sameInts -/
def plunderlaw8_sameInts (K : Nat) (p0 : List Int) (p1 : List Int) : Option (Bool) :=
  (if ((p0.length : Nat) : Int) = ((p1.length : Nat) : Int) then (plunderlaw8_sameInts_l1 K p0 p1 K 0) else some false)

theorem plunderlaw8_sameInts_ok {z w : World} {L : List HProp} {K : Nat} {p0 p1 : List Int} {va0 va1 : Option Addr} {vc0 vc1 : Nat} {r0 : Bool} (H : plunderlaw8_sameInts K p0 p1 = some r0) (h : Fit z (sepL (L)) w) (hv0 : RdRow L 1 encZ_i64 va0 p0) (hv1 : RdRow L 1 encZ_i64 va1 p1) :
    Calls Try.prog 78 #[.slice va0 p0.length vc0, .slice va1 p1.length vc1] w fun e w => e = .returned (vB r0) ∧ Fit z (sepL (L)) w := by
 unfold plunderlaw8_sameInts at H
 refine enter Try.func78 rfl 26 rfl rfl [(0, .slice va0 p0.length vc0), (1, .slice va1 p1.length vc1)] ⟨rfl, rfl, trivial⟩ ?_
 intro j a hr
 refine sr ?_
 refine o1 hr (vB false) fun a hr => ?_
 refine ln ?_
 refine wp_seq ?_
 refine sr ?_
 refine oo [6, 7, 8, 9, 10] [.slice va0 p0.length vc0, vI ((p0.length : Nat) : Int), .slice va1 p1.length vc1, vI ((p1.length : Nat) : Int), vB (((p0.length : Nat) : Int) != ((p1.length : Nat) : Int))] hr fun a hr => ?_
 refine ln ?_
 refine cN hr H (fun c1 H => ?_) fun c1 H => ?_
 ·
  refine wp_skip ?_
  refine then_normal ?_
  refine wp_seq ?_
  refine sr ?_
  refine o1 hr (vI 0) fun a hr => ?_
  refine ln ?_
  refine wp_block ?_
  refine loop_rule (β := Nat) id (fun m a w => ∃ g2 : Int, (plunderlaw8_sameInts_l1 K p0 p1 m g2) = some r0 ∧ ∃ j, Rep 26 (lk [(0, .slice va0 p0.length vc0), (1, .slice va1 p1.length vc1), (5, vI g2)] j) a ∧ Fit z (sepL (L)) w) K ⟨0, H, hr.fj h⟩ ?_
  clear h hr a H; rintro k1 a w ⟨g2, H, j, hr, h⟩
  cases k1 with
  | zero => exact absurd H (by simp [plunderlaw8_sameInts_l1])
  | succ k1 =>
   rw [plunderlaw8_sameInts_l1] at H
   refine wp_seq ?_
   refine sr ?_
   refine oo [11, 12, 13, 14] [vI g2, .slice va0 p0.length vc0, vI ((p0.length : Nat) : Int), vB (decide (g2 < ((p0.length : Nat) : Int)))] hr fun a hr => ?_
   refine ln ?_
   refine cD hr H (fun c3 H => ?_) fun c3 H => ?_
   ·
    refine wp_skip ?_
    refine then_normal ?_
    refine wp_seq ?_
    refine wp_block ?_
    refine wp_seq ?_
    obtain ⟨c4, H⟩ := gd H
    obtain ⟨c5, H⟩ := gd H
    refine regL [(blk va0, offs va0 + g2.toNat * 1, [vI (at_ p0 g2.toNat)]), (blk va1, offs va1 + g2.toNat * 1, [vI (at_ p1 g2.toNat)])] [2, 6] 9 h (fun h => ⟨⟨hv0.cell c4 (h.dn 0) 0 rfl, trivial⟩, ⟨hv1.cell c5 (h.dn 0) 0 rfl, trivial⟩, trivial⟩) fun w h hd => ?_
    refine evs' hd 7 [(0, 17, .slice va0 p0.length vc0), (1, 18, vI g2)] hr fun a hr => ?_
    refine eon hd 6 2 rfl (wn rfl) hr (pA (blk va0) (offs va0 + g2.toNat * 1)) (hrun := fun w => ri_rd (k := .i64) (E := 3) (cc := vc0) rfl (by kernel_rfl) (by kernel_rfl) rfl (by kernel_rfl) (by kernel_rfl) hv0 c4) fun a hr => ?_
    refine evs' hd 4 [(4, 21, .slice va1 p1.length vc1), (5, 22, vI g2)] hr fun a hr => ?_
    refine eon hd 3 6 rfl (wn rfl) hr (pA (blk va1) (offs va1 + g2.toNat * 1)) (hrun := fun w => ri_rd (k := .i64) (E := 3) (cc := vc1) rfl (by kernel_rfl) (by kernel_rfl) rfl (by kernel_rfl) (by kernel_rfl) hv1 c5) fun a hr => ?_
    refine elx hd 0 2 3 hr (wn rfl) rfl rfl fun a hr => ?_
    refine elx hd 1 1 7 hr (wn rfl) rfl rfl fun a hr => ?_
    refine evs' hd 0 [(8, 25, vB ((at_ p0 g2.toNat) != (at_ p1 g2.toNat)))] hr fun a hr => ?_
    refine een ?_
    refine then_normal ?_
    refine cN hr H (fun c6 H => ?_) fun c6 H => ?_
    ·
     refine wp_skip ?_
     refine blk_normal ?_
     refine then_normal ?_
     refine wp_region_lit ?_
     refine oo [15, 16, 5] [vI g2, vI (wi (g2 + 1)), vI (wi (g2 + 1))] hr fun a hr => ?_
     refine ln ?_
     exact ⟨_, ⟨(wi (g2 + 1)), H, hr.fj h⟩, Nat.lt_succ_self _⟩
    ·
     refine sr ?_
     refine o1 hr (vB false) fun a hr => ?_
     refine ln ?_
     refine wp_ret ?_
     refine blk_ret ?_
     refine then_ret ?_
     refine then_ret ?_
     refine blk_ret ?_
     refine then_ret ?_
     refine end_ret1 (v := vB false) rfl hr (by kernel_rfl) ?_
     replace H := ej1 H; subst H
     exact ⟨rfl, h⟩
   ·
    refine wp_exit ?_
    refine then_exit ?_
    refine then_exit ?_
    refine blk_here ?_
    refine then_normal ?_
    refine sr ?_
    refine o1 hr (vB true) fun a hr => ?_
    refine ln ?_
    refine wp_ret ?_
    refine end_ret1 (v := vB true) rfl hr (by kernel_rfl) ?_
    replace H := ej1 H; subst H
    exact ⟨rfl, h⟩
 ·
  refine sr ?_
  refine o1 hr (vB false) fun a hr => ?_
  refine ln ?_
  refine wp_ret ?_
  refine then_ret ?_
  refine end_ret1 (v := vB false) rfl hr (by kernel_rfl) ?_
  replace H := ej1 H; subst H
  exact ⟨rfl, h⟩

def plunderlaw8_sameNumbers_l1 (K : Nat) (p0 : List Int) (p1 : List Int) : Nat → Int → Option (Bool)
  | 0, _ => none
  | k1 + 1, g2 => (if g2 < ((p0.length : Nat) : Int) then if inr_ g2 p0.length then if inr_ g2 p1.length then (if (at_ p0 g2.toNat) = (at_ p1 g2.toNat) then (plunderlaw8_sameNumbers_l1 K p0 p1 k1 (wi (g2 + 1))) else some false) else none else none else some true)
/-- plunder/plunderlaw8.sameNumbers -/
def plunderlaw8_sameNumbers (K : Nat) (p0 : List Int) (p1 : List Int) : Option (Bool) :=
  (if ((p0.length : Nat) : Int) = ((p1.length : Nat) : Int) then (plunderlaw8_sameNumbers_l1 K p0 p1 K 0) else some false)

theorem plunderlaw8_sameNumbers_ok {z w : World} {L : List HProp} {K : Nat} {p0 p1 : List Int} {va0 va1 : Option Addr} {vc0 vc1 : Nat} {r0 : Bool} (H : plunderlaw8_sameNumbers K p0 p1 = some r0) (h : Fit z (sepL (L)) w) (hv0 : RdRow L 1 encZ_i64 va0 p0) (hv1 : RdRow L 1 encZ_i64 va1 p1) :
    Calls Try.prog 20 #[.slice va0 p0.length vc0, .slice va1 p1.length vc1] w fun e w => e = .returned (vB r0) ∧ Fit z (sepL (L)) w := by
 unfold plunderlaw8_sameNumbers at H
 refine enter Try.func20 rfl 26 rfl rfl [(0, .slice va0 p0.length vc0), (1, .slice va1 p1.length vc1)] ⟨rfl, rfl, trivial⟩ ?_
 intro j a hr
 refine sr ?_
 refine o1 hr (vB false) fun a hr => ?_
 refine ln ?_
 refine wp_seq ?_
 refine sr ?_
 refine oo [6, 7, 8, 9, 10] [.slice va0 p0.length vc0, vI ((p0.length : Nat) : Int), .slice va1 p1.length vc1, vI ((p1.length : Nat) : Int), vB (((p0.length : Nat) : Int) != ((p1.length : Nat) : Int))] hr fun a hr => ?_
 refine ln ?_
 refine cN hr H (fun c1 H => ?_) fun c1 H => ?_
 ·
  refine wp_skip ?_
  refine then_normal ?_
  refine wp_seq ?_
  refine sr ?_
  refine o1 hr (vI 0) fun a hr => ?_
  refine ln ?_
  refine wp_block ?_
  refine loop_rule (β := Nat) id (fun m a w => ∃ g2 : Int, (plunderlaw8_sameNumbers_l1 K p0 p1 m g2) = some r0 ∧ ∃ j, Rep 26 (lk [(0, .slice va0 p0.length vc0), (1, .slice va1 p1.length vc1), (5, vI g2)] j) a ∧ Fit z (sepL (L)) w) K ⟨0, H, hr.fj h⟩ ?_
  clear h hr a H; rintro k1 a w ⟨g2, H, j, hr, h⟩
  cases k1 with
  | zero => exact absurd H (by simp [plunderlaw8_sameNumbers_l1])
  | succ k1 =>
   rw [plunderlaw8_sameNumbers_l1] at H
   refine wp_seq ?_
   refine sr ?_
   refine oo [11, 12, 13, 14] [vI g2, .slice va0 p0.length vc0, vI ((p0.length : Nat) : Int), vB (decide (g2 < ((p0.length : Nat) : Int)))] hr fun a hr => ?_
   refine ln ?_
   refine cD hr H (fun c3 H => ?_) fun c3 H => ?_
   ·
    refine wp_skip ?_
    refine then_normal ?_
    refine wp_seq ?_
    refine wp_block ?_
    refine wp_seq ?_
    obtain ⟨c4, H⟩ := gd H
    obtain ⟨c5, H⟩ := gd H
    refine regL [(blk va0, offs va0 + g2.toNat * 1, [vI (at_ p0 g2.toNat)]), (blk va1, offs va1 + g2.toNat * 1, [vI (at_ p1 g2.toNat)])] [2, 6] 9 h (fun h => ⟨⟨hv0.cell c4 (h.dn 0) 0 rfl, trivial⟩, ⟨hv1.cell c5 (h.dn 0) 0 rfl, trivial⟩, trivial⟩) fun w h hd => ?_
    refine evs' hd 7 [(0, 17, .slice va0 p0.length vc0), (1, 18, vI g2)] hr fun a hr => ?_
    refine eon hd 6 2 rfl (wn rfl) hr (pA (blk va0) (offs va0 + g2.toNat * 1)) (hrun := fun w => ri_rd (k := .i64) (E := 2) (cc := vc0) rfl (by kernel_rfl) (by kernel_rfl) rfl (by kernel_rfl) (by kernel_rfl) hv0 c4) fun a hr => ?_
    refine evs' hd 4 [(4, 21, .slice va1 p1.length vc1), (5, 22, vI g2)] hr fun a hr => ?_
    refine eon hd 3 6 rfl (wn rfl) hr (pA (blk va1) (offs va1 + g2.toNat * 1)) (hrun := fun w => ri_rd (k := .i64) (E := 2) (cc := vc1) rfl (by kernel_rfl) (by kernel_rfl) rfl (by kernel_rfl) (by kernel_rfl) hv1 c5) fun a hr => ?_
    refine elx hd 0 2 3 hr (wn rfl) rfl rfl fun a hr => ?_
    refine elx hd 1 1 7 hr (wn rfl) rfl rfl fun a hr => ?_
    refine evs' hd 0 [(8, 25, vB ((at_ p0 g2.toNat) != (at_ p1 g2.toNat)))] hr fun a hr => ?_
    refine een ?_
    refine then_normal ?_
    refine cN hr H (fun c6 H => ?_) fun c6 H => ?_
    ·
     refine wp_skip ?_
     refine blk_normal ?_
     refine then_normal ?_
     refine wp_region_lit ?_
     refine oo [15, 16, 5] [vI g2, vI (wi (g2 + 1)), vI (wi (g2 + 1))] hr fun a hr => ?_
     refine ln ?_
     exact ⟨_, ⟨(wi (g2 + 1)), H, hr.fj h⟩, Nat.lt_succ_self _⟩
    ·
     refine sr ?_
     refine o1 hr (vB false) fun a hr => ?_
     refine ln ?_
     refine wp_ret ?_
     refine blk_ret ?_
     refine then_ret ?_
     refine then_ret ?_
     refine blk_ret ?_
     refine then_ret ?_
     refine end_ret1 (v := vB false) rfl hr (by kernel_rfl) ?_
     replace H := ej1 H; subst H
     exact ⟨rfl, h⟩
   ·
    refine wp_exit ?_
    refine then_exit ?_
    refine then_exit ?_
    refine blk_here ?_
    refine then_normal ?_
    refine sr ?_
    refine o1 hr (vB true) fun a hr => ?_
    refine ln ?_
    refine wp_ret ?_
    refine end_ret1 (v := vB true) rfl hr (by kernel_rfl) ?_
    replace H := ej1 H; subst H
    exact ⟨rfl, h⟩
 ·
  refine sr ?_
  refine o1 hr (vB false) fun a hr => ?_
  refine ln ?_
  refine wp_ret ?_
  refine then_ret ?_
  refine end_ret1 (v := vB false) rfl hr (by kernel_rfl) ?_
  replace H := ej1 H; subst H
  exact ⟨rfl, h⟩

def plunderlaw8_sameReads_l1 (K : Nat) (p0 : List (List Int)) (p1 : List (List Int)) : Nat → Int → Option (Bool)
  | 0, _ => none
  | k1 + 1, g6 => (if g6 < ((p0.length : Nat) : Int) then if inr_ g6 p0.length then if inr_ g6 p1.length then ob1 (plunderlaw8_sameNumbers K (at_ p0 g6.toNat) (at_ p1 g6.toNat)) (fun r18 => (if r18 = true then (plunderlaw8_sameReads_l1 K p0 p1 k1 (wi (g6 + 1))) else some false)) else none else none else some true)
/-- plunder/plunderlaw8.sameReads -/
def plunderlaw8_sameReads (K : Nat) (p0 : List (List Int)) (p1 : List (List Int)) : Option (Bool) :=
  (if ((p0.length : Nat) : Int) = ((p1.length : Nat) : Int) then (plunderlaw8_sameReads_l1 K p0 p1 K 0) else some false)

theorem plunderlaw8_sameReads_ok {z w : World} {L : List HProp} {K : Nat} {p0 p1 : List (List Int)} {ca1 ca3 : Option Addr} {cc2 cc4 : Nat} {r0 : Bool} (H : plunderlaw8_sameReads K p0 p1 = some r0) (h : Fit z (sepL (rn31 ca1 cc2 p0 :: rn31 ca3 cc4 p1 :: L)) w)  :
    Calls Try.prog 52 #[.slice ca1 p0.length cc2, .slice ca3 p1.length cc4] w fun e w => e = .returned (vB r0) ∧ Fit z (sepL (rn31 ca1 cc2 p0 :: rn31 ca3 cc4 p1 :: L)) w := by
 unfold plunderlaw8_sameReads at H
 refine enter Try.func52 rfl 27 rfl rfl [(0, .slice ca1 p0.length cc2), (1, .slice ca3 p1.length cc4)] ⟨rfl, rfl, trivial⟩ ?_
 intro j a hr
 refine sr ?_
 refine o1 hr (vB false) fun a hr => ?_
 refine ln ?_
 refine wp_seq ?_
 refine sr ?_
 refine oo [6, 7, 8, 9, 10] [.slice ca1 p0.length cc2, vI ((p0.length : Nat) : Int), .slice ca3 p1.length cc4, vI ((p1.length : Nat) : Int), vB (((p0.length : Nat) : Int) != ((p1.length : Nat) : Int))] hr fun a hr => ?_
 refine ln ?_
 refine cN hr H (fun c5 H => ?_) fun c5 H => ?_
 ·
  refine wp_skip ?_
  refine then_normal ?_
  refine wp_seq ?_
  refine sr ?_
  refine o1 hr (vI 0) fun a hr => ?_
  refine ln ?_
  refine wp_block ?_
  refine loop_rule (β := Nat) id (fun m a w => ∃ g6 : Int, (plunderlaw8_sameReads_l1 K p0 p1 m g6) = some r0 ∧ ∃ j, Rep 27 (lk [(0, .slice ca1 p0.length cc2), (1, .slice ca3 p1.length cc4), (5, vI g6)] j) a ∧ Fit z (sepL (rn31 ca1 cc2 p0 :: rn31 ca3 cc4 p1 :: L)) w) K ⟨0, H, hr.fj h⟩ ?_
  clear h hr a H; rintro k1 a w ⟨g6, H, j, hr, h⟩
  cases k1 with
  | zero => exact absurd H (by simp [plunderlaw8_sameReads_l1])
  | succ k1 =>
   rw [plunderlaw8_sameReads_l1] at H
   refine wp_seq ?_
   refine sr ?_
   refine oo [11, 12, 13, 14] [vI g6, .slice ca1 p0.length cc2, vI ((p0.length : Nat) : Int), vB (decide (g6 < ((p0.length : Nat) : Int)))] hr fun a hr => ?_
   refine ln ?_
   refine cD hr H (fun c7 H => ?_) fun c7 H => ?_
   ·
    refine wp_skip ?_
    refine then_normal ?_
    refine wp_seq ?_
    refine wp_block ?_
    refine wp_seq ?_
    obtain ⟨c8, H⟩ := gd H
    obtain ⟨cs12, h⟩ := h.rowN_take (at_ok c8)
    obtain ⟨ca9, cc10, e11, h⟩ := own_sl31_op (h.m1); subst e11
    obtain ⟨c13, H⟩ := gd H
    obtain ⟨cs17, h⟩ := h.m2.rowN_take (at_ok c13)
    obtain ⟨ca14, cc15, e16, h⟩ := own_sl31_op (h.m1); subst e16
    obtain ⟨r18, e19, H⟩ := bd1 H
    refine regL [(blk ca1, g6.toNat * 1, [.slice ca9 (at_ p0 g6.toNat).length cc10]), (blk ca3, g6.toNat * 1, [.slice ca14 (at_ p1 g6.toNat).length cc15])] [2, 6] 10 h (fun h => ⟨⟨(h.pick 3).rowH_cell (by decide) (f := 0) rfl, trivial⟩, ⟨(h.pick 1).rowH_cell (by decide) (f := 0) rfl, trivial⟩, trivial⟩) fun w h hd => ?_
    refine evs' hd 8 [(0, 17, .slice ca1 p0.length cc2), (1, 18, vI g6)] hr fun a hr => ?_
    refine eon hd 7 2 rfl (wn rfl) hr (pA (blk ca1) (g6.toNat * 1)) (hrun := fun w => ri_rowH (k := .i64) (E := 31) rfl (by kernel_rfl) (by kernel_rfl) (by kernel_rfl) (by kernel_rfl) (h.pick 3) c8) fun a hr => ?_
    refine evs' hd 5 [(4, 21, .slice ca3 p1.length cc4), (5, 22, vI g6)] hr fun a hr => ?_
    refine eon hd 4 6 rfl (wn rfl) hr (pA (blk ca3) (g6.toNat * 1)) (hrun := fun w => ri_rowH (k := .i64) (E := 31) rfl (by kernel_rfl) (by kernel_rfl) (by kernel_rfl) (by kernel_rfl) (h.pick 1) c13) fun a hr => ?_
    refine elx hd 0 3 3 hr (wn rfl) rfl rfl fun a hr => ?_
    refine elx hd 1 2 7 hr (wn rfl) rfl rfl fun a hr => ?_
    refine eo1 8 rfl ?_
    have hc := plunderlaw8_sameNumbers_ok (va0 := ca9) (vc0 := cc10) (va1 := ca14) (vc1 := cc15) (hv0 := (RdRow.of_row encZ_i64_ok (h.pick 2) (fun h => (h.pick 2)))) (hv1 := (RdRow.of_row encZ_i64_ok h (fun h => h))) (H := e19) (h := h)
    refine cl (wn rfl) hr hc ?_; clear hc h
    rintro _ w ⟨rfl, h⟩; refine ⟨_, rfl, fun a hr => ?_⟩
    refine ln ?_
    refine xE ?_
    refine evs 0 9 rfl (wn rfl) hr (vB (!r18)) fun a hr => ?_
    refine een ?_
    refine then_normal ?_
    refine cM hr H (fun c20 H => ?_) fun c20 H => ?_
    ·
     refine wp_skip ?_
     refine blk_normal ?_
     refine then_normal ?_
     refine wp_region_lit ?_
     refine oo [15, 16, 5] [vI g6, vI (wi (g6 + 1)), vI (wi (g6 + 1))] hr fun a hr => ?_
     refine ln ?_
     replace h := own_sl31_sh (x := (at_ p1 g6.toNat)) h
     replace h := (h.m1).rowH_same
     replace h := h.m2.m2
     replace h := own_sl31_sh (x := (at_ p0 g6.toNat)) h
     replace h := (h.m1).rowH_same
     exact ⟨_, ⟨(wi (g6 + 1)), H, hr.fj h⟩, Nat.lt_succ_self _⟩
    ·
     refine sr ?_
     refine o1 hr (vB false) fun a hr => ?_
     refine ln ?_
     refine wp_ret ?_
     refine blk_ret ?_
     refine then_ret ?_
     refine then_ret ?_
     refine blk_ret ?_
     refine then_ret ?_
     refine end_ret1 (v := vB false) rfl hr (by kernel_rfl) ?_
     replace h := own_sl31_sh (x := (at_ p1 g6.toNat)) h
     replace h := (h.m1).rowH_same
     replace h := h.m2.m2
     replace h := own_sl31_sh (x := (at_ p0 g6.toNat)) h
     replace h := (h.m1).rowH_same
     replace H := ej1 H; subst H
     exact ⟨rfl, h⟩
   ·
    refine wp_exit ?_
    refine then_exit ?_
    refine then_exit ?_
    refine blk_here ?_
    refine then_normal ?_
    refine sr ?_
    refine o1 hr (vB true) fun a hr => ?_
    refine ln ?_
    refine wp_ret ?_
    refine end_ret1 (v := vB true) rfl hr (by kernel_rfl) ?_
    replace H := ej1 H; subst H
    exact ⟨rfl, h⟩
 ·
  refine sr ?_
  refine o1 hr (vB false) fun a hr => ?_
  refine ln ?_
  refine wp_ret ?_
  refine then_ret ?_
  refine end_ret1 (v := vB false) rfl hr (by kernel_rfl) ?_
  replace H := ej1 H; subst H
  exact ⟨rfl, h⟩

def plunderlaw8_sameLog_l1 (K : Nat) (p0 : List T_api_Access) (p1 : List T_api_Access) : Nat → Int → Option (Bool)
  | 0, _ => none
  | k1 + 1, g2 => (if g2 < ((p0.length : Nat) : Int) then if inr_ g2 p0.length then if inr_ g2 p1.length then (if at_ p0 g2.toNat = at_ p1 g2.toNat then (plunderlaw8_sameLog_l1 K p0 p1 k1 (wi (g2 + 1))) else some false) else none else none else some true)
/-- plunder/plunderlaw8.sameLog -/
def plunderlaw8_sameLog (K : Nat) (p0 : List T_api_Access) (p1 : List T_api_Access) : Option (Bool) :=
  (if ((p0.length : Nat) : Int) = ((p1.length : Nat) : Int) then (plunderlaw8_sameLog_l1 K p0 p1 K 0) else some false)

theorem plunderlaw8_sameLog_ok {z w : World} {L : List HProp} {K : Nat} {p0 p1 : List T_api_Access} {va0 va1 : Option Addr} {vc0 vc1 : Nat} {r0 : Bool} (H : plunderlaw8_sameLog K p0 p1 = some r0) (h : Fit z (sepL (L)) w) (hv0 : RdRow L 6 enc_T_api_Access va0 p0) (hv1 : RdRow L 6 enc_T_api_Access va1 p1) :
    Calls Try.prog 23 #[.slice va0 p0.length vc0, .slice va1 p1.length vc1] w fun e w => e = .returned (vB r0) ∧ Fit z (sepL (L)) w := by
 unfold plunderlaw8_sameLog at H
 refine enter Try.func23 rfl 26 rfl rfl [(0, .slice va0 p0.length vc0), (1, .slice va1 p1.length vc1)] ⟨rfl, rfl, trivial⟩ ?_
 intro j a hr
 refine sr ?_
 refine o1 hr (vB false) fun a hr => ?_
 refine ln ?_
 refine wp_seq ?_
 refine sr ?_
 refine oo [6, 7, 8, 9, 10] [.slice va0 p0.length vc0, vI ((p0.length : Nat) : Int), .slice va1 p1.length vc1, vI ((p1.length : Nat) : Int), vB (((p0.length : Nat) : Int) != ((p1.length : Nat) : Int))] hr fun a hr => ?_
 refine ln ?_
 refine cN hr H (fun c1 H => ?_) fun c1 H => ?_
 ·
  refine wp_skip ?_
  refine then_normal ?_
  refine wp_seq ?_
  refine sr ?_
  refine o1 hr (vI 0) fun a hr => ?_
  refine ln ?_
  refine wp_block ?_
  refine loop_rule (β := Nat) id (fun m a w => ∃ g2 : Int, (plunderlaw8_sameLog_l1 K p0 p1 m g2) = some r0 ∧ ∃ j, Rep 26 (lk [(0, .slice va0 p0.length vc0), (1, .slice va1 p1.length vc1), (5, vI g2)] j) a ∧ Fit z (sepL (L)) w) K ⟨0, H, hr.fj h⟩ ?_
  clear h hr a H; rintro k1 a w ⟨g2, H, j, hr, h⟩
  cases k1 with
  | zero => exact absurd H (by simp [plunderlaw8_sameLog_l1])
  | succ k1 =>
   rw [plunderlaw8_sameLog_l1] at H
   refine wp_seq ?_
   refine sr ?_
   refine oo [11, 12, 13, 14] [vI g2, .slice va0 p0.length vc0, vI ((p0.length : Nat) : Int), vB (decide (g2 < ((p0.length : Nat) : Int)))] hr fun a hr => ?_
   refine ln ?_
   refine cD hr H (fun c3 H => ?_) fun c3 H => ?_
   ·
    refine wp_skip ?_
    refine then_normal ?_
    refine wp_seq ?_
    refine wp_block ?_
    refine wp_seq ?_
    obtain ⟨c4, H⟩ := gd H
    obtain ⟨c5, H⟩ := gd H
    refine regL [(blk va0, offs va0 + g2.toNat * 6, cl_T_api_Access (at_ p0 g2.toNat)), (blk va1, offs va1 + g2.toNat * 6, cl_T_api_Access (at_ p1 g2.toNat))] [2, 6] 9 h (fun h => ⟨⟨hv0.cell c4 (h.dn 0) 0 rfl, hv0.cell c4 (h.dn 0) 1 rfl, hv0.cell c4 (h.dn 0) 2 rfl, hv0.cell c4 (h.dn 0) 3 rfl, hv0.cell c4 (h.dn 0) 4 rfl, hv0.cell c4 (h.dn 0) 5 rfl, trivial⟩, ⟨hv1.cell c5 (h.dn 0) 0 rfl, hv1.cell c5 (h.dn 0) 1 rfl, hv1.cell c5 (h.dn 0) 2 rfl, hv1.cell c5 (h.dn 0) 3 rfl, hv1.cell c5 (h.dn 0) 4 rfl, hv1.cell c5 (h.dn 0) 5 rfl, trivial⟩, trivial⟩) fun w h hd => ?_
    refine evs' hd 7 [(0, 17, .slice va0 p0.length vc0), (1, 18, vI g2)] hr fun a hr => ?_
    refine eon hd 6 2 rfl (wn rfl) hr (pA (blk va0) (offs va0 + g2.toNat * 6)) (hrun := fun w => ri_rd (k := .i64) (E := 96) (cc := vc0) rfl (by kernel_rfl) (by kernel_rfl) rfl (by kernel_rfl) (by kernel_rfl) hv0 c4) fun a hr => ?_
    refine evs' hd 4 [(4, 21, .slice va1 p1.length vc1), (5, 22, vI g2)] hr fun a hr => ?_
    refine eon hd 3 6 rfl (wn rfl) hr (pA (blk va1) (offs va1 + g2.toNat * 6)) (hrun := fun w => ri_rd (k := .i64) (E := 96) (cc := vc1) rfl (by kernel_rfl) (by kernel_rfl) rfl (by kernel_rfl) (by kernel_rfl) hv1 c5) fun a hr => ?_
    refine elm hd 0 2 3 hr (wn rfl) rfl rfl fun a hr => ?_
    refine elm hd 1 1 7 hr (wn rfl) rfl rfl fun a hr => ?_
    refine eon hd 0 8 rfl (wn rfl) hr (vB (!(decide (at_ p0 g2.toNat = at_ p1 g2.toNat)))) (hrun := fun w => rb (rne rfl (by kernel_rfl) (by kernel_rfl) (by kernel_rfl) (by kernel_rfl) (by kernel_rfl) (by kernel_rfl)) (congrArg (!·) (eq_T_api_Access (at_ p0 g2.toNat) (at_ p1 g2.toNat)))) fun a hr => ?_
    refine een ?_
    refine then_normal ?_
    refine cN hr H (fun c6 H => ?_) fun c6 H => ?_
    ·
     refine wp_skip ?_
     refine blk_normal ?_
     refine then_normal ?_
     refine wp_region_lit ?_
     refine oo [15, 16, 5] [vI g2, vI (wi (g2 + 1)), vI (wi (g2 + 1))] hr fun a hr => ?_
     refine ln ?_
     exact ⟨_, ⟨(wi (g2 + 1)), H, hr.fj h⟩, Nat.lt_succ_self _⟩
    ·
     refine sr ?_
     refine o1 hr (vB false) fun a hr => ?_
     refine ln ?_
     refine wp_ret ?_
     refine blk_ret ?_
     refine then_ret ?_
     refine then_ret ?_
     refine blk_ret ?_
     refine then_ret ?_
     refine end_ret1 (v := vB false) rfl hr (by kernel_rfl) ?_
     replace H := ej1 H; subst H
     exact ⟨rfl, h⟩
   ·
    refine wp_exit ?_
    refine then_exit ?_
    refine then_exit ?_
    refine blk_here ?_
    refine then_normal ?_
    refine sr ?_
    refine o1 hr (vB true) fun a hr => ?_
    refine ln ?_
    refine wp_ret ?_
    refine end_ret1 (v := vB true) rfl hr (by kernel_rfl) ?_
    replace H := ej1 H; subst H
    exact ⟨rfl, h⟩
 ·
  refine sr ?_
  refine o1 hr (vB false) fun a hr => ?_
  refine ln ?_
  refine wp_ret ?_
  refine then_ret ?_
  refine end_ret1 (v := vB false) rfl hr (by kernel_rfl) ?_
  replace H := ej1 H; subst H
  exact ⟨rfl, h⟩

/-- plunder/plunderlaw8.sameRun -/
def plunderlaw8_sameRun (K : Nat) (p0 : T_api_JoinRun) (p1 : T_api_JoinRun) : Option (Bool) :=
  (if p0.Done = p1.Done then (if p0.Steps = p1.Steps then ob1 (plunderlaw8_sameInts K p0.Holders p1.Holders) (fun r21 => (if r21 = true then ob1 (plunderlaw8_sameReads K p0.Reads p1.Reads) (fun r24 => (if r24 = true then ob1 (plunderlaw8_sameNumbers K p0.Marks p1.Marks) (fun r27 => (if r27 = true then ob1 (plunderlaw8_sameLog K p0.Log p1.Log) (fun r30 => some r30) else some false)) else some false)) else some false)) else some false) else some false)

theorem plunderlaw8_sameRun_ok {z w : World} {L : List HProp} {K : Nat} {p0 p1 : T_api_JoinRun} {ca1 ca3 ca5 ca7 ca9 ca11 ca13 ca15 : Option Addr} {cc2 cc4 cc6 cc8 cc10 cc12 cc14 cc16 : Nat} {r0 : Bool} (H : plunderlaw8_sameRun K p0 p1 = some r0) (h : Fit z (sepL (ro3 ca1 cc2 p0.Holders :: rn31 ca3 cc4 p0.Reads :: ro2 ca5 cc6 p0.Marks :: ro96 ca7 cc8 p0.Log :: ro3 ca9 cc10 p1.Holders :: rn31 ca11 cc12 p1.Reads :: ro2 ca13 cc14 p1.Marks :: ro96 ca15 cc16 p1.Log :: L)) w)  :
    Calls Try.prog 44 #[.agg #[vB p0.Done, vI p0.Steps, .slice ca1 p0.Holders.length cc2, .slice ca3 p0.Reads.length cc4, .slice ca5 p0.Marks.length cc6, .slice ca7 p0.Log.length cc8], .agg #[vB p1.Done, vI p1.Steps, .slice ca9 p1.Holders.length cc10, .slice ca11 p1.Reads.length cc12, .slice ca13 p1.Marks.length cc14, .slice ca15 p1.Log.length cc16]] w fun e w => e = .returned (vB r0) ∧ Fit z (sepL (ro3 ca1 cc2 p0.Holders :: rn31 ca3 cc4 p0.Reads :: ro2 ca5 cc6 p0.Marks :: ro96 ca7 cc8 p0.Log :: ro3 ca9 cc10 p1.Holders :: rn31 ca11 cc12 p1.Reads :: ro2 ca13 cc14 p1.Marks :: ro96 ca15 cc16 p1.Log :: L)) w := by
 unfold plunderlaw8_sameRun at H
 refine enter Try.func44 rfl 45 rfl rfl [(0, .agg #[vB p0.Done, vI p0.Steps, .slice ca1 p0.Holders.length cc2, .slice ca3 p0.Reads.length cc4, .slice ca5 p0.Marks.length cc6, .slice ca7 p0.Log.length cc8]), (1, .agg #[vB p1.Done, vI p1.Steps, .slice ca9 p1.Holders.length cc10, .slice ca11 p1.Reads.length cc12, .slice ca13 p1.Marks.length cc14, .slice ca15 p1.Log.length cc16])] ⟨rfl, rfl, trivial⟩ ?_
 intro j a hr
 refine sr ?_
 refine onew (wn rfl) hr h nb (#[vB p0.Done, vI p0.Steps, .slice ca1 p0.Holders.length cc2, .slice ca3 p0.Reads.length cc4, .slice ca5 p0.Marks.length cc6, .slice ca7 p0.Log.length cc8]) 86 fun b17 w a h hr => ?_
 refine onew (wn rfl) hr h nb (#[vB p1.Done, vI p1.Steps, .slice ca9 p1.Holders.length cc10, .slice ca11 p1.Reads.length cc12, .slice ca13 p1.Marks.length cc14, .slice ca15 p1.Log.length cc16]) 86 fun b18 w a h hr => ?_
 refine o1 hr (vB false) fun a hr => ?_
 refine ln ?_
 refine sr ?_
 refine o1 hr (pA b17 0) fun a hr => ?_
 refine ld (wn rfl) hr (vB p0.Done) ((h.pick 1).cell 0 rfl) fun a hr => ?_
 refine o1 hr (pA b18 0) fun a hr => ?_
 refine ld (wn rfl) hr (vB p1.Done) (h.cell 0 rfl) fun a hr => ?_
 refine oo [9, 10] [vB (p0.Done == p1.Done), vB (p0.Done == p1.Done)] hr fun a hr => ?_
 by_cases c19 : p0.Done = p1.Done
 ·
  replace H := ifT c19 H
  refine onl (beq_iff_eq.mpr c19) [11] [pA b17 1] hr fun a hr => ?_
  refine ld (wgt hr (beq_iff_eq.mpr c19)) hr (vI p0.Steps) ((h.pick 1).cell 1 rfl) fun a hr => ?_
  refine onl (beq_iff_eq.mpr c19) [13] [pA b18 1] hr fun a hr => ?_
  refine ld (wgt hr (beq_iff_eq.mpr c19)) hr (vI p1.Steps) (h.cell 1 rfl) fun a hr => ?_
  refine onl (beq_iff_eq.mpr c19) [15] [vB (p0.Steps == p1.Steps)] hr fun a hr => ?_
  refine opv (wn rfl) hr (vB (p0.Steps == p1.Steps)) (rp_t (b := (p0.Done == p1.Done)) rfl (by kernel_rfl) (beq_iff_eq.mpr c19) (by kernel_rfl)) fun a hr => ?_
  refine o1 hr (vB (p0.Steps == p1.Steps)) fun a hr => ?_
  by_cases c20 : p0.Steps = p1.Steps
  ·
   replace H := ifT c20 H
   refine onl (beq_iff_eq.mpr c20) [18] [pA b17 2] hr fun a hr => ?_
   refine ld (wgt hr (beq_iff_eq.mpr c20)) hr (.slice ca1 p0.Holders.length cc2) ((h.pick 1).cell 2 rfl) fun a hr => ?_
   refine onl (beq_iff_eq.mpr c20) [20] [pA b18 2] hr fun a hr => ?_
   refine ld (wgt hr (beq_iff_eq.mpr c20)) hr (.slice ca9 p1.Holders.length cc10) (h.cell 2 rfl) fun a hr => ?_
   obtain ⟨r21, e22, H⟩ := bd1 H
   have hc := plunderlaw8_sameInts_ok (va0 := ca1) (vc0 := cc2) (va1 := ca9) (vc1 := cc10) (hv0 := (RdRow.of_row encZ_i64_ok (h.pick 2) (fun h => (h.pick 2)))) (hv1 := (RdRow.of_row encZ_i64_ok (h.pick 6) (fun h => (h.pick 6)))) (H := e22) (h := h)
   refine cl (wgt hr (beq_iff_eq.mpr c20)) hr hc ?_; clear hc h
   rintro _ w ⟨rfl, h⟩; refine ⟨_, rfl, fun a hr => ?_⟩
   refine opv (wn rfl) hr (vB r21) (rp_t (b := (p0.Steps == p1.Steps)) rfl (by kernel_rfl) (beq_iff_eq.mpr c20) (by kernel_rfl)) fun a hr => ?_
   refine o1 hr (vB r21) fun a hr => ?_
   by_cases c23 : r21 = true
   ·
    replace H := ifT c23 H
    refine onl (c23) [25] [pA b17 3] hr fun a hr => ?_
    refine ld (wgt hr (c23)) hr (.slice ca3 p0.Reads.length cc4) ((h.pick 1).cell 3 rfl) fun a hr => ?_
    refine onl (c23) [27] [pA b18 3] hr fun a hr => ?_
    refine ld (wgt hr (c23)) hr (.slice ca11 p1.Reads.length cc12) (h.cell 3 rfl) fun a hr => ?_
    obtain ⟨r24, e25, H⟩ := bd1 H
    replace h := h.m7.m4
    have hc := plunderlaw8_sameReads_ok (H := e25) (h := h)
    refine cl (wgt hr (c23)) hr hc ?_; clear hc h
    rintro _ w ⟨rfl, h⟩; refine ⟨_, rfl, fun a hr => ?_⟩
    refine opv (wn rfl) hr (vB r24) (rp_t (b := r21) rfl (by kernel_rfl) (c23) (by kernel_rfl)) fun a hr => ?_
    refine o1 hr (vB r24) fun a hr => ?_
    by_cases c26 : r24 = true
    ·
     replace H := ifT c26 H
     refine onl (c26) [32] [pA b17 4] hr fun a hr => ?_
     refine ld (wgt hr (c26)) hr (.slice ca5 p0.Marks.length cc6) ((h.pick 3).cell 4 rfl) fun a hr => ?_
     refine onl (c26) [34] [pA b18 4] hr fun a hr => ?_
     refine ld (wgt hr (c26)) hr (.slice ca13 p1.Marks.length cc14) ((h.pick 2).cell 4 rfl) fun a hr => ?_
     obtain ⟨r27, e28, H⟩ := bd1 H
     have hc := plunderlaw8_sameNumbers_ok (va0 := ca5) (vc0 := cc6) (va1 := ca13) (vc1 := cc14) (hv0 := (RdRow.of_row encZ_i64_ok (h.pick 5) (fun h => (h.pick 5)))) (hv1 := (RdRow.of_row encZ_i64_ok (h.pick 8) (fun h => (h.pick 8)))) (H := e28) (h := h)
     refine cl (wgt hr (c26)) hr hc ?_; clear hc h
     rintro _ w ⟨rfl, h⟩; refine ⟨_, rfl, fun a hr => ?_⟩
     refine opv (wn rfl) hr (vB r27) (rp_t (b := r24) rfl (by kernel_rfl) (c26) (by kernel_rfl)) fun a hr => ?_
     refine o1 hr (vB r27) fun a hr => ?_
     by_cases c29 : r27 = true
     ·
      replace H := ifT c29 H
      refine onl (c29) [39] [pA b17 5] hr fun a hr => ?_
      refine ld (wgt hr (c29)) hr (.slice ca7 p0.Log.length cc8) ((h.pick 3).cell 5 rfl) fun a hr => ?_
      refine onl (c29) [41] [pA b18 5] hr fun a hr => ?_
      refine ld (wgt hr (c29)) hr (.slice ca15 p1.Log.length cc16) ((h.pick 2).cell 5 rfl) fun a hr => ?_
      obtain ⟨r30, e31, H⟩ := bd1 H
      have hc := plunderlaw8_sameLog_ok (va0 := ca7) (vc0 := cc8) (va1 := ca15) (vc1 := cc16) (hv0 := (RdRow.of_row enc_T_api_Access_ok (h.pick 6) (fun h => (h.pick 6)))) (hv1 := (RdRow.of_row enc_T_api_Access_ok (h.pick 9) (fun h => (h.pick 9)))) (H := e31) (h := h)
      refine cl (wgt hr (c29)) hr hc ?_; clear hc h
      rintro _ w ⟨rfl, h⟩; refine ⟨_, rfl, fun a hr => ?_⟩
      refine opv (wn rfl) hr (vB r30) (rp_t (b := r27) rfl (by kernel_rfl) (c29) (by kernel_rfl)) fun a hr => ?_
      refine o1 hr (vB r30) fun a hr => ?_
      refine ln ?_
      refine wp_ret ?_
      refine end_ret1 (v := vB r30) rfl hr (by kernel_rfl) ?_
      replace H := ej1 H; subst H
      exact ⟨rfl, h.se 10 [4, 0, 5, 6, 7, 1, 8, 9]⟩
     ·
      replace H := ifF c29 H
      refine offl (bF c29) [39, 40, 41, 42, 43] hr fun a hr => ?_
      refine opv (wn rfl) hr (vB false) (rp_f (b := r27) rfl (by kernel_rfl) (bF c29) (by kernel_rfl)) fun a hr => ?_
      refine o1 hr (vB false) fun a hr => ?_
      refine ln ?_
      refine wp_ret ?_
      refine end_ret1 (v := vB false) rfl hr (by kernel_rfl) ?_
      replace H := ej1 H; subst H
      exact ⟨rfl, h.se 10 [4, 0, 5, 6, 7, 1, 8, 9]⟩
    ·
     replace H := ifF c26 H
     refine offl (bF c26) [32, 33, 34, 35, 36] hr fun a hr => ?_
     refine opv (wn rfl) hr (vB false) (rp_f (b := r24) rfl (by kernel_rfl) (bF c26) (by kernel_rfl)) fun a hr => ?_
     refine o1 hr (vB false) fun a hr => ?_
     refine offl (rfl : false = false) [39, 40, 41, 42, 43] hr fun a hr => ?_
     refine oo [44, 4] [vB false, vB false] hr fun a hr => ?_
     refine ln ?_
     refine wp_ret ?_
     refine end_ret1 (v := vB false) rfl hr (by kernel_rfl) ?_
     replace H := ej1 H; subst H
     exact ⟨rfl, h.se 10 [4, 0, 5, 6, 7, 1, 8, 9]⟩
   ·
    replace H := ifF c23 H
    refine offl (bF c23) [25, 26, 27, 28, 29] hr fun a hr => ?_
    refine opv (wn rfl) hr (vB false) (rp_f (b := r21) rfl (by kernel_rfl) (bF c23) (by kernel_rfl)) fun a hr => ?_
    refine o1 hr (vB false) fun a hr => ?_
    refine offl (rfl : false = false) [32, 33, 34, 35, 36] hr fun a hr => ?_
    refine oo [37, 38] [vB false, vB false] hr fun a hr => ?_
    refine offl (rfl : false = false) [39, 40, 41, 42, 43] hr fun a hr => ?_
    refine oo [44, 4] [vB false, vB false] hr fun a hr => ?_
    refine ln ?_
    refine wp_ret ?_
    refine end_ret1 (v := vB false) rfl hr (by kernel_rfl) ?_
    replace H := ej1 H; subst H
    exact ⟨rfl, h.se 10 [2, 3, 4, 5, 6, 7, 8, 9]⟩
  ·
   replace H := ifF c20 H
   refine offl (beq_eq_false_iff_ne.mpr c20) [18, 19, 20, 21, 22] hr fun a hr => ?_
   refine opv (wn rfl) hr (vB false) (rp_f (b := (p0.Steps == p1.Steps)) rfl (by kernel_rfl) (beq_eq_false_iff_ne.mpr c20) (by kernel_rfl)) fun a hr => ?_
   refine o1 hr (vB false) fun a hr => ?_
   refine offl (rfl : false = false) [25, 26, 27, 28, 29] hr fun a hr => ?_
   refine oo [30, 31] [vB false, vB false] hr fun a hr => ?_
   refine offl (rfl : false = false) [32, 33, 34, 35, 36] hr fun a hr => ?_
   refine oo [37, 38] [vB false, vB false] hr fun a hr => ?_
   refine offl (rfl : false = false) [39, 40, 41, 42, 43] hr fun a hr => ?_
   refine oo [44, 4] [vB false, vB false] hr fun a hr => ?_
   refine ln ?_
   refine wp_ret ?_
   refine end_ret1 (v := vB false) rfl hr (by kernel_rfl) ?_
   replace H := ej1 H; subst H
   exact ⟨rfl, h.se 10 [2, 3, 4, 5, 6, 7, 8, 9]⟩
 ·
  replace H := ifF c19 H
  refine offl (beq_eq_false_iff_ne.mpr c19) [11, 12, 13, 14, 15] hr fun a hr => ?_
  refine opv (wn rfl) hr (vB false) (rp_f (b := (p0.Done == p1.Done)) rfl (by kernel_rfl) (beq_eq_false_iff_ne.mpr c19) (by kernel_rfl)) fun a hr => ?_
  refine o1 hr (vB false) fun a hr => ?_
  refine offl (rfl : false = false) [18, 19, 20, 21, 22] hr fun a hr => ?_
  refine oo [23, 24] [vB false, vB false] hr fun a hr => ?_
  refine offl (rfl : false = false) [25, 26, 27, 28, 29] hr fun a hr => ?_
  refine oo [30, 31] [vB false, vB false] hr fun a hr => ?_
  refine offl (rfl : false = false) [32, 33, 34, 35, 36] hr fun a hr => ?_
  refine oo [37, 38] [vB false, vB false] hr fun a hr => ?_
  refine offl (rfl : false = false) [39, 40, 41, 42, 43] hr fun a hr => ?_
  refine oo [44, 4] [vB false, vB false] hr fun a hr => ?_
  refine ln ?_
  refine wp_ret ?_
  refine end_ret1 (v := vB false) rfl hr (by kernel_rfl) ?_
  replace H := ej1 H; subst H
  exact ⟨rfl, h.se 10 [2, 3, 4, 5, 6, 7, 8, 9]⟩

def plunderlaw8_spoil_l1 (K : Nat) (p0 : T_api_JoinRun) : Nat → (List Int) → Int → Option ((List Int))
  | 0, _, _ => none
  | k1 + 1, l13, g14 => (if g14 < ((p0.Holders.length : Nat) : Int) then if inr_ g14 l13.length then (plunderlaw8_spoil_l1 K p0 k1 (l13.set g14.toNat (-1)) (wi (g14 + 1))) else none else some l13)
def plunderlaw8_spoil_l3 (K : Nat) (g21 : Int) : Nat → (List (List Int)) → Int → Option ((List (List Int)))
  | 0, _, _ => none
  | k3 + 1, l26, g27 => if inr_ g21 l26.length then (if g27 < (((at_ l26 g21.toNat).length : Nat) : Int) then if inr_ g27 (at_ l26 g21.toNat).length then (plunderlaw8_spoil_l3 K g21 k3 (l26.set g21.toNat ((at_ l26 g21.toNat).set g27.toNat (wi ((-1000 : Int) - g21)))) (wi (g27 + 1))) else none else some l26) else none
def plunderlaw8_spoil_l2 (K : Nat) (p0 : T_api_JoinRun) : Nat → (List (List Int)) → Int → Option ((List (List Int)))
  | 0, _, _ => none
  | k2 + 1, l20, g21 => (if g21 < ((p0.Reads.length : Nat) : Int) then ob1 ((plunderlaw8_spoil_l3 K g21 K l20 0)) (fun l23 => (plunderlaw8_spoil_l2 K p0 k2 l23 (wi (g21 + 1)))) else some l20)
def plunderlaw8_spoil_l4 (K : Nat) (p0 : T_api_JoinRun) : Nat → (List Int) → Int → Option ((List Int))
  | 0, _, _ => none
  | k4 + 1, l39, g40 => (if g40 < ((p0.Marks.length : Nat) : Int) then if inr_ g40 l39.length then (plunderlaw8_spoil_l4 K p0 k4 (l39.set g40.toNat (-2)) (wi (g40 + 1))) else none else some l39)
def plunderlaw8_spoil_l5 (K : Nat) (p0 : T_api_JoinRun) : Nat → (List T_api_Access) → Int → Option ((List T_api_Access))
  | 0, _, _ => none
  | k5 + 1, l46, g47 => (if g47 < ((p0.Log.length : Nat) : Int) then if inr_ g47 l46.length then (plunderlaw8_spoil_l5 K p0 k5 (l46.set g47.toNat (⟨-3, 0, 0, 0, 0, false⟩ : T_api_Access)) (wi (g47 + 1))) else none else some l46)
def plunderlaw8_spoil_l6 (K : Nat) : Nat → (List T_api_Access) → (List Int) → (List Int) → Int → Option ((List T_api_Access) × (List Int) × (List Int))
  | 0, _, _, _, _ => none
  | k6 + 1, l63, l66, l69, g70 => (if g70 < 64 then if (l69.length + 1) * 8 ≤ 140737488355328 then if (l66.length + 1) * 8 ≤ 140737488355328 then if (l63.length + 1) * 48 ≤ 140737488355328 then (plunderlaw8_spoil_l6 K k6 (l63 ++ [(⟨-13, 0, 0, 0, 0, false⟩ : T_api_Access)]) (l66 ++ [-12]) (l69 ++ [-11]) (wi (g70 + 1))) else none else none else none else some (l63, l66, l69))
def plunderlaw8_spoil_l8 (K : Nat) (g87 : Int) : Nat → (List Int) → Int → Option (Unit)
  | 0, _, _ => none
  | k8 + 1, l98, g99 => (if g99 < 64 then if (l98.length + 1) * 8 ≤ 140737488355328 then (plunderlaw8_spoil_l8 K g87 k8 (l98 ++ [wi ((-5000 : Int) - g87)]) (wi (g99 + 1))) else none else some ())
def plunderlaw8_spoil_l7 (K : Nat) (p0 : T_api_JoinRun) (l10 : List Int) (l17 : List (List Int)) (l36 : List Int) (l43 : List T_api_Access) : Nat → Int → Option (T_api_JoinRun)
  | 0, _ => none
  | k7 + 1, g87 => (if g87 < ((p0.Reads.length : Nat) : Int) then ob0 (if inr_ g87 l17.length then (plunderlaw8_spoil_l8 K g87 K (at_ l17 g87.toNat) 0) else none) ((plunderlaw8_spoil_l7 K p0 l10 l17 l36 l43 k7 (wi (g87 + 1)))) else some (⟨p0.Done, p0.Steps, l10, l17, l36, l43⟩ : T_api_JoinRun))
/-- plunder/plunderlaw8.spoil -/
def plunderlaw8_spoil (K : Nat) (p0 : T_api_JoinRun) : Option (T_api_JoinRun) :=
  ob1 ((plunderlaw8_spoil_l1 K p0 K p0.Holders 0)) (fun l10 => ob1 ((plunderlaw8_spoil_l2 K p0 K p0.Reads 0)) (fun l17 => ob1 ((plunderlaw8_spoil_l4 K p0 K p0.Marks 0)) (fun l36 => ob1 ((plunderlaw8_spoil_l5 K p0 K p0.Log 0)) (fun l43 => ob3 ((plunderlaw8_spoil_l6 K K l43 l36 l10 0)) (fun l52 l55 l58 => (plunderlaw8_spoil_l7 K p0 l10 l17 l36 l43 K 0))))))

theorem plunderlaw8_spoil_ok {z w : World} {L : List HProp} {K : Nat} {p0 q0 : T_api_JoinRun} {ca1 ca3 ca5 ca7 : Option Addr} {cc2 cc4 cc6 cc8 : Nat} (H : plunderlaw8_spoil K p0 = some q0) (h : Fit z (sepL (ro3 ca1 cc2 p0.Holders :: rn31 ca3 cc4 p0.Reads :: ro2 ca5 cc6 p0.Marks :: ro96 ca7 cc8 p0.Log :: L)) w)  :
    Calls Try.prog 45 #[.agg #[vB p0.Done, vI p0.Steps, .slice ca1 p0.Holders.length cc2, .slice ca3 p0.Reads.length cc4, .slice ca5 p0.Marks.length cc6, .slice ca7 p0.Log.length cc8]] w fun e w => e = .returned (.tuple #[]) ∧ Fit z (sepL (rowOf 3 1 encZ_i64 (.slice ca1 p0.Holders.length cc2) q0.Holders :: rowN 31 1 own_sl31 (.slice ca3 p0.Reads.length cc4) q0.Reads :: rowOf 2 1 encZ_i64 (.slice ca5 p0.Marks.length cc6) q0.Marks :: rowOf 96 6 enc_T_api_Access (.slice ca7 p0.Log.length cc8) q0.Log :: L)) w := by
 unfold plunderlaw8_spoil at H
 refine enter Try.func45 rfl 112 rfl rfl [(0, .agg #[vB p0.Done, vI p0.Steps, .slice ca1 p0.Holders.length cc2, .slice ca3 p0.Reads.length cc4, .slice ca5 p0.Marks.length cc6, .slice ca7 p0.Log.length cc8])] ⟨rfl, trivial⟩ ?_
 intro j a hr
 refine sr ?_
 refine onew (wn rfl) hr h nb (#[vB p0.Done, vI p0.Steps, .slice ca1 p0.Holders.length cc2, .slice ca3 p0.Reads.length cc4, .slice ca5 p0.Marks.length cc6, .slice ca7 p0.Log.length cc8]) 86 fun b9 w a h hr => ?_
 refine ln ?_
 obtain ⟨o12, H, hK11⟩ := kd1 H
 refine cut_rule (β := Unit) (fun _ a w => ∃ l10 : List Int, l10 = o12 ∧ ∃ j, Rep 112 (lk [(1, pA b9 0)] j) a ∧ Fit z (sepL (ob86 b9 p0 ca1 cc2 ca3 cc4 ca5 cc6 ca7 cc8 :: rowOf 3 1 encZ_i64 (.slice ca1 p0.Holders.length cc2) l10 :: rn31 ca3 cc4 p0.Reads :: ro2 ca5 cc6 p0.Marks :: ro96 ca7 cc8 p0.Log :: L)) w) ?_ ?_
 ·
  refine sr ?_
  refine o1 hr (vI 0) fun a hr => ?_
  refine ln ?_
  refine wp_block ?_
  refine loop_rule (β := Nat) id (fun m a w => ∃ l13 : List Int, ∃ g14 : Int, (plunderlaw8_spoil_l1 K p0 m l13 g14) = some o12 ∧ ∃ j, Rep 112 (lk [(1, pA b9 0), (2, vI g14)] j) a ∧ Fit z (sepL (ob86 b9 p0 ca1 cc2 ca3 cc4 ca5 cc6 ca7 cc8 :: rowOf 3 1 encZ_i64 (.slice ca1 p0.Holders.length cc2) l13 :: rn31 ca3 cc4 p0.Reads :: ro2 ca5 cc6 p0.Marks :: ro96 ca7 cc8 p0.Log :: L)) w) K ⟨p0.Holders, 0, H, hr.fj h⟩ ?_
  clear h hr a H; rintro k1 a w ⟨l13, g14, H, j, hr, h⟩
  cases k1 with
  | zero => exact absurd H (by simp [plunderlaw8_spoil_l1])
  | succ k1 =>
   rw [plunderlaw8_spoil_l1] at H
   refine wp_seq ?_
   refine sr ?_
   refine oo [11, 12] [vI g14, pA b9 2] hr fun a hr => ?_
   refine ld (wn rfl) hr (.slice ca1 p0.Holders.length cc2) (h.cell 2 rfl) fun a hr => ?_
   refine oo [14, 15] [vI ((p0.Holders.length : Nat) : Int), vB (decide (g14 < ((p0.Holders.length : Nat) : Int)))] hr fun a hr => ?_
   refine ln ?_
   refine cD hr H (fun c15 H => ?_) fun c15 H => ?_
   ·
    refine wp_skip ?_
    refine then_normal ?_
    refine wp_seq ?_
    refine wp_block ?_
    refine wp_region_lit ?_
    refine o1 hr (pA b9 2) fun a hr => ?_
    refine ld (wn rfl) hr (.slice ca1 p0.Holders.length cc2) (h.cell 2 rfl) fun a hr => ?_
    obtain ⟨c16, H⟩ := gd H
    refine o1 hr (vI g14) fun a hr => ?_
    refine opv (wn rfl) hr (pA (blk ca1) (g14.toNat * 1)) (ri_row (k := .i64) (E := 3) rfl (by kernel_rfl) (by kernel_rfl) (by kernel_rfl) (by kernel_rfl) (h.pick 1) c16) fun a hr => ?_
    replace h := h.m1
    refine stor (wn rfl) hr encZ_i64_ok h g14.toNat 0 (vI (-1)) (at_ l13 g14.toNat) (-1) (at_ok c16) fun w h => ?_
    refine wpList_nil ?_
    refine blk_normal ?_
    refine then_normal ?_
    refine wp_region_lit ?_
    refine oo [16, 17, 2] [vI g14, vI (wi (g14 + 1)), vI (wi (g14 + 1))] hr fun a hr => ?_
    refine ln ?_
    exact ⟨_, ⟨(l13.set g14.toNat (-1)), (wi (g14 + 1)), H, hr.fj (h.se 5 [1, 0, 2, 3, 4])⟩, Nat.lt_succ_self _⟩
   ·
    refine wp_exit ?_
    refine then_exit ?_
    refine then_exit ?_
    refine blk_here ?_
    refine then_normal ?_
    exact ⟨(), l13, sinj H, hr.fj h⟩
 clear h hr a; rintro _ a w ⟨l10, rfl, j, hr, h⟩
 replace H := kk1 hK11
 obtain ⟨o19, H, hK18⟩ := kd1 H
 refine cut_rule (β := Unit) (fun _ a w => ∃ l17 : List (List Int), l17 = o19 ∧ ∃ j, Rep 112 (lk [(1, pA b9 0)] j) a ∧ Fit z (sepL (ob86 b9 p0 ca1 cc2 ca3 cc4 ca5 cc6 ca7 cc8 :: rowOf 3 1 encZ_i64 (.slice ca1 p0.Holders.length cc2) l10 :: rowN 31 1 own_sl31 (.slice ca3 p0.Reads.length cc4) l17 :: ro2 ca5 cc6 p0.Marks :: ro96 ca7 cc8 p0.Log :: L)) w) ?_ ?_
 ·
  refine sr ?_
  refine o1 hr (vI 0) fun a hr => ?_
  refine ln ?_
  refine wp_block ?_
  refine loop_rule (β := Nat) id (fun m a w => ∃ l20 : List (List Int), ∃ g21 : Int, (plunderlaw8_spoil_l2 K p0 m l20 g21) = some o19 ∧ ∃ j, Rep 112 (lk [(1, pA b9 0), (3, vI g21)] j) a ∧ Fit z (sepL (ob86 b9 p0 ca1 cc2 ca3 cc4 ca5 cc6 ca7 cc8 :: rowOf 3 1 encZ_i64 (.slice ca1 p0.Holders.length cc2) l10 :: rowN 31 1 own_sl31 (.slice ca3 p0.Reads.length cc4) l20 :: ro2 ca5 cc6 p0.Marks :: ro96 ca7 cc8 p0.Log :: L)) w) K ⟨p0.Reads, 0, H, hr.fj h⟩ ?_
  clear h hr a H; rintro k2 a w ⟨l20, g21, H, j, hr, h⟩
  cases k2 with
  | zero => exact absurd H (by simp [plunderlaw8_spoil_l2])
  | succ k2 =>
   rw [plunderlaw8_spoil_l2] at H
   refine wp_seq ?_
   refine sr ?_
   refine oo [22, 23] [vI g21, pA b9 3] hr fun a hr => ?_
   refine ld (wn rfl) hr (.slice ca3 p0.Reads.length cc4) (h.cell 3 rfl) fun a hr => ?_
   refine oo [25, 26] [vI ((p0.Reads.length : Nat) : Int), vB (decide (g21 < ((p0.Reads.length : Nat) : Int)))] hr fun a hr => ?_
   refine ln ?_
   refine cD hr H (fun c22 H => ?_) fun c22 H => ?_
   ·
    refine wp_skip ?_
    refine then_normal ?_
    obtain ⟨o25, H, hK24⟩ := kd1 H
    refine cut_rule (β := Unit) (fun _ a w => ∃ l23 : List (List Int), l23 = o25 ∧ ∃ j, Rep 112 (lk [(1, pA b9 0), (3, vI g21)] j) a ∧ Fit z (sepL (ob86 b9 p0 ca1 cc2 ca3 cc4 ca5 cc6 ca7 cc8 :: rowOf 3 1 encZ_i64 (.slice ca1 p0.Holders.length cc2) l10 :: rowN 31 1 own_sl31 (.slice ca3 p0.Reads.length cc4) l23 :: ro2 ca5 cc6 p0.Marks :: ro96 ca7 cc8 p0.Log :: L)) w) ?_ ?_
    ·
     refine wp_block ?_
     refine sr ?_
     refine o1 hr (vI 0) fun a hr => ?_
     refine ln ?_
     refine wp_block ?_
     refine loop_rule (β := Nat) id (fun m a w => ∃ l26 : List (List Int), ∃ g27 : Int, (plunderlaw8_spoil_l3 K g21 m l26 g27) = some o25 ∧ ∃ j, Rep 112 (lk [(1, pA b9 0), (3, vI g21), (4, vI g27)] j) a ∧ Fit z (sepL (ob86 b9 p0 ca1 cc2 ca3 cc4 ca5 cc6 ca7 cc8 :: rowOf 3 1 encZ_i64 (.slice ca1 p0.Holders.length cc2) l10 :: rowN 31 1 own_sl31 (.slice ca3 p0.Reads.length cc4) l26 :: ro2 ca5 cc6 p0.Marks :: ro96 ca7 cc8 p0.Log :: L)) w) K ⟨l20, 0, H, hr.fj h⟩ ?_
     clear h hr a H; rintro k3 a w ⟨l26, g27, H, j, hr, h⟩
     cases k3 with
     | zero => exact absurd H (by simp [plunderlaw8_spoil_l3])
     | succ k3 =>
      rw [plunderlaw8_spoil_l3] at H
      refine wp_seq ?_
      refine sr ?_
      refine oo [29, 30] [vI g27, pA b9 3] hr fun a hr => ?_
      refine ld (wn rfl) hr (.slice ca3 p0.Reads.length cc4) (h.cell 3 rfl) fun a hr => ?_
      obtain ⟨c28, H⟩ := gd H
      refine o1 hr (vI g21) fun a hr => ?_
      refine opv (wn rfl) hr (pA (blk ca3) (g21.toNat * 1)) (ri_rowN (k := .i64) (E := 31) rfl (by kernel_rfl) (by kernel_rfl) (by kernel_rfl) (by kernel_rfl) (h.pick 2) c28) fun a hr => ?_
      obtain ⟨cs32, h⟩ := h.m2.rowN_take (at_ok c28)
      obtain ⟨ca29, cc30, e31, h⟩ := own_sl31_op (h.m1); subst e31
      refine ld (wn rfl) hr (.slice ca29 (at_ l26 g21.toNat).length cc30) ((h.pick 1).rowH_cell (by decide) (f := 0) rfl) fun a hr => ?_
      refine oo [35, 36] [vI (((at_ l26 g21.toNat).length : Nat) : Int), vB (decide (g27 < (((at_ l26 g21.toNat).length : Nat) : Int)))] hr fun a hr => ?_
      refine ln ?_
      refine cD hr H (fun c33 H => ?_) fun c33 H => ?_
      ·
       refine wp_skip ?_
       refine then_normal ?_
       refine wp_seq ?_
       refine wp_block ?_
       refine wp_region_lit ?_
       refine o1 hr (pA b9 3) fun a hr => ?_
       refine ld (wn rfl) hr (.slice ca3 p0.Reads.length cc4) ((h.pick 2).cell 3 rfl) fun a hr => ?_
       refine o1 hr (vI g21) fun a hr => ?_
       refine opv (wn rfl) hr (pA (blk ca3) (g21.toNat * 1)) (ri_rowH (k := .i64) (E := 31) rfl (by kernel_rfl) (by kernel_rfl) (by kernel_rfl) (by kernel_rfl) (h.pick 1) c28) fun a hr => ?_
       refine ld (wn rfl) hr (.slice ca29 (at_ l26 g21.toNat).length cc30) ((h.pick 1).rowH_cell (by decide) (f := 0) rfl) fun a hr => ?_
       obtain ⟨c34, H⟩ := gd H
       refine oo [44, 45, 46] [vI g27, vI g21, vI (wi ((-1000 : Int) - g21))] hr fun a hr => ?_
       refine opv (wn rfl) hr (pA (blk ca29) (g27.toNat * 1)) (ri_row (k := .i64) (E := 2) rfl (by kernel_rfl) (by kernel_rfl) (by kernel_rfl) (by kernel_rfl) h c34) fun a hr => ?_
       refine stor (wn rfl) hr encZ_i64_ok h g27.toNat 0 (vI (wi ((-1000 : Int) - g21))) (at_ (at_ l26 g21.toNat) g27.toNat) (wi ((-1000 : Int) - g21)) (at_ok c34) fun w h => ?_
       refine wpList_nil ?_
       refine blk_normal ?_
       refine then_normal ?_
       refine wp_region_lit ?_
       refine oo [37, 38, 4] [vI g27, vI (wi (g27 + 1)), vI (wi (g27 + 1))] hr fun a hr => ?_
       refine ln ?_
       have hn34 : (at_ l26 g21.toNat).length = ((at_ l26 g21.toNat).set g27.toNat (wi ((-1000 : Int) - g21))).length := h.row_n; replace h := Fit.ren1 hn34 (fun q_ => rowOf 2 1 encZ_i64 (.slice ca29 q_ cc30) ((at_ l26 g21.toNat).set g27.toNat (wi ((-1000 : Int) - g21)))) (fun q_ => rowH 31 1 own_sl31 (.slice ca3 p0.Reads.length cc4) l26 g21.toNat [.slice ca29 q_ cc30]) h
       replace h := own_sl31_sh (x := ((at_ l26 g21.toNat).set g27.toNat (wi ((-1000 : Int) - g21)))) h
       replace h := (h.m1).rowH_back
       exact ⟨_, ⟨(l26.set g21.toNat ((at_ l26 g21.toNat).set g27.toNat (wi ((-1000 : Int) - g21)))), (wi (g27 + 1)), H, hr.fj (h.se 5 [1, 2, 0, 3, 4])⟩, Nat.lt_succ_self _⟩
      ·
       refine wp_exit ?_
       refine then_exit ?_
       refine then_exit ?_
       refine blk_here ?_
       refine blk_normal ?_
       refine then_normal ?_
       replace h := own_sl31_sh (x := (at_ l26 g21.toNat)) h
       replace h := (h.m1).rowH_same
       exact ⟨(), l26, sinj H, hr.fj (h.se 5 [1, 2, 0, 3, 4])⟩
    clear h hr a; rintro _ a w ⟨l23, rfl, j, hr, h⟩
    replace H := kk1 hK24
    refine wp_region_lit ?_
    refine oo [27, 28, 3] [vI g21, vI (wi (g21 + 1)), vI (wi (g21 + 1))] hr fun a hr => ?_
    refine ln ?_
    exact ⟨_, ⟨l23, (wi (g21 + 1)), H, hr.fj h⟩, Nat.lt_succ_self _⟩
   ·
    refine wp_exit ?_
    refine then_exit ?_
    refine then_exit ?_
    refine blk_here ?_
    refine then_normal ?_
    exact ⟨(), l20, sinj H, hr.fj h⟩
 clear h hr a; rintro _ a w ⟨l17, rfl, j, hr, h⟩
 replace H := kk1 hK18
 obtain ⟨o38, H, hK37⟩ := kd1 H
 refine cut_rule (β := Unit) (fun _ a w => ∃ l36 : List Int, l36 = o38 ∧ ∃ j, Rep 112 (lk [(1, pA b9 0)] j) a ∧ Fit z (sepL (ob86 b9 p0 ca1 cc2 ca3 cc4 ca5 cc6 ca7 cc8 :: rowOf 3 1 encZ_i64 (.slice ca1 p0.Holders.length cc2) l10 :: rowN 31 1 own_sl31 (.slice ca3 p0.Reads.length cc4) l17 :: rowOf 2 1 encZ_i64 (.slice ca5 p0.Marks.length cc6) l36 :: ro96 ca7 cc8 p0.Log :: L)) w) ?_ ?_
 ·
  refine sr ?_
  refine o1 hr (vI 0) fun a hr => ?_
  refine ln ?_
  refine wp_block ?_
  refine loop_rule (β := Nat) id (fun m a w => ∃ l39 : List Int, ∃ g40 : Int, (plunderlaw8_spoil_l4 K p0 m l39 g40) = some o38 ∧ ∃ j, Rep 112 (lk [(1, pA b9 0), (5, vI g40)] j) a ∧ Fit z (sepL (ob86 b9 p0 ca1 cc2 ca3 cc4 ca5 cc6 ca7 cc8 :: rowOf 3 1 encZ_i64 (.slice ca1 p0.Holders.length cc2) l10 :: rowN 31 1 own_sl31 (.slice ca3 p0.Reads.length cc4) l17 :: rowOf 2 1 encZ_i64 (.slice ca5 p0.Marks.length cc6) l39 :: ro96 ca7 cc8 p0.Log :: L)) w) K ⟨p0.Marks, 0, H, hr.fj h⟩ ?_
  clear h hr a H; rintro k4 a w ⟨l39, g40, H, j, hr, h⟩
  cases k4 with
  | zero => exact absurd H (by simp [plunderlaw8_spoil_l4])
  | succ k4 =>
   rw [plunderlaw8_spoil_l4] at H
   refine wp_seq ?_
   refine sr ?_
   refine oo [48, 49] [vI g40, pA b9 4] hr fun a hr => ?_
   refine ld (wn rfl) hr (.slice ca5 p0.Marks.length cc6) (h.cell 4 rfl) fun a hr => ?_
   refine oo [51, 52] [vI ((p0.Marks.length : Nat) : Int), vB (decide (g40 < ((p0.Marks.length : Nat) : Int)))] hr fun a hr => ?_
   refine ln ?_
   refine cD hr H (fun c41 H => ?_) fun c41 H => ?_
   ·
    refine wp_skip ?_
    refine then_normal ?_
    refine wp_seq ?_
    refine wp_block ?_
    refine wp_region_lit ?_
    refine o1 hr (pA b9 4) fun a hr => ?_
    refine ld (wn rfl) hr (.slice ca5 p0.Marks.length cc6) (h.cell 4 rfl) fun a hr => ?_
    obtain ⟨c42, H⟩ := gd H
    refine o1 hr (vI g40) fun a hr => ?_
    refine opv (wn rfl) hr (pA (blk ca5) (g40.toNat * 1)) (ri_row (k := .i64) (E := 2) rfl (by kernel_rfl) (by kernel_rfl) (by kernel_rfl) (by kernel_rfl) (h.pick 3) c42) fun a hr => ?_
    replace h := h.m3
    refine stor (wn rfl) hr encZ_i64_ok h g40.toNat 0 (vI (-2)) (at_ l39 g40.toNat) (-2) (at_ok c42) fun w h => ?_
    refine wpList_nil ?_
    refine blk_normal ?_
    refine then_normal ?_
    refine wp_region_lit ?_
    refine oo [53, 54, 5] [vI g40, vI (wi (g40 + 1)), vI (wi (g40 + 1))] hr fun a hr => ?_
    refine ln ?_
    exact ⟨_, ⟨(l39.set g40.toNat (-2)), (wi (g40 + 1)), H, hr.fj (h.se 5 [1, 2, 3, 0, 4])⟩, Nat.lt_succ_self _⟩
   ·
    refine wp_exit ?_
    refine then_exit ?_
    refine then_exit ?_
    refine blk_here ?_
    refine then_normal ?_
    exact ⟨(), l39, sinj H, hr.fj h⟩
 clear h hr a; rintro _ a w ⟨l36, rfl, j, hr, h⟩
 replace H := kk1 hK37
 obtain ⟨o45, H, hK44⟩ := kd1 H
 refine cut_rule (β := Unit) (fun _ a w => ∃ l43 : List T_api_Access, l43 = o45 ∧ ∃ j, Rep 112 (lk [(1, pA b9 0)] j) a ∧ Fit z (sepL (ob86 b9 p0 ca1 cc2 ca3 cc4 ca5 cc6 ca7 cc8 :: rowOf 3 1 encZ_i64 (.slice ca1 p0.Holders.length cc2) l10 :: rowN 31 1 own_sl31 (.slice ca3 p0.Reads.length cc4) l17 :: rowOf 2 1 encZ_i64 (.slice ca5 p0.Marks.length cc6) l36 :: rowOf 96 6 enc_T_api_Access (.slice ca7 p0.Log.length cc8) l43 :: L)) w) ?_ ?_
 ·
  refine sr ?_
  refine o1 hr (vI 0) fun a hr => ?_
  refine ln ?_
  refine wp_block ?_
  refine loop_rule (β := Nat) id (fun m a w => ∃ l46 : List T_api_Access, ∃ g47 : Int, (plunderlaw8_spoil_l5 K p0 m l46 g47) = some o45 ∧ ∃ j, Rep 112 (lk [(1, pA b9 0), (6, vI g47)] j) a ∧ Fit z (sepL (ob86 b9 p0 ca1 cc2 ca3 cc4 ca5 cc6 ca7 cc8 :: rowOf 3 1 encZ_i64 (.slice ca1 p0.Holders.length cc2) l10 :: rowN 31 1 own_sl31 (.slice ca3 p0.Reads.length cc4) l17 :: rowOf 2 1 encZ_i64 (.slice ca5 p0.Marks.length cc6) l36 :: rowOf 96 6 enc_T_api_Access (.slice ca7 p0.Log.length cc8) l46 :: L)) w) K ⟨p0.Log, 0, H, hr.fj h⟩ ?_
  clear h hr a H; rintro k5 a w ⟨l46, g47, H, j, hr, h⟩
  cases k5 with
  | zero => exact absurd H (by simp [plunderlaw8_spoil_l5])
  | succ k5 =>
   rw [plunderlaw8_spoil_l5] at H
   refine wp_seq ?_
   refine sr ?_
   refine oo [59, 60] [vI g47, pA b9 5] hr fun a hr => ?_
   refine ld (wn rfl) hr (.slice ca7 p0.Log.length cc8) (h.cell 5 rfl) fun a hr => ?_
   refine oo [62, 63] [vI ((p0.Log.length : Nat) : Int), vB (decide (g47 < ((p0.Log.length : Nat) : Int)))] hr fun a hr => ?_
   refine ln ?_
   refine cD hr H (fun c48 H => ?_) fun c48 H => ?_
   ·
    refine wp_skip ?_
    refine then_normal ?_
    refine wp_seq ?_
    refine wp_block ?_
    refine wp_region_lit ?_
    refine o1 hr (pA b9 5) fun a hr => ?_
    refine ld (wn rfl) hr (.slice ca7 p0.Log.length cc8) (h.cell 5 rfl) fun a hr => ?_
    obtain ⟨c49, H⟩ := gd H
    refine oo [68, 69] [vI g47, .agg #[vI (-3), vI 0, vI 0, vI 0, vI 0, vB false]] hr fun a hr => ?_
    refine opv (wn rfl) hr (pA (blk ca7) (g47.toNat * 6)) (ri_row (k := .i64) (E := 96) rfl (by kernel_rfl) (by kernel_rfl) (by kernel_rfl) (by kernel_rfl) (h.pick 4) c49) fun a hr => ?_
    replace h := h.m4
    refine op_stores_row (wn rfl) rfl hr rfl (by kernel_rfl) (by kernel_rfl) (vs := [vI (-3), vI 0, vI 0, vI 0, vI 0, vB false]) rfl (by kernel_rfl) enc_T_api_Access_ok h (i := g47.toNat) (q := (⟨-3, 0, 0, 0, 0, false⟩ : T_api_Access)) (at_okL c49) rfl fun w h => ?_
    refine wpList_nil ?_
    refine blk_normal ?_
    refine then_normal ?_
    refine wp_region_lit ?_
    refine oo [64, 65, 6] [vI g47, vI (wi (g47 + 1)), vI (wi (g47 + 1))] hr fun a hr => ?_
    refine ln ?_
    exact ⟨_, ⟨(l46.set g47.toNat (⟨-3, 0, 0, 0, 0, false⟩ : T_api_Access)), (wi (g47 + 1)), H, hr.fj (h.se 5 [1, 2, 3, 4, 0])⟩, Nat.lt_succ_self _⟩
   ·
    refine wp_exit ?_
    refine then_exit ?_
    refine then_exit ?_
    refine blk_here ?_
    refine then_normal ?_
    exact ⟨(), l46, sinj H, hr.fj h⟩
 clear h hr a; rintro _ a w ⟨l43, rfl, j, hr, h⟩
 replace H := kk1 hK44
 obtain ⟨o60, H, hK59⟩ := kd3 H
 refine cut_rule (β := Unit) (fun _ a w => ∃ ca50 : Option Addr, ∃ cc51 : Nat, ∃ ca53 : Option Addr, ∃ cc54 : Nat, ∃ ca56 : Option Addr, ∃ cc57 : Nat, ∃ l52 : List T_api_Access, ∃ l55 : List Int, ∃ l58 : List Int, (l52, l55, l58) = o60 ∧ ∃ j, Rep 112 (lk [(1, pA b9 0)] j) a ∧ Fit z (sepL (twoOf 96 6 enc_T_api_Access (.slice ca50 l52.length cc51) l52 (.slice ca7 p0.Log.length cc8) l43 :: twoOf 2 1 encZ_i64 (.slice ca53 l55.length cc54) l55 (.slice ca5 p0.Marks.length cc6) l36 :: twoOf 3 1 encZ_i64 (.slice ca56 l58.length cc57) l58 (.slice ca1 p0.Holders.length cc2) l10 :: pts b9 (.cells #[vB p0.Done, vI p0.Steps, .slice ca56 l58.length cc57, .slice ca3 p0.Reads.length cc4, .slice ca53 l55.length cc54, .slice ca50 l52.length cc51] 86) :: rowN 31 1 own_sl31 (.slice ca3 p0.Reads.length cc4) l17 :: L)) w) ?_ ?_
 ·
  refine sr ?_
  refine o1 hr (vI 0) fun a hr => ?_
  refine ln ?_
  refine wp_block ?_
  replace h := h.m1
  replace h := h.two_in
  replace h := h.m3
  replace h := h.two_in
  replace h := h.m4
  replace h := h.two_in
  replace h := h.m3.m1
  have hn70 : p0.Log.length = l43.length := h.twoOf_n; replace h := Fit.ren1 hn70 (fun q_ => twoOf 96 6 enc_T_api_Access (.slice ca7 q_ cc8) l43 (.slice ca7 p0.Log.length cc8) l43) (fun q_ => pts b9 (.cells #[vB p0.Done, vI p0.Steps, .slice ca1 p0.Holders.length cc2, .slice ca3 p0.Reads.length cc4, .slice ca5 p0.Marks.length cc6, .slice ca7 q_ cc8] 86)) h
  replace h := h.m1.m2
  have hn71 : p0.Marks.length = l36.length := h.twoOf_n; replace h := Fit.ren1 hn71 (fun q_ => twoOf 2 1 encZ_i64 (.slice ca5 q_ cc6) l36 (.slice ca5 p0.Marks.length cc6) l36) (fun q_ => pts b9 (.cells #[vB p0.Done, vI p0.Steps, .slice ca1 p0.Holders.length cc2, .slice ca3 p0.Reads.length cc4, .slice ca5 q_ cc6, .slice ca7 l43.length cc8] 86)) h
  replace h := h.m1.m3
  have hn72 : p0.Holders.length = l10.length := h.twoOf_n; replace h := Fit.ren1 hn72 (fun q_ => twoOf 3 1 encZ_i64 (.slice ca1 q_ cc2) l10 (.slice ca1 p0.Holders.length cc2) l10) (fun q_ => pts b9 (.cells #[vB p0.Done, vI p0.Steps, .slice ca1 q_ cc2, .slice ca3 p0.Reads.length cc4, .slice ca5 l36.length cc6, .slice ca7 l43.length cc8] 86)) h
  refine loop_rule (β := Nat) id (fun m a w => ∃ ca61 : Option Addr, ∃ cc62 : Nat, ∃ ca64 : Option Addr, ∃ cc65 : Nat, ∃ ca67 : Option Addr, ∃ cc68 : Nat, ∃ l63 : List T_api_Access, ∃ l66 : List Int, ∃ l69 : List Int, ∃ g70 : Int, (plunderlaw8_spoil_l6 K m l63 l66 l69 g70) = some o60 ∧ ∃ j, Rep 112 (lk [(1, pA b9 0), (7, vI g70)] j) a ∧ Fit z (sepL (twoOf 96 6 enc_T_api_Access (.slice ca61 l63.length cc62) l63 (.slice ca7 p0.Log.length cc8) l43 :: twoOf 2 1 encZ_i64 (.slice ca64 l66.length cc65) l66 (.slice ca5 p0.Marks.length cc6) l36 :: twoOf 3 1 encZ_i64 (.slice ca67 l69.length cc68) l69 (.slice ca1 p0.Holders.length cc2) l10 :: pts b9 (.cells #[vB p0.Done, vI p0.Steps, .slice ca67 l69.length cc68, .slice ca3 p0.Reads.length cc4, .slice ca64 l66.length cc65, .slice ca61 l63.length cc62] 86) :: rowN 31 1 own_sl31 (.slice ca3 p0.Reads.length cc4) l17 :: L)) w) K ⟨ca7, cc8, ca5, cc6, ca1, cc2, l43, l36, l10, 0, H, hr.fj (h.se 5 [3, 2, 0, 1, 4])⟩ ?_
  clear h hr a H; rintro k6 a w ⟨ca61, cc62, ca64, cc65, ca67, cc68, l63, l66, l69, g70, H, j, hr, h⟩
  cases k6 with
  | zero => exact absurd H (by simp [plunderlaw8_spoil_l6])
  | succ k6 =>
   rw [plunderlaw8_spoil_l6] at H
   refine wp_seq ?_
   refine sr ?_
   refine oo [71, 72] [vI g70, vB (decide (g70 < 64))] hr fun a hr => ?_
   refine ln ?_
   refine cD hr H (fun c74 H => ?_) fun c74 H => ?_
   ·
    refine wp_skip ?_
    refine then_normal ?_
    refine wp_seq ?_
    refine wp_block ?_
    refine sr ?_
    refine o1 hr (pA b9 2) fun a hr => ?_
    refine ld (wn rfl) hr (.slice ca67 l69.length cc68) ((h.pick 3).cell 2 rfl) fun a hr => ?_
    refine onew (wn rfl) hr h (fun b => .slice (some ⟨b, 0, none⟩) 1 1) (#[vI (-11)]) 3 fun b75 w a h hr => ?_
    replace h := h.m3
    obtain ⟨c78, H⟩ := gd H
    refine op_append_two (n0 := l69.length) (c := 1) (bytes := 8) (wn rfl) rfl rfl hr rfl (by kernel_rfl) rfl (by kernel_rfl) encZ_i64_ok (E := 3) (by kernel_rfl) (by kernel_rfl) h (news := [-11]) (m := 1) rfl ((h.pick 1).news rfl) c78 rfl fun ca76 cc77 w a h hr => ?_
    refine o1 hr (pA b9 2) fun a hr => ?_
    replace h := h.m4
    refine st1 (wn rfl) hr h 2 (.slice ca76 (l69 ++ [-11]).length cc77) (pts b9 (.cells #[vB p0.Done, vI p0.Steps, .slice ca76 (l69 ++ [-11]).length cc77, .slice ca3 p0.Reads.length cc4, .slice ca64 l66.length cc65, .slice ca61 l63.length cc62] 86)) fun w h => ?_
    refine ln ?_
    refine sr ?_
    refine o1 hr (pA b9 4) fun a hr => ?_
    refine ld (wn rfl) hr (.slice ca64 l66.length cc65) (h.cell 4 rfl) fun a hr => ?_
    refine onew (wn rfl) hr h (fun b => .slice (some ⟨b, 0, none⟩) 1 1) (#[vI (-12)]) 2 fun b79 w a h hr => ?_
    replace h := h.m5
    obtain ⟨c82, H⟩ := gd H
    refine op_append_two (n0 := l66.length) (c := 1) (bytes := 8) (wn rfl) rfl rfl hr rfl (by kernel_rfl) rfl (by kernel_rfl) encZ_i64_ok (E := 2) (by kernel_rfl) (by kernel_rfl) h (news := [-12]) (m := 1) rfl ((h.pick 1).news rfl) c82 rfl fun ca80 cc81 w a h hr => ?_
    refine o1 hr (pA b9 4) fun a hr => ?_
    replace h := h.m2
    refine st1 (wn rfl) hr h 4 (.slice ca80 (l66 ++ [-12]).length cc81) (pts b9 (.cells #[vB p0.Done, vI p0.Steps, .slice ca76 (l69 ++ [-11]).length cc77, .slice ca3 p0.Reads.length cc4, .slice ca80 (l66 ++ [-12]).length cc81, .slice ca61 l63.length cc62] 86)) fun w h => ?_
    refine ln ?_
    refine wp_region_lit ?_
    refine o1 hr (pA b9 5) fun a hr => ?_
    refine ld (wn rfl) hr (.slice ca61 l63.length cc62) (h.cell 5 rfl) fun a hr => ?_
    refine o1 hr (.agg #[vI (-13), vI 0, vI 0, vI 0, vI 0, vB false]) fun a hr => ?_
    refine onew (wn rfl) hr h (fun b => .slice (some ⟨b, 0, none⟩) 1 1) (#[vI (-13), vI 0, vI 0, vI 0, vI 0, vB false]) 96 fun b83 w a h hr => ?_
    replace h := h.m6
    obtain ⟨c86, H⟩ := gd H
    refine op_append_two (n0 := l63.length) (c := 1) (bytes := 48) (wn rfl) rfl rfl hr rfl (by kernel_rfl) rfl (by kernel_rfl) enc_T_api_Access_ok (E := 96) (by kernel_rfl) (by kernel_rfl) h (news := [(⟨-13, 0, 0, 0, 0, false⟩ : T_api_Access)]) (m := 1) rfl ((h.pick 1).news rfl) c86 rfl fun ca84 cc85 w a h hr => ?_
    refine o1 hr (pA b9 5) fun a hr => ?_
    replace h := h.m2
    refine st1 (wn rfl) hr h 5 (.slice ca84 (l63 ++ [(⟨-13, 0, 0, 0, 0, false⟩ : T_api_Access)]).length cc85) (pts b9 (.cells #[vB p0.Done, vI p0.Steps, .slice ca76 (l69 ++ [-11]).length cc77, .slice ca3 p0.Reads.length cc4, .slice ca80 (l66 ++ [-12]).length cc81, .slice ca84 (l63 ++ [(⟨-13, 0, 0, 0, 0, false⟩ : T_api_Access)]).length cc85] 86)) fun w h => ?_
    refine wpList_nil ?_
    refine blk_normal ?_
    refine then_normal ?_
    refine wp_region_lit ?_
    refine oo [73, 74, 7] [vI g70, vI (wi (g70 + 1)), vI (wi (g70 + 1))] hr fun a hr => ?_
    refine ln ?_
    exact ⟨_, ⟨ca84, cc85, ca80, cc81, ca76, cc77, (l63 ++ [(⟨-13, 0, 0, 0, 0, false⟩ : T_api_Access)]), (l66 ++ [-12]), (l69 ++ [-11]), (wi (g70 + 1)), H, hr.fj (h.se 8 [1, 3, 5, 0, 7])⟩, Nat.lt_succ_self _⟩
   ·
    refine wp_exit ?_
    refine then_exit ?_
    refine then_exit ?_
    refine blk_here ?_
    refine then_normal ?_
    exact ⟨(), ca61, cc62, ca64, cc65, ca67, cc68, l63, l66, l69, sinj H, hr.fj h⟩
 clear h hr a; rintro _ a w ⟨ca50, cc51, ca53, cc54, ca56, cc57, l52, l55, l58, rfl, j, hr, h⟩
 replace H := kk3 hK59
 refine sr ?_
 refine o1 hr (vI 0) fun a hr => ?_
 refine ln ?_
 refine wp_block ?_
 refine loop_rule (β := Nat) id (fun m a w => ∃ g87 : Int, (plunderlaw8_spoil_l7 K p0 l10 l17 l36 l43 m g87) = some q0 ∧ ∃ j, Rep 112 (lk [(1, pA b9 0), (8, vI g87)] j) a ∧ Fit z (sepL (twoOf 96 6 enc_T_api_Access (.slice ca50 l52.length cc51) l52 (.slice ca7 p0.Log.length cc8) l43 :: twoOf 2 1 encZ_i64 (.slice ca53 l55.length cc54) l55 (.slice ca5 p0.Marks.length cc6) l36 :: twoOf 3 1 encZ_i64 (.slice ca56 l58.length cc57) l58 (.slice ca1 p0.Holders.length cc2) l10 :: pts b9 (.cells #[vB p0.Done, vI p0.Steps, .slice ca56 l58.length cc57, .slice ca3 p0.Reads.length cc4, .slice ca53 l55.length cc54, .slice ca50 l52.length cc51] 86) :: rowN 31 1 own_sl31 (.slice ca3 p0.Reads.length cc4) l17 :: L)) w) K ⟨0, H, hr.fj h⟩ ?_
 clear h hr a H; rintro k7 a w ⟨g87, H, j, hr, h⟩
 cases k7 with
 | zero => exact absurd H (by simp [plunderlaw8_spoil_l7])
 | succ k7 =>
  rw [plunderlaw8_spoil_l7] at H
  refine wp_seq ?_
  refine sr ?_
  refine oo [91, 92] [vI g87, pA b9 3] hr fun a hr => ?_
  refine ld (wn rfl) hr (.slice ca3 p0.Reads.length cc4) ((h.pick 3).cell 3 rfl) fun a hr => ?_
  refine oo [94, 95] [vI ((p0.Reads.length : Nat) : Int), vB (decide (g87 < ((p0.Reads.length : Nat) : Int)))] hr fun a hr => ?_
  refine ln ?_
  refine cD hr H (fun c88 H => ?_) fun c88 H => ?_
  ·
   refine wp_skip ?_
   refine then_normal ?_
   obtain ⟨o90, H, hK89⟩ := kd0 H
   refine cut_rule (β := Unit) (fun _ a w => () = o90 ∧ ∃ j, Rep 112 (lk [(1, pA b9 0), (8, vI g87)] j) a ∧ Fit z (sepL (twoOf 96 6 enc_T_api_Access (.slice ca50 l52.length cc51) l52 (.slice ca7 p0.Log.length cc8) l43 :: twoOf 2 1 encZ_i64 (.slice ca53 l55.length cc54) l55 (.slice ca5 p0.Marks.length cc6) l36 :: twoOf 3 1 encZ_i64 (.slice ca56 l58.length cc57) l58 (.slice ca1 p0.Holders.length cc2) l10 :: pts b9 (.cells #[vB p0.Done, vI p0.Steps, .slice ca56 l58.length cc57, .slice ca3 p0.Reads.length cc4, .slice ca53 l55.length cc54, .slice ca50 l52.length cc51] 86) :: rowN 31 1 own_sl31 (.slice ca3 p0.Reads.length cc4) l17 :: L)) w) ?_ ?_
   ·
    refine wp_block ?_
    refine sr ?_
    refine o1 hr (pA b9 3) fun a hr => ?_
    refine ld (wn rfl) hr (.slice ca3 p0.Reads.length cc4) ((h.pick 3).cell 3 rfl) fun a hr => ?_
    obtain ⟨c91, H⟩ := gd H
    refine o1 hr (vI g87) fun a hr => ?_
    refine opv (wn rfl) hr (pA (blk ca3) (g87.toNat * 1)) (ri_rowN (k := .i64) (E := 31) rfl (by kernel_rfl) (by kernel_rfl) (by kernel_rfl) (by kernel_rfl) (h.pick 4) c91) fun a hr => ?_
    obtain ⟨cs95, h⟩ := h.m4.rowN_take (at_ok c91)
    obtain ⟨ca92, cc93, e94, h⟩ := own_sl31_op (h.m1); subst e94
    refine ld (wn rfl) hr (.slice ca92 (at_ l17 g87.toNat).length cc93) ((h.pick 1).rowH_cell (by decide) (f := 0) rfl) fun a hr => ?_
    refine o1 hr (.slice ca92 (at_ l17 g87.toNat).length cc93) fun a hr => ?_
    refine ln ?_
    refine sr ?_
    refine o1 hr (vI 0) fun a hr => ?_
    refine ln ?_
    refine wp_block ?_
    replace h := h.two_in
    refine loop_rule (β := Nat) id (fun m a w => ∃ ca96 : Option Addr, ∃ cc97 : Nat, ∃ l98 : List Int, ∃ g99 : Int, (plunderlaw8_spoil_l8 K g87 m l98 g99) = some o90 ∧ ∃ j, Rep 112 (lk [(1, pA b9 0), (8, vI g87), (9, .slice ca96 l98.length cc97), (10, vI g99)] j) a ∧ Fit z (sepL (twoOf 2 1 encZ_i64 (.slice ca96 l98.length cc97) l98 (.slice ca92 (at_ l17 g87.toNat).length cc93) (at_ l17 g87.toNat) :: twoOf 96 6 enc_T_api_Access (.slice ca50 l52.length cc51) l52 (.slice ca7 p0.Log.length cc8) l43 :: twoOf 2 1 encZ_i64 (.slice ca53 l55.length cc54) l55 (.slice ca5 p0.Marks.length cc6) l36 :: twoOf 3 1 encZ_i64 (.slice ca56 l58.length cc57) l58 (.slice ca1 p0.Holders.length cc2) l10 :: pts b9 (.cells #[vB p0.Done, vI p0.Steps, .slice ca56 l58.length cc57, .slice ca3 p0.Reads.length cc4, .slice ca53 l55.length cc54, .slice ca50 l52.length cc51] 86) :: rowH 31 1 own_sl31 (.slice ca3 p0.Reads.length cc4) l17 g87.toNat [.slice ca92 (at_ l17 g87.toNat).length cc93] :: L)) w) K ⟨ca92, cc93, (at_ l17 g87.toNat), 0, H, hr.fj (h.se 6 [0, 2, 3, 4, 5, 1])⟩ ?_
    clear h hr a H; rintro k8 a w ⟨ca96, cc97, l98, g99, H, j, hr, h⟩
    cases k8 with
    | zero => exact absurd H (by simp [plunderlaw8_spoil_l8])
    | succ k8 =>
     rw [plunderlaw8_spoil_l8] at H
     refine wp_seq ?_
     refine sr ?_
     refine oo [103, 104] [vI g99, vB (decide (g99 < 64))] hr fun a hr => ?_
     refine ln ?_
     refine cD hr H (fun c100 H => ?_) fun c100 H => ?_
     ·
      refine wp_skip ?_
      refine then_normal ?_
      refine wp_seq ?_
      refine wp_block ?_
      refine wp_region_lit ?_
      refine oo [107, 108, 109] [.slice ca96 l98.length cc97, vI g87, vI (wi ((-5000 : Int) - g87))] hr fun a hr => ?_
      refine onew (wn rfl) hr h (fun b => .slice (some ⟨b, 0, none⟩) 1 1) (#[vI (wi ((-5000 : Int) - g87))]) 2 fun b101 w a h hr => ?_
      replace h := h.m1
      obtain ⟨c104, H⟩ := gd H
      refine op_append_two (n0 := l98.length) (c := 1) (bytes := 8) (wn rfl) rfl rfl hr rfl (by kernel_rfl) rfl (by kernel_rfl) encZ_i64_ok (E := 2) (by kernel_rfl) (by kernel_rfl) h (news := [wi ((-5000 : Int) - g87)]) (m := 1) rfl ((h.pick 1).news rfl) c104 rfl fun ca102 cc103 w a h hr => ?_
      refine o1 hr (.slice ca102 (l98 ++ [wi ((-5000 : Int) - g87)]).length cc103) fun a hr => ?_
      refine wpList_nil ?_
      refine blk_normal ?_
      refine then_normal ?_
      refine wp_region_lit ?_
      refine oo [105, 106, 10] [vI g99, vI (wi (g99 + 1)), vI (wi (g99 + 1))] hr fun a hr => ?_
      refine ln ?_
      exact ⟨_, ⟨ca102, cc103, (l98 ++ [wi ((-5000 : Int) - g87)]), (wi (g99 + 1)), H, hr.fj (h.se 7 [0, 2, 3, 4, 5, 6])⟩, Nat.lt_succ_self _⟩
     ·
      refine wp_exit ?_
      refine then_exit ?_
      refine then_exit ?_
      refine blk_here ?_
      refine blk_normal ?_
      refine then_normal ?_
      replace h := h.two_out encZ_i64_ok
      replace h := h.m5.m1
      replace h := own_sl31_sh (x := (at_ l17 g87.toNat)) h
      replace h := (h.m1).rowH_same
      exact ⟨(), sinj H, hr.fj (h.se 5 [1, 2, 3, 4, 0])⟩
   clear h hr a; rintro _ a w ⟨rfl, j, hr, h⟩
   replace H := kk0 hK89
   refine wp_region_lit ?_
   refine oo [96, 97, 8] [vI g87, vI (wi (g87 + 1)), vI (wi (g87 + 1))] hr fun a hr => ?_
   refine ln ?_
   exact ⟨_, ⟨(wi (g87 + 1)), H, hr.fj h⟩, Nat.lt_succ_self _⟩
  ·
   refine wp_exit ?_
   refine then_exit ?_
   refine then_exit ?_
   refine blk_here ?_
   refine end_norm0 rfl hr ?_
   replace h := h.two_out enc_T_api_Access_ok
   replace h := h.m1
   replace h := h.two_out encZ_i64_ok
   replace h := h.m2
   replace h := h.two_out encZ_i64_ok
   replace H := ej1 H; subst H
   exact ⟨rfl, h.se 5 [0, 4, 1, 2]⟩

def plunderlaw8_spoilt_l1 (K : Nat) (p0 : T_api_JoinRun) : Nat → Int → Option ((Unit) ⊕ (Bool))
  | 0, _ => none
  | k1 + 1, g12 => (if g12 < ((p0.Holders.length : Nat) : Int) then if inr_ g12 p0.Holders.length then (if (at_ p0.Holders g12.toNat) = (-1) then (plunderlaw8_spoilt_l1 K p0 k1 (wi (g12 + 1))) else some (.inr false)) else none else some (.inl ()))
def plunderlaw8_spoilt_l3 (K : Nat) (p0 : T_api_JoinRun) (g18 : Int) : Nat → Int → Option ((Unit) ⊕ ((Unit) ⊕ (Bool)))
  | 0, _ => none
  | k3 + 1, g22 => if inr_ g18 p0.Reads.length then (if g22 < (((at_ p0.Reads g18.toNat).length : Nat) : Int) then if inr_ g22 (at_ p0.Reads g18.toNat).length then (if (at_ (at_ p0.Reads g18.toNat) g22.toNat) = (wi ((-1000 : Int) - g18)) then (plunderlaw8_spoilt_l3 K p0 g18 k3 (wi (g22 + 1))) else some (.inr (.inr false))) else none else some (.inl ())) else none
def plunderlaw8_spoilt_l2 (K : Nat) (p0 : T_api_JoinRun) : Nat → Int → Option ((Unit) ⊕ (Bool))
  | 0, _ => none
  | k2 + 1, g18 => (if g18 < ((p0.Reads.length : Nat) : Int) then jn0 ((plunderlaw8_spoilt_l3 K p0 g18 K 0)) ((plunderlaw8_spoilt_l2 K p0 k2 (wi (g18 + 1)))) else some (.inl ()))
def plunderlaw8_spoilt_l4 (K : Nat) (p0 : T_api_JoinRun) : Nat → Int → Option ((Unit) ⊕ (Bool))
  | 0, _ => none
  | k4 + 1, g33 => (if g33 < ((p0.Marks.length : Nat) : Int) then if inr_ g33 p0.Marks.length then (if (at_ p0.Marks g33.toNat) = (-2) then (plunderlaw8_spoilt_l4 K p0 k4 (wi (g33 + 1))) else some (.inr false)) else none else some (.inl ()))
def plunderlaw8_spoilt_l5 (K : Nat) (p0 : T_api_JoinRun) : Nat → Int → Option (Bool)
  | 0, _ => none
  | k5 + 1, g37 => (if g37 < ((p0.Log.length : Nat) : Int) then if inr_ g37 p0.Log.length then (if at_ p0.Log g37.toNat = (⟨-3, 0, 0, 0, 0, false⟩ : T_api_Access) then (plunderlaw8_spoilt_l5 K p0 k5 (wi (g37 + 1))) else some false) else none else some true)
/-- plunder/plunderlaw8.spoilt -/
def plunderlaw8_spoilt (K : Nat) (p0 : T_api_JoinRun) : Option (Bool) :=
  jn0 ((plunderlaw8_spoilt_l1 K p0 K 0)) (jn0 ((plunderlaw8_spoilt_l2 K p0 K 0)) (jn0 ((plunderlaw8_spoilt_l4 K p0 K 0)) ((plunderlaw8_spoilt_l5 K p0 K 0))))

theorem plunderlaw8_spoilt_ok {z w : World} {L : List HProp} {K : Nat} {p0 : T_api_JoinRun} {ca1 ca3 ca5 ca7 : Option Addr} {cc2 cc4 cc6 cc8 : Nat} {r0 : Bool} (H : plunderlaw8_spoilt K p0 = some r0) (h : Fit z (sepL (ro3 ca1 cc2 p0.Holders :: rn31 ca3 cc4 p0.Reads :: ro2 ca5 cc6 p0.Marks :: ro96 ca7 cc8 p0.Log :: L)) w)  :
    Calls Try.prog 46 #[.agg #[vB p0.Done, vI p0.Steps, .slice ca1 p0.Holders.length cc2, .slice ca3 p0.Reads.length cc4, .slice ca5 p0.Marks.length cc6, .slice ca7 p0.Log.length cc8]] w fun e w => e = .returned (vB r0) ∧ Fit z (sepL (ro3 ca1 cc2 p0.Holders :: rn31 ca3 cc4 p0.Reads :: ro2 ca5 cc6 p0.Marks :: ro96 ca7 cc8 p0.Log :: L)) w := by
 unfold plunderlaw8_spoilt at H
 refine enter Try.func46 rfl 76 rfl rfl [(0, .agg #[vB p0.Done, vI p0.Steps, .slice ca1 p0.Holders.length cc2, .slice ca3 p0.Reads.length cc4, .slice ca5 p0.Marks.length cc6, .slice ca7 p0.Log.length cc8])] ⟨rfl, trivial⟩ ?_
 intro j a hr
 refine sr ?_
 refine onew (wn rfl) hr h nb (#[vB p0.Done, vI p0.Steps, .slice ca1 p0.Holders.length cc2, .slice ca3 p0.Reads.length cc4, .slice ca5 p0.Marks.length cc6, .slice ca7 p0.Log.length cc8]) 86 fun b9 w a h hr => ?_
 refine o1 hr (vB false) fun a hr => ?_
 refine ln ?_
 obtain ⟨o11, H, hK10⟩ := jd0 H
 refine cut_rule (β := Unit) (fun _ a w => .inl () = o11 ∧ ∃ j, Rep 76 (lk [(1, pA b9 0)] j) a ∧ Fit z (sepL (ob86 b9 p0 ca1 cc2 ca3 cc4 ca5 cc6 ca7 cc8 :: ro3 ca1 cc2 p0.Holders :: rn31 ca3 cc4 p0.Reads :: ro2 ca5 cc6 p0.Marks :: ro96 ca7 cc8 p0.Log :: L)) w) ?_ ?_
 ·
  refine sr ?_
  refine o1 hr (vI 0) fun a hr => ?_
  refine ln ?_
  refine wp_block ?_
  refine loop_rule (β := Nat) id (fun m a w => ∃ g12 : Int, (plunderlaw8_spoilt_l1 K p0 m g12) = some o11 ∧ ∃ j, Rep 76 (lk [(1, pA b9 0), (3, vI g12)] j) a ∧ Fit z (sepL (ob86 b9 p0 ca1 cc2 ca3 cc4 ca5 cc6 ca7 cc8 :: ro3 ca1 cc2 p0.Holders :: rn31 ca3 cc4 p0.Reads :: ro2 ca5 cc6 p0.Marks :: ro96 ca7 cc8 p0.Log :: L)) w) K ⟨0, H, hr.fj h⟩ ?_
  clear h hr a H; rintro k1 a w ⟨g12, H, j, hr, h⟩
  cases k1 with
  | zero => exact absurd H (by simp [plunderlaw8_spoilt_l1])
  | succ k1 =>
   rw [plunderlaw8_spoilt_l1] at H
   refine wp_seq ?_
   refine sr ?_
   refine oo [8, 9] [vI g12, pA b9 2] hr fun a hr => ?_
   refine ld (wn rfl) hr (.slice ca1 p0.Holders.length cc2) (h.cell 2 rfl) fun a hr => ?_
   refine oo [11, 12] [vI ((p0.Holders.length : Nat) : Int), vB (decide (g12 < ((p0.Holders.length : Nat) : Int)))] hr fun a hr => ?_
   refine ln ?_
   refine cD hr H (fun c13 H => ?_) fun c13 H => ?_
   ·
    refine wp_skip ?_
    refine then_normal ?_
    refine wp_seq ?_
    refine wp_block ?_
    refine sr ?_
    refine o1 hr (pA b9 2) fun a hr => ?_
    refine ld (wn rfl) hr (.slice ca1 p0.Holders.length cc2) (h.cell 2 rfl) fun a hr => ?_
    obtain ⟨c14, H⟩ := gd H
    refine o1 hr (vI g12) fun a hr => ?_
    refine opv (wn rfl) hr (pA (blk ca1) (g12.toNat * 1)) (ri_row (k := .i64) (E := 3) rfl (by kernel_rfl) (by kernel_rfl) (by kernel_rfl) (by kernel_rfl) (h.pick 1) c14) fun a hr => ?_
    refine ld (wn rfl) hr (vI (at_ p0.Holders g12.toNat)) ((h.pick 1).row_cell encZ_i64_ok (f := 0) (at_ok c14) rfl) fun a hr => ?_
    refine o1 hr (vB ((at_ p0.Holders g12.toNat) != (-1))) fun a hr => ?_
    refine ln ?_
    refine cN hr H (fun c15 H => ?_) fun c15 H => ?_
    ·
     refine wp_skip ?_
     refine blk_normal ?_
     refine then_normal ?_
     refine wp_region_lit ?_
     refine oo [13, 14, 3] [vI g12, vI (wi (g12 + 1)), vI (wi (g12 + 1))] hr fun a hr => ?_
     refine ln ?_
     exact ⟨_, ⟨(wi (g12 + 1)), H, hr.fj h⟩, Nat.lt_succ_self _⟩
    ·
     refine sr ?_
     refine o1 hr (vB false) fun a hr => ?_
     refine ln ?_
     refine wp_ret ?_
     refine blk_ret ?_
     refine then_ret ?_
     refine then_ret ?_
     refine blk_ret ?_
     refine then_ret ?_
     refine end_ret1 (v := vB false) rfl hr (by kernel_rfl) ?_
     replace H := jx0 H hK10
     replace H := ej1 H; subst H
     exact ⟨rfl, h.se 5 [1, 2, 3, 4]⟩
   ·
    refine wp_exit ?_
    refine then_exit ?_
    refine then_exit ?_
    refine blk_here ?_
    refine then_normal ?_
    exact ⟨(), sinj H, hr.fj h⟩
 clear h hr a; rintro _ a w ⟨rfl, j, hr, h⟩
 replace H := jk0 hK10
 obtain ⟨o17, H, hK16⟩ := jd0 H
 refine cut_rule (β := Unit) (fun _ a w => .inl () = o17 ∧ ∃ j, Rep 76 (lk [(1, pA b9 0)] j) a ∧ Fit z (sepL (ob86 b9 p0 ca1 cc2 ca3 cc4 ca5 cc6 ca7 cc8 :: ro3 ca1 cc2 p0.Holders :: rn31 ca3 cc4 p0.Reads :: ro2 ca5 cc6 p0.Marks :: ro96 ca7 cc8 p0.Log :: L)) w) ?_ ?_
 ·
  refine sr ?_
  refine o1 hr (vI 0) fun a hr => ?_
  refine ln ?_
  refine wp_block ?_
  refine loop_rule (β := Nat) id (fun m a w => ∃ g18 : Int, (plunderlaw8_spoilt_l2 K p0 m g18) = some o17 ∧ ∃ j, Rep 76 (lk [(1, pA b9 0), (4, vI g18)] j) a ∧ Fit z (sepL (ob86 b9 p0 ca1 cc2 ca3 cc4 ca5 cc6 ca7 cc8 :: ro3 ca1 cc2 p0.Holders :: rn31 ca3 cc4 p0.Reads :: ro2 ca5 cc6 p0.Marks :: ro96 ca7 cc8 p0.Log :: L)) w) K ⟨0, H, hr.fj h⟩ ?_
  clear h hr a H; rintro k2 a w ⟨g18, H, j, hr, h⟩
  cases k2 with
  | zero => exact absurd H (by simp [plunderlaw8_spoilt_l2])
  | succ k2 =>
   rw [plunderlaw8_spoilt_l2] at H
   refine wp_seq ?_
   refine sr ?_
   refine oo [21, 22] [vI g18, pA b9 3] hr fun a hr => ?_
   refine ld (wn rfl) hr (.slice ca3 p0.Reads.length cc4) (h.cell 3 rfl) fun a hr => ?_
   refine oo [24, 25] [vI ((p0.Reads.length : Nat) : Int), vB (decide (g18 < ((p0.Reads.length : Nat) : Int)))] hr fun a hr => ?_
   refine ln ?_
   refine cD hr H (fun c19 H => ?_) fun c19 H => ?_
   ·
    refine wp_skip ?_
    refine then_normal ?_
    obtain ⟨o21, H, hK20⟩ := jd0 H
    refine cut_rule (β := Unit) (fun _ a w => .inl () = o21 ∧ ∃ j, Rep 76 (lk [(1, pA b9 0), (4, vI g18)] j) a ∧ Fit z (sepL (ob86 b9 p0 ca1 cc2 ca3 cc4 ca5 cc6 ca7 cc8 :: ro3 ca1 cc2 p0.Holders :: rn31 ca3 cc4 p0.Reads :: ro2 ca5 cc6 p0.Marks :: ro96 ca7 cc8 p0.Log :: L)) w) ?_ ?_
    ·
     refine wp_block ?_
     refine sr ?_
     refine o1 hr (vI 0) fun a hr => ?_
     refine ln ?_
     refine wp_block ?_
     refine loop_rule (β := Nat) id (fun m a w => ∃ g22 : Int, (plunderlaw8_spoilt_l3 K p0 g18 m g22) = some o21 ∧ ∃ j, Rep 76 (lk [(1, pA b9 0), (4, vI g18), (5, vI g22)] j) a ∧ Fit z (sepL (ob86 b9 p0 ca1 cc2 ca3 cc4 ca5 cc6 ca7 cc8 :: ro3 ca1 cc2 p0.Holders :: rn31 ca3 cc4 p0.Reads :: ro2 ca5 cc6 p0.Marks :: ro96 ca7 cc8 p0.Log :: L)) w) K ⟨0, H, hr.fj h⟩ ?_
     clear h hr a H; rintro k3 a w ⟨g22, H, j, hr, h⟩
     cases k3 with
     | zero => exact absurd H (by simp [plunderlaw8_spoilt_l3])
     | succ k3 =>
      rw [plunderlaw8_spoilt_l3] at H
      refine wp_seq ?_
      refine sr ?_
      refine oo [28, 29] [vI g22, pA b9 3] hr fun a hr => ?_
      refine ld (wn rfl) hr (.slice ca3 p0.Reads.length cc4) (h.cell 3 rfl) fun a hr => ?_
      obtain ⟨c23, H⟩ := gd H
      refine o1 hr (vI g18) fun a hr => ?_
      refine opv (wn rfl) hr (pA (blk ca3) (g18.toNat * 1)) (ri_rowN (k := .i64) (E := 31) rfl (by kernel_rfl) (by kernel_rfl) (by kernel_rfl) (by kernel_rfl) (h.pick 2) c23) fun a hr => ?_
      obtain ⟨cs27, h⟩ := h.m2.rowN_take (at_ok c23)
      obtain ⟨ca24, cc25, e26, h⟩ := own_sl31_op (h.m1); subst e26
      refine ld (wn rfl) hr (.slice ca24 (at_ p0.Reads g18.toNat).length cc25) ((h.pick 1).rowH_cell (by decide) (f := 0) rfl) fun a hr => ?_
      refine oo [34, 35] [vI (((at_ p0.Reads g18.toNat).length : Nat) : Int), vB (decide (g22 < (((at_ p0.Reads g18.toNat).length : Nat) : Int)))] hr fun a hr => ?_
      refine ln ?_
      refine cD hr H (fun c28 H => ?_) fun c28 H => ?_
      ·
       refine wp_skip ?_
       refine then_normal ?_
       refine wp_seq ?_
       refine wp_block ?_
       refine sr ?_
       refine o1 hr (pA b9 3) fun a hr => ?_
       refine ld (wn rfl) hr (.slice ca3 p0.Reads.length cc4) ((h.pick 2).cell 3 rfl) fun a hr => ?_
       refine o1 hr (vI g18) fun a hr => ?_
       refine opv (wn rfl) hr (pA (blk ca3) (g18.toNat * 1)) (ri_rowH (k := .i64) (E := 31) rfl (by kernel_rfl) (by kernel_rfl) (by kernel_rfl) (by kernel_rfl) (h.pick 1) c23) fun a hr => ?_
       refine ld (wn rfl) hr (.slice ca24 (at_ p0.Reads g18.toNat).length cc25) ((h.pick 1).rowH_cell (by decide) (f := 0) rfl) fun a hr => ?_
       obtain ⟨c29, H⟩ := gd H
       refine o1 hr (vI g22) fun a hr => ?_
       refine opv (wn rfl) hr (pA (blk ca24) (g22.toNat * 1)) (ri_row (k := .i64) (E := 2) rfl (by kernel_rfl) (by kernel_rfl) (by kernel_rfl) (by kernel_rfl) h c29) fun a hr => ?_
       refine ld (wn rfl) hr (vI (at_ (at_ p0.Reads g18.toNat) g22.toNat)) (h.row_cell encZ_i64_ok (f := 0) (at_ok c29) rfl) fun a hr => ?_
       refine oo [46, 47, 48] [vI g18, vI (wi ((-1000 : Int) - g18)), vB ((at_ (at_ p0.Reads g18.toNat) g22.toNat) != (wi ((-1000 : Int) - g18)))] hr fun a hr => ?_
       refine ln ?_
       refine cN hr H (fun c30 H => ?_) fun c30 H => ?_
       ·
        refine wp_skip ?_
        refine blk_normal ?_
        refine then_normal ?_
        refine wp_region_lit ?_
        refine oo [36, 37, 5] [vI g22, vI (wi (g22 + 1)), vI (wi (g22 + 1))] hr fun a hr => ?_
        refine ln ?_
        replace h := own_sl31_sh (x := (at_ p0.Reads g18.toNat)) h
        replace h := (h.m1).rowH_same
        exact ⟨_, ⟨(wi (g22 + 1)), H, hr.fj (h.se 5 [1, 2, 0, 3, 4])⟩, Nat.lt_succ_self _⟩
       ·
        refine sr ?_
        refine o1 hr (vB false) fun a hr => ?_
        refine ln ?_
        refine wp_ret ?_
        refine blk_ret ?_
        refine then_ret ?_
        refine then_ret ?_
        refine blk_ret ?_
        refine blk_ret ?_
        refine then_ret ?_
        refine then_ret ?_
        refine blk_ret ?_
        refine then_ret ?_
        refine end_ret1 (v := vB false) rfl hr (by kernel_rfl) ?_
        replace h := own_sl31_sh (x := (at_ p0.Reads g18.toNat)) h
        replace h := (h.m1).rowH_same
        replace H := jx0 H hK20
        replace H := jx0 H hK16
        replace H := ej1 H; subst H
        exact ⟨rfl, h.se 5 [2, 0, 3, 4]⟩
      ·
       refine wp_exit ?_
       refine then_exit ?_
       refine then_exit ?_
       refine blk_here ?_
       refine blk_normal ?_
       refine then_normal ?_
       replace h := own_sl31_sh (x := (at_ p0.Reads g18.toNat)) h
       replace h := (h.m1).rowH_same
       exact ⟨(), sinj H, hr.fj (h.se 5 [1, 2, 0, 3, 4])⟩
    clear h hr a; rintro _ a w ⟨rfl, j, hr, h⟩
    replace H := jk0 hK20
    refine wp_region_lit ?_
    refine oo [26, 27, 4] [vI g18, vI (wi (g18 + 1)), vI (wi (g18 + 1))] hr fun a hr => ?_
    refine ln ?_
    exact ⟨_, ⟨(wi (g18 + 1)), H, hr.fj h⟩, Nat.lt_succ_self _⟩
   ·
    refine wp_exit ?_
    refine then_exit ?_
    refine then_exit ?_
    refine blk_here ?_
    refine then_normal ?_
    exact ⟨(), sinj H, hr.fj h⟩
 clear h hr a; rintro _ a w ⟨rfl, j, hr, h⟩
 replace H := jk0 hK16
 obtain ⟨o32, H, hK31⟩ := jd0 H
 refine cut_rule (β := Unit) (fun _ a w => .inl () = o32 ∧ ∃ j, Rep 76 (lk [(1, pA b9 0)] j) a ∧ Fit z (sepL (ob86 b9 p0 ca1 cc2 ca3 cc4 ca5 cc6 ca7 cc8 :: ro3 ca1 cc2 p0.Holders :: rn31 ca3 cc4 p0.Reads :: ro2 ca5 cc6 p0.Marks :: ro96 ca7 cc8 p0.Log :: L)) w) ?_ ?_
 ·
  refine sr ?_
  refine o1 hr (vI 0) fun a hr => ?_
  refine ln ?_
  refine wp_block ?_
  refine loop_rule (β := Nat) id (fun m a w => ∃ g33 : Int, (plunderlaw8_spoilt_l4 K p0 m g33) = some o32 ∧ ∃ j, Rep 76 (lk [(1, pA b9 0), (6, vI g33)] j) a ∧ Fit z (sepL (ob86 b9 p0 ca1 cc2 ca3 cc4 ca5 cc6 ca7 cc8 :: ro3 ca1 cc2 p0.Holders :: rn31 ca3 cc4 p0.Reads :: ro2 ca5 cc6 p0.Marks :: ro96 ca7 cc8 p0.Log :: L)) w) K ⟨0, H, hr.fj h⟩ ?_
  clear h hr a H; rintro k4 a w ⟨g33, H, j, hr, h⟩
  cases k4 with
  | zero => exact absurd H (by simp [plunderlaw8_spoilt_l4])
  | succ k4 =>
   rw [plunderlaw8_spoilt_l4] at H
   refine wp_seq ?_
   refine sr ?_
   refine oo [49, 50] [vI g33, pA b9 4] hr fun a hr => ?_
   refine ld (wn rfl) hr (.slice ca5 p0.Marks.length cc6) (h.cell 4 rfl) fun a hr => ?_
   refine oo [52, 53] [vI ((p0.Marks.length : Nat) : Int), vB (decide (g33 < ((p0.Marks.length : Nat) : Int)))] hr fun a hr => ?_
   refine ln ?_
   refine cD hr H (fun c34 H => ?_) fun c34 H => ?_
   ·
    refine wp_skip ?_
    refine then_normal ?_
    refine wp_seq ?_
    refine wp_block ?_
    refine sr ?_
    refine o1 hr (pA b9 4) fun a hr => ?_
    refine ld (wn rfl) hr (.slice ca5 p0.Marks.length cc6) (h.cell 4 rfl) fun a hr => ?_
    obtain ⟨c35, H⟩ := gd H
    refine o1 hr (vI g33) fun a hr => ?_
    refine opv (wn rfl) hr (pA (blk ca5) (g33.toNat * 1)) (ri_row (k := .i64) (E := 2) rfl (by kernel_rfl) (by kernel_rfl) (by kernel_rfl) (by kernel_rfl) (h.pick 3) c35) fun a hr => ?_
    refine ld (wn rfl) hr (vI (at_ p0.Marks g33.toNat)) ((h.pick 3).row_cell encZ_i64_ok (f := 0) (at_ok c35) rfl) fun a hr => ?_
    refine o1 hr (vB ((at_ p0.Marks g33.toNat) != (-2))) fun a hr => ?_
    refine ln ?_
    refine cN hr H (fun c36 H => ?_) fun c36 H => ?_
    ·
     refine wp_skip ?_
     refine blk_normal ?_
     refine then_normal ?_
     refine wp_region_lit ?_
     refine oo [54, 55, 6] [vI g33, vI (wi (g33 + 1)), vI (wi (g33 + 1))] hr fun a hr => ?_
     refine ln ?_
     exact ⟨_, ⟨(wi (g33 + 1)), H, hr.fj h⟩, Nat.lt_succ_self _⟩
    ·
     refine sr ?_
     refine o1 hr (vB false) fun a hr => ?_
     refine ln ?_
     refine wp_ret ?_
     refine blk_ret ?_
     refine then_ret ?_
     refine then_ret ?_
     refine blk_ret ?_
     refine then_ret ?_
     refine end_ret1 (v := vB false) rfl hr (by kernel_rfl) ?_
     replace H := jx0 H hK31
     replace H := ej1 H; subst H
     exact ⟨rfl, h.se 5 [1, 2, 3, 4]⟩
   ·
    refine wp_exit ?_
    refine then_exit ?_
    refine then_exit ?_
    refine blk_here ?_
    refine then_normal ?_
    exact ⟨(), sinj H, hr.fj h⟩
 clear h hr a; rintro _ a w ⟨rfl, j, hr, h⟩
 replace H := jk0 hK31
 refine wp_seq ?_
 refine sr ?_
 refine o1 hr (vI 0) fun a hr => ?_
 refine ln ?_
 refine wp_block ?_
 refine loop_rule (β := Nat) id (fun m a w => ∃ g37 : Int, (plunderlaw8_spoilt_l5 K p0 m g37) = some r0 ∧ ∃ j, Rep 76 (lk [(1, pA b9 0), (7, vI g37)] j) a ∧ Fit z (sepL (ob86 b9 p0 ca1 cc2 ca3 cc4 ca5 cc6 ca7 cc8 :: ro3 ca1 cc2 p0.Holders :: rn31 ca3 cc4 p0.Reads :: ro2 ca5 cc6 p0.Marks :: ro96 ca7 cc8 p0.Log :: L)) w) K ⟨0, H, hr.fj h⟩ ?_
 clear h hr a H; rintro k5 a w ⟨g37, H, j, hr, h⟩
 cases k5 with
 | zero => exact absurd H (by simp [plunderlaw8_spoilt_l5])
 | succ k5 =>
  rw [plunderlaw8_spoilt_l5] at H
  refine wp_seq ?_
  refine sr ?_
  refine oo [62, 63] [vI g37, pA b9 5] hr fun a hr => ?_
  refine ld (wn rfl) hr (.slice ca7 p0.Log.length cc8) (h.cell 5 rfl) fun a hr => ?_
  refine oo [65, 66] [vI ((p0.Log.length : Nat) : Int), vB (decide (g37 < ((p0.Log.length : Nat) : Int)))] hr fun a hr => ?_
  refine ln ?_
  refine cD hr H (fun c38 H => ?_) fun c38 H => ?_
  ·
   refine wp_skip ?_
   refine then_normal ?_
   refine wp_seq ?_
   refine wp_block ?_
   refine sr ?_
   refine o1 hr (pA b9 5) fun a hr => ?_
   refine ld (wn rfl) hr (.slice ca7 p0.Log.length cc8) (h.cell 5 rfl) fun a hr => ?_
   obtain ⟨c39, H⟩ := gd H
   refine o1 hr (vI g37) fun a hr => ?_
   refine opv (wn rfl) hr (pA (blk ca7) (g37.toNat * 6)) (ri_row (k := .i64) (E := 96) rfl (by kernel_rfl) (by kernel_rfl) (by kernel_rfl) (by kernel_rfl) (h.pick 4) c39) fun a hr => ?_
   refine ldm (wn rfl) hr (ag_T_api_Access (at_ p0.Log g37.toNat)) (cs := cl_T_api_Access (at_ p0.Log g37.toNat)) ⟨(h.pick 4).row_cell enc_T_api_Access_ok (f := 0) (at_ok c39) rfl, (h.pick 4).row_cell enc_T_api_Access_ok (f := 1) (at_ok c39) rfl, (h.pick 4).row_cell enc_T_api_Access_ok (f := 2) (at_ok c39) rfl, (h.pick 4).row_cell enc_T_api_Access_ok (f := 3) (at_ok c39) rfl, (h.pick 4).row_cell enc_T_api_Access_ok (f := 4) (at_ok c39) rfl, (h.pick 4).row_cell enc_T_api_Access_ok (f := 5) (at_ok c39) rfl, trivial⟩ fun a hr => ?_
   refine o1 hr (.agg #[vI (-3), vI 0, vI 0, vI 0, vI 0, vB false]) fun a hr => ?_
   refine opv (wn rfl) hr (vB (!(decide (at_ p0.Log g37.toNat = (⟨-3, 0, 0, 0, 0, false⟩ : T_api_Access))))) (rb (rne rfl (by kernel_rfl) (by kernel_rfl) (by kernel_rfl) (by kernel_rfl) (by kernel_rfl) (by kernel_rfl)) (congrArg (!·) (eq_T_api_Access (at_ p0.Log g37.toNat) (⟨-3, 0, 0, 0, 0, false⟩ : T_api_Access)))) fun a hr => ?_
   refine ln ?_
   refine cN hr H (fun c40 H => ?_) fun c40 H => ?_
   ·
    refine wp_skip ?_
    refine blk_normal ?_
    refine then_normal ?_
    refine wp_region_lit ?_
    refine oo [67, 68, 7] [vI g37, vI (wi (g37 + 1)), vI (wi (g37 + 1))] hr fun a hr => ?_
    refine ln ?_
    exact ⟨_, ⟨(wi (g37 + 1)), H, hr.fj h⟩, Nat.lt_succ_self _⟩
   ·
    refine sr ?_
    refine o1 hr (vB false) fun a hr => ?_
    refine ln ?_
    refine wp_ret ?_
    refine blk_ret ?_
    refine then_ret ?_
    refine then_ret ?_
    refine blk_ret ?_
    refine then_ret ?_
    refine end_ret1 (v := vB false) rfl hr (by kernel_rfl) ?_
    replace H := ej1 H; subst H
    exact ⟨rfl, h.se 5 [1, 2, 3, 4]⟩
  ·
   refine wp_exit ?_
   refine then_exit ?_
   refine then_exit ?_
   refine blk_here ?_
   refine then_normal ?_
   refine sr ?_
   refine o1 hr (vB true) fun a hr => ?_
   refine ln ?_
   refine wp_ret ?_
   refine end_ret1 (v := vB true) rfl hr (by kernel_rfl) ?_
   replace H := ej1 H; subst H
   exact ⟨rfl, h.se 5 [1, 2, 3, 4]⟩

/-- plunder/plunderlaw8.untouched -/
def plunderlaw8_untouched (K : Nat) (p0 : List Int) (p1 : List Int) : Option (Bool) :=
  if 0 ≤ ((p1.length : Nat) : Int) ∧ ((p1.length : Nat) : Int) ≤ ((p0.length : Nat) : Int) then ob1 (plunderlaw8_sameInts K (p0.take ((p1.length : Nat) : Int).toNat) p1) (fun r4 => (if r4 = true then if inr_ ((p1.length : Nat) : Int) p0.length then (if (at_ p0 ((p1.length : Nat) : Int).toNat) = (-77) then if inr_ (wi (((p1.length : Nat) : Int) + 1)) p0.length then some ((at_ p0 (wi (((p1.length : Nat) : Int) + 1)).toNat) == (-78)) else none else some false) else none else some false)) else none

theorem plunderlaw8_untouched_ok {z w : World} {L : List HProp} {K : Nat} {p0 p1 : List Int} {ca1 va1 : Option Addr} {cc2 vc1 : Nat} {r0 : Bool} (H : plunderlaw8_untouched K p0 p1 = some r0) (h : Fit z (sepL (ro3 ca1 cc2 p0 :: L)) w) (hv1 : RdRow L 1 encZ_i64 va1 p1) :
    Calls Try.prog 47 #[.slice ca1 p0.length cc2, .slice va1 p1.length vc1] w fun e w => e = .returned (vB r0) ∧ Fit z (sepL (ro3 ca1 cc2 p0 :: L)) w := by
 unfold plunderlaw8_untouched at H
 refine enter Try.func47 rfl 28 rfl rfl [(0, .slice ca1 p0.length cc2), (1, .slice va1 p1.length vc1)] ⟨rfl, rfl, trivial⟩ ?_
 intro j a hr
 refine sr ?_
 refine o1 hr (vB false) fun a hr => ?_
 refine ln ?_
 refine sr ?_
 refine oo [6, 7, 5] [.slice va1 p1.length vc1, vI ((p1.length : Nat) : Int), vI ((p1.length : Nat) : Int)] hr fun a hr => ?_
 refine ln ?_
 refine sr ?_
 obtain ⟨c3, H⟩ := gd H
 refine oo [8, 9] [.slice ca1 p0.length cc2, vI ((p1.length : Nat) : Int)] hr fun a hr => ?_
 refine opv (wn rfl) hr (.slice ca1 (p0.take ((p1.length : Nat) : Int).toNat).length cc2) (rsl (k := .i64) rfl (by kernel_rfl) (by kernel_rfl) (by kernel_rfl) (by kernel_rfl) h c3) fun a hr => ?_
 obtain ⟨r4, e5, H⟩ := bd1 H
 refine o1 hr (.slice va1 p1.length vc1) fun a hr => ?_
 have hc := plunderlaw8_sameInts_ok (va0 := ca1) (vc0 := cc2) (va1 := va1) (vc1 := vc1) (hv0 := (RdRow.of_row_take encZ_i64_ok h (fun h => h))) (hv1 := (RdRow.up 1 hv1)) (H := e5) (h := h)
 refine cl (wn rfl) hr hc ?_; clear hc h
 rintro _ w ⟨rfl, h⟩; refine ⟨_, rfl, fun a hr => ?_⟩
 refine o1 hr (vB r4) fun a hr => ?_
 by_cases c6 : r4 = true
 ·
  replace H := ifT c6 H
  obtain ⟨c7, H⟩ := gd H
  refine onl (c6) [14, 15] [.slice ca1 p0.length cc2, vI ((p1.length : Nat) : Int)] hr fun a hr => ?_
  refine opv (wgt hr (c6)) hr (pA (blk ca1) (((p1.length : Nat) : Int).toNat * 1)) (ri_row (k := .i64) (E := 3) rfl (by kernel_rfl) (by kernel_rfl) (by kernel_rfl) (by kernel_rfl) h c7) fun a hr => ?_
  refine ld (wgt hr (c6)) hr (vI (at_ p0 ((p1.length : Nat) : Int).toNat)) (h.row_cell encZ_i64_ok (f := 0) (at_ok c7) rfl) fun a hr => ?_
  refine onl (c6) [18] [vB ((at_ p0 ((p1.length : Nat) : Int).toNat) == (-77))] hr fun a hr => ?_
  refine opv (wn rfl) hr (vB ((at_ p0 ((p1.length : Nat) : Int).toNat) == (-77))) (rp_t (b := r4) rfl (by kernel_rfl) (c6) (by kernel_rfl)) fun a hr => ?_
  refine o1 hr (vB ((at_ p0 ((p1.length : Nat) : Int).toNat) == (-77))) fun a hr => ?_
  by_cases c8 : (at_ p0 ((p1.length : Nat) : Int).toNat) = (-77)
  ·
   replace H := ifT c8 H
   obtain ⟨c9, H⟩ := gd H
   refine onl (beq_iff_eq.mpr c8) [21, 22, 23] [.slice ca1 p0.length cc2, vI ((p1.length : Nat) : Int), vI (wi (((p1.length : Nat) : Int) + 1))] hr fun a hr => ?_
   refine opv (wgt hr (beq_iff_eq.mpr c8)) hr (pA (blk ca1) ((wi (((p1.length : Nat) : Int) + 1)).toNat * 1)) (ri_row (k := .i64) (E := 3) rfl (by kernel_rfl) (by kernel_rfl) (by kernel_rfl) (by kernel_rfl) h c9) fun a hr => ?_
   refine ld (wgt hr (beq_iff_eq.mpr c8)) hr (vI (at_ p0 (wi (((p1.length : Nat) : Int) + 1)).toNat)) (h.row_cell encZ_i64_ok (f := 0) (at_ok c9) rfl) fun a hr => ?_
   refine onl (beq_iff_eq.mpr c8) [26] [vB ((at_ p0 (wi (((p1.length : Nat) : Int) + 1)).toNat) == (-78))] hr fun a hr => ?_
   refine opv (wn rfl) hr (vB ((at_ p0 (wi (((p1.length : Nat) : Int) + 1)).toNat) == (-78))) (rp_t (b := ((at_ p0 ((p1.length : Nat) : Int).toNat) == (-77))) rfl (by kernel_rfl) (beq_iff_eq.mpr c8) (by kernel_rfl)) fun a hr => ?_
   refine o1 hr (vB ((at_ p0 (wi (((p1.length : Nat) : Int) + 1)).toNat) == (-78))) fun a hr => ?_
   refine ln ?_
   refine wp_ret ?_
   refine end_ret1 (v := vB ((at_ p0 (wi (((p1.length : Nat) : Int) + 1)).toNat) == (-78))) rfl hr (by kernel_rfl) ?_
   replace H := ej1 H; subst H
   exact ⟨rfl, h⟩
  ·
   replace H := ifF c8 H
   refine offl (beq_eq_false_iff_ne.mpr c8) [21, 22, 23, 24, 25, 26] hr fun a hr => ?_
   refine opv (wn rfl) hr (vB false) (rp_f (b := ((at_ p0 ((p1.length : Nat) : Int).toNat) == (-77))) rfl (by kernel_rfl) (beq_eq_false_iff_ne.mpr c8) (by kernel_rfl)) fun a hr => ?_
   refine o1 hr (vB false) fun a hr => ?_
   refine ln ?_
   refine wp_ret ?_
   refine end_ret1 (v := vB false) rfl hr (by kernel_rfl) ?_
   replace H := ej1 H; subst H
   exact ⟨rfl, h⟩
 ·
  replace H := ifF c6 H
  refine offl (bF c6) [14, 15, 16, 17, 18] hr fun a hr => ?_
  refine opv (wn rfl) hr (vB false) (rp_f (b := r4) rfl (by kernel_rfl) (bF c6) (by kernel_rfl)) fun a hr => ?_
  refine o1 hr (vB false) fun a hr => ?_
  refine offl (rfl : false = false) [21, 22, 23, 24, 25, 26] hr fun a hr => ?_
  refine oo [27, 4] [vB false, vB false] hr fun a hr => ?_
  refine ln ?_
  refine wp_ret ?_
  refine end_ret1 (v := vB false) rfl hr (by kernel_rfl) ?_
  replace H := ej1 H; subst H
  exact ⟨rfl, h⟩

def plunderlaw8_turned_l1 (K : Nat) (p0 : List Int) : Nat → (List Int) → Int → Option ((List Int))
  | 0, _, _ => none
  | k1 + 1, l3, g4 => (if g4 ≥ 0 then if inr_ g4 p0.length then (if (at_ p0 g4.toNat) ≥ 0 then (if (at_ p0 g4.toNat) < 7 then if (l3.length + 1) * 8 ≤ 140737488355328 then (plunderlaw8_turned_l1 K p0 k1 (l3 ++ [wi ((at_ p0 g4.toNat) + 1)]) (wi (g4 - 1))) else none else if (l3.length + 1) * 8 ≤ 140737488355328 then (plunderlaw8_turned_l1 K p0 k1 (l3 ++ [(at_ p0 g4.toNat)]) (wi (g4 - 1))) else none) else if (l3.length + 1) * 8 ≤ 140737488355328 then (plunderlaw8_turned_l1 K p0 k1 (l3 ++ [(at_ p0 g4.toNat)]) (wi (g4 - 1))) else none) else none else some l3)
/-- plunder/plunderlaw8.turned -/
def plunderlaw8_turned (K : Nat) (p0 : List Int) : Option ((List Int)) :=
  (plunderlaw8_turned_l1 K p0 K ([] : List Int) (wi (((p0.length : Nat) : Int) - 1)))

theorem plunderlaw8_turned_ok {z w : World} {L : List HProp} {K : Nat} {p0 r0 : List Int} {va0 : Option Addr} {vc0 : Nat} (H : plunderlaw8_turned K p0 = some r0) (h : Fit z (sepL (L)) w) (hv0 : RdRow L 1 encZ_i64 va0 p0) :
    Calls Try.prog 79 #[.slice va0 p0.length vc0] w fun e w => ∃ car0_1 ccr0_2, e = .returned (.slice car0_1 r0.length ccr0_2) ∧ Fit z (sepL (ro3 car0_1 ccr0_2 r0 :: L)) w := by
 unfold plunderlaw8_turned at H
 refine enter Try.func79 rfl 30 rfl rfl [(0, .slice va0 p0.length vc0)] ⟨rfl, trivial⟩ ?_
 intro j a hr
 refine sr ?_
 refine o1 hr (.slice none 0 0) fun a hr => ?_
 refine ln ?_
 refine sr ?_
 refine o1 hr (.slice none 0 0) fun a hr => ?_
 refine ln ?_
 refine wp_seq ?_
 refine sr ?_
 refine oo [6, 7, 8, 4] [.slice va0 p0.length vc0, vI ((p0.length : Nat) : Int), vI (wi (((p0.length : Nat) : Int) - 1)), vI (wi (((p0.length : Nat) : Int) - 1))] hr fun a hr => ?_
 refine ln ?_
 refine wp_block ?_
 replace h := h.row_nil (e := 3) (sz := 1) (enc := encZ_i64)
 refine loop_rule (β := Nat) id (fun m a w => ∃ ca1 : Option Addr, ∃ cc2 : Nat, ∃ l3 : List Int, ∃ g4 : Int, (plunderlaw8_turned_l1 K p0 m l3 g4) = some r0 ∧ ∃ j, Rep 30 (lk [(0, .slice va0 p0.length vc0), (3, .slice ca1 l3.length cc2), (4, vI g4)] j) a ∧ Fit z (sepL (ro3 ca1 cc2 l3 :: L)) w) K ⟨none, 0, ([] : List Int), (wi (((p0.length : Nat) : Int) - 1)), H, hr.fj h⟩ ?_
 clear h hr a H; rintro k1 a w ⟨ca1, cc2, l3, g4, H, j, hr, h⟩
 cases k1 with
 | zero => exact absurd H (by simp [plunderlaw8_turned_l1])
 | succ k1 =>
  rw [plunderlaw8_turned_l1] at H
  refine wp_seq ?_
  refine sr ?_
  refine oo [9, 10] [vI g4, vB (decide (g4 ≥ 0))] hr fun a hr => ?_
  refine ln ?_
  refine cD hr H (fun c5 H => ?_) fun c5 H => ?_
  ·
   refine wp_skip ?_
   refine then_normal ?_
   refine wp_seq ?_
   refine wp_block ?_
   refine sr ?_
   obtain ⟨c6, H⟩ := gd H
   refine oo [13, 14] [.slice va0 p0.length vc0, vI g4] hr fun a hr => ?_
   refine opv (wn rfl) hr (pA (blk va0) (offs va0 + g4.toNat * 1)) (ri_rd (k := .i64) (E := 3) (cc := vc0) rfl (by kernel_rfl) (by kernel_rfl) rfl (by kernel_rfl) (by kernel_rfl) hv0 c6) fun a hr => ?_
   refine ld (wn rfl) hr (vI (at_ p0 g4.toNat)) (hv0.cell c6 (h.dn 1) 0 rfl) fun a hr => ?_
   refine o1 hr (vI (at_ p0 g4.toNat)) fun a hr => ?_
   refine ln ?_
   refine wp_seq ?_
   refine sr ?_
   refine oo [17, 18, 19] [vI (at_ p0 g4.toNat), vB (decide ((at_ p0 g4.toNat) ≥ 0)), vB (decide ((at_ p0 g4.toNat) ≥ 0))] hr fun a hr => ?_
   by_cases c7 : (at_ p0 g4.toNat) ≥ 0
   ·
    replace H := ifT c7 H
    refine onl (decide_eq_true c7) [20, 21] [vI (at_ p0 g4.toNat), vB (decide ((at_ p0 g4.toNat) < 7))] hr fun a hr => ?_
    refine opv (wn rfl) hr (vB (decide ((at_ p0 g4.toNat) < 7))) (rp_t (b := (decide ((at_ p0 g4.toNat) ≥ 0))) rfl (by kernel_rfl) (decide_eq_true c7) (by kernel_rfl)) fun a hr => ?_
    refine ln ?_
    refine cD hr H (fun c8 H => ?_) fun c8 H => ?_
    ·
     refine wp_region_lit ?_
     refine oo [23, 24, 5] [vI (at_ p0 g4.toNat), vI (wi ((at_ p0 g4.toNat) + 1)), vI (wi ((at_ p0 g4.toNat) + 1))] hr fun a hr => ?_
     refine ln ?_
     refine wp_region_lit ?_
     refine oo [25, 26] [.slice ca1 l3.length cc2, vI (wi ((at_ p0 g4.toNat) + 1))] hr fun a hr => ?_
     refine onew (wn rfl) hr h (fun b => .slice (some ⟨b, 0, none⟩) 1 1) (#[vI (wi ((at_ p0 g4.toNat) + 1))]) 3 fun b9 w a h hr => ?_
     replace h := h.m1
     obtain ⟨c12, H⟩ := gd H
     refine op_append (n0 := l3.length) (c := 1) (bytes := 8) (wn rfl) rfl rfl hr rfl (by kernel_rfl) (by kernel_rfl) encZ_i64_ok (E := 3) (xs := l3) (by kernel_rfl) (by kernel_rfl) h (news := [wi ((at_ p0 g4.toNat) + 1)]) (m := 1) rfl ((h.pick 1).news rfl) c12 rfl fun ca10 cc11 w a h hr => ?_
     refine o1 hr (.slice ca10 (l3 ++ [wi ((at_ p0 g4.toNat) + 1)]).length cc11) fun a hr => ?_
     refine wpList_nil ?_
     refine blk_normal ?_
     refine then_normal ?_
     refine wp_region_lit ?_
     refine oo [11, 12, 4] [vI g4, vI (wi (g4 - 1)), vI (wi (g4 - 1))] hr fun a hr => ?_
     refine ln ?_
     exact ⟨_, ⟨ca10, cc11, (l3 ++ [wi ((at_ p0 g4.toNat) + 1)]), (wi (g4 - 1)), H, hr.fj (h.se 2 [0])⟩, Nat.lt_succ_self _⟩
    ·
     refine wp_skip ?_
     refine then_normal ?_
     refine wp_region_lit ?_
     refine oo [25, 26] [.slice ca1 l3.length cc2, vI (at_ p0 g4.toNat)] hr fun a hr => ?_
     refine onew (wn rfl) hr h (fun b => .slice (some ⟨b, 0, none⟩) 1 1) (#[vI (at_ p0 g4.toNat)]) 3 fun b13 w a h hr => ?_
     replace h := h.m1
     obtain ⟨c16, H⟩ := gd H
     refine op_append (n0 := l3.length) (c := 1) (bytes := 8) (wn rfl) rfl rfl hr rfl (by kernel_rfl) (by kernel_rfl) encZ_i64_ok (E := 3) (xs := l3) (by kernel_rfl) (by kernel_rfl) h (news := [(at_ p0 g4.toNat)]) (m := 1) rfl ((h.pick 1).news rfl) c16 rfl fun ca14 cc15 w a h hr => ?_
     refine o1 hr (.slice ca14 (l3 ++ [(at_ p0 g4.toNat)]).length cc15) fun a hr => ?_
     refine wpList_nil ?_
     refine blk_normal ?_
     refine then_normal ?_
     refine wp_region_lit ?_
     refine oo [11, 12, 4] [vI g4, vI (wi (g4 - 1)), vI (wi (g4 - 1))] hr fun a hr => ?_
     refine ln ?_
     exact ⟨_, ⟨ca14, cc15, (l3 ++ [(at_ p0 g4.toNat)]), (wi (g4 - 1)), H, hr.fj (h.se 2 [0])⟩, Nat.lt_succ_self _⟩
   ·
    replace H := ifF c7 H
    refine offl (decide_eq_false c7) [20, 21] hr fun a hr => ?_
    refine opv (wn rfl) hr (vB false) (rp_f (b := (decide ((at_ p0 g4.toNat) ≥ 0))) rfl (by kernel_rfl) (decide_eq_false c7) (by kernel_rfl)) fun a hr => ?_
    refine ln ?_
    refine cond_ff hr (b := false) rfl ?_
    refine wp_skip ?_
    refine then_normal ?_
    refine wp_region_lit ?_
    refine oo [25, 26] [.slice ca1 l3.length cc2, vI (at_ p0 g4.toNat)] hr fun a hr => ?_
    refine onew (wn rfl) hr h (fun b => .slice (some ⟨b, 0, none⟩) 1 1) (#[vI (at_ p0 g4.toNat)]) 3 fun b17 w a h hr => ?_
    replace h := h.m1
    obtain ⟨c20, H⟩ := gd H
    refine op_append (n0 := l3.length) (c := 1) (bytes := 8) (wn rfl) rfl rfl hr rfl (by kernel_rfl) (by kernel_rfl) encZ_i64_ok (E := 3) (xs := l3) (by kernel_rfl) (by kernel_rfl) h (news := [(at_ p0 g4.toNat)]) (m := 1) rfl ((h.pick 1).news rfl) c20 rfl fun ca18 cc19 w a h hr => ?_
    refine o1 hr (.slice ca18 (l3 ++ [(at_ p0 g4.toNat)]).length cc19) fun a hr => ?_
    refine wpList_nil ?_
    refine blk_normal ?_
    refine then_normal ?_
    refine wp_region_lit ?_
    refine oo [11, 12, 4] [vI g4, vI (wi (g4 - 1)), vI (wi (g4 - 1))] hr fun a hr => ?_
    refine ln ?_
    exact ⟨_, ⟨ca18, cc19, (l3 ++ [(at_ p0 g4.toNat)]), (wi (g4 - 1)), H, hr.fj (h.se 2 [0])⟩, Nat.lt_succ_self _⟩
  ·
   refine wp_exit ?_
   refine then_exit ?_
   refine then_exit ?_
   refine blk_here ?_
   refine then_normal ?_
   refine sr ?_
   refine oo [29, 2] [.slice ca1 l3.length cc2, .slice ca1 l3.length cc2] hr fun a hr => ?_
   refine ln ?_
   refine wp_ret ?_
   refine end_ret1 (v := .slice ca1 l3.length cc2) rfl hr (by kernel_rfl) ?_
   replace H := ej1 H; subst H
   exact ⟨ca1, cc2, rfl, h⟩

def plunderlaw8_playPlaced_l1 (K : Nat) (p0 : List Int) : Nat → (List Int) → Int → Option ((List Int))
  | 0, _, _ => none
  | k1 + 1, l33, g34 => (if g34 < ((p0.length : Nat) : Int) then if inr_ g34 p0.length then if inr_ g34 l33.length then (plunderlaw8_playPlaced_l1 K p0 k1 (l33.set g34.toNat (at_ p0 g34.toNat)) (wi (g34 + 1))) else none else none else some l33)
def plunderlaw8_playPlaced_l2 (K : Nat) (p1 : List Int) : Nat → (List Int) → Int → Option ((List Int))
  | 0, _, _ => none
  | k2 + 1, l41, g42 => (if g42 < ((p1.length : Nat) : Int) then if inr_ g42 p1.length then if inr_ g42 l41.length then (plunderlaw8_playPlaced_l2 K p1 k2 (l41.set g42.toNat (at_ p1 g42.toNat)) (wi (g42 + 1))) else none else none else some l41)
/-- plunder/plunderlaw8.playPlaced -/
def plunderlaw8_playPlaced (K : Nat) (p0 : List Int) (p1 : List Int) : Option (Bool) :=
  ob1 (plunderlaw8_turned K p0) (fun r1 => ob1 (plunderlaw8_turned K p1) (fun r5 => ob1 (plunderlaw8_spare K r1) (fun r9 => ob1 (plunderlaw8_spare K r5) (fun r13 => if 0 ≤ ((p0.length : Nat) : Int) ∧ ((p0.length : Nat) : Int) ≤ ((r9.length : Nat) : Int) then if 0 ≤ ((p1.length : Nat) : Int) ∧ ((p1.length : Nat) : Int) ≤ ((r13.length : Nat) : Int) then ob2 (frames_Play K (r9.take ((p0.length : Nat) : Int).toNat) (r13.take ((p1.length : Nat) : Int).toNat)) (fun r19 r20 => ob1 ((plunderlaw8_playPlaced_l1 K p0 K r9 0)) (fun l30 => ob1 ((plunderlaw8_playPlaced_l2 K p1 K r13 0)) (fun l38 => if 0 ≤ ((p0.length : Nat) : Int) ∧ ((p0.length : Nat) : Int) ≤ ((l30.length : Nat) : Int) then if 0 ≤ ((p1.length : Nat) : Int) ∧ ((p1.length : Nat) : Int) ≤ ((l38.length : Nat) : Int) then ob2 (frames_Play K (l30.take ((p0.length : Nat) : Int).toNat) (l38.take ((p1.length : Nat) : Int).toNat)) (fun r50 r51 => ob2 (plunderref8_Play K r1 r5) (fun r61 r62 => ob2 (plunderref8_Play K p0 p1) (fun r73 r74 => (if r20 = r62 then (if r51 = r74 then ob1 (plunderlaw8_sameRun K r19 r61) (fun r87 => (if r87 = true then ob1 (plunderlaw8_sameRun K r50 r73) (fun r90 => some r90) else some false)) else some false) else some false)))) else none else none))) else none else none))))

theorem plunderlaw8_playPlaced_ok {z w : World} {L : List HProp} {K : Nat} {p0 p1 : List Int} {va0 va1 : Option Addr} {vc0 vc1 : Nat} {r0 : Bool} (H : plunderlaw8_playPlaced K p0 p1 = some r0) (h : Fit z (sepL (L)) w) (hv0 : RdRow L 1 encZ_i64 va0 p0) (hv1 : RdRow L 1 encZ_i64 va1 p1) :
    Calls Try.prog 48 #[.slice va0 p0.length vc0, .slice va1 p1.length vc1] w fun e w => e = .returned (vB r0) ∧ Fit z (sepL (L)) w := by
 unfold plunderlaw8_playPlaced at H
 refine enter Try.func48 rfl 107 rfl rfl [(0, .slice va0 p0.length vc0), (1, .slice va1 p1.length vc1)] ⟨rfl, rfl, trivial⟩ ?_
 intro j a hr
 refine sr ?_
 refine o1 hr (vB false) fun a hr => ?_
 refine ln ?_
 refine sr ?_
 obtain ⟨r1, e2, H⟩ := bd1 H
 refine o1 hr (.slice va0 p0.length vc0) fun a hr => ?_
 have hc := plunderlaw8_turned_ok (va0 := va0) (vc0 := vc0) (hv0 := (RdRow.up 0 hv0)) (H := e2) (h := h)
 refine cl (wn rfl) hr hc ?_; clear hc h
 rintro _ w ⟨car3, ccr4, rfl, h⟩; refine ⟨_, rfl, fun a hr => ?_⟩
 refine o1 hr (.slice car3 r1.length ccr4) fun a hr => ?_
 refine ln ?_
 refine sr ?_
 obtain ⟨r5, e6, H⟩ := bd1 H
 refine o1 hr (.slice va1 p1.length vc1) fun a hr => ?_
 have hc := plunderlaw8_turned_ok (va0 := va1) (vc0 := vc1) (hv0 := (RdRow.up 1 hv1)) (H := e6) (h := h)
 refine cl (wn rfl) hr hc ?_; clear hc h
 rintro _ w ⟨car7, ccr8, rfl, h⟩; refine ⟨_, rfl, fun a hr => ?_⟩
 refine o1 hr (.slice car7 r5.length ccr8) fun a hr => ?_
 refine ln ?_
 refine sr ?_
 obtain ⟨r9, e10, H⟩ := bd1 H
 refine o1 hr (.slice car3 r1.length ccr4) fun a hr => ?_
 have hc := plunderlaw8_spare_ok (va0 := car3) (vc0 := ccr4) (hv0 := (RdRow.of_row encZ_i64_ok (h.pick 1) (fun h => (h.pick 1)))) (H := e10) (h := h)
 refine cl (wn rfl) hr hc ?_; clear hc h
 rintro _ w ⟨car11, ccr12, rfl, h⟩; refine ⟨_, rfl, fun a hr => ?_⟩
 refine o1 hr (.slice car11 r9.length ccr12) fun a hr => ?_
 refine ln ?_
 refine sr ?_
 obtain ⟨r13, e14, H⟩ := bd1 H
 refine o1 hr (.slice car7 r5.length ccr8) fun a hr => ?_
 have hc := plunderlaw8_spare_ok (va0 := car7) (vc0 := ccr8) (hv0 := (RdRow.of_row encZ_i64_ok (h.pick 1) (fun h => (h.pick 1)))) (H := e14) (h := h)
 refine cl (wn rfl) hr hc ?_; clear hc h
 rintro _ w ⟨car15, ccr16, rfl, h⟩; refine ⟨_, rfl, fun a hr => ?_⟩
 refine o1 hr (.slice car15 r13.length ccr16) fun a hr => ?_
 refine ln ?_
 refine wp_seq ?_
 obtain ⟨c17, H⟩ := gd H
 obtain ⟨c18, H⟩ := gd H
 obtain ⟨r19, r20, e21, H⟩ := bd2 H
 refine cut_mid (fun a w => ∃ car22 : Option Addr, ∃ ccr23 : Nat, ∃ car24 : Option Addr, ∃ ccr25 : Nat, ∃ car26 : Option Addr, ∃ ccr27 : Nat, ∃ car28 : Option Addr, ∃ b29 : Nat, ∃ j, Rep 107 (lk [(0, .slice va0 p0.length vc0), (1, .slice va1 p1.length vc1), (5, .slice car3 r1.length ccr4), (6, .slice car7 r5.length ccr8), (7, .slice car11 r9.length ccr12), (8, .slice car15 r13.length ccr16), (9, pA b29 0), (10, vI r20)] j) a ∧ Fit z (sepL (ro3 car3 ccr4 r1 :: ro3 car7 ccr8 r5 :: ro3 car11 ccr12 r9 :: ro3 car15 ccr16 r13 :: ob86 b29 r19 car22 ccr23 car24 ccr25 car26 ccr27 car28 r19.Log.length :: ro3 car22 ccr23 r19.Holders :: rn31 car24 ccr25 r19.Reads :: ro2 car26 ccr27 r19.Marks :: ro96 car28 r19.Log.length r19.Log :: L)) w) ?_ ?_
 ·
  refine regL [] [] 15 h (fun _ => trivial) fun w h hd => ?_
  refine evs' hd 12 [(0, 28, .slice car11 r9.length ccr12), (1, 29, .slice va0 p0.length vc0), (2, 30, vI ((p0.length : Nat) : Int))] hr fun a hr => ?_
  refine eon hd 11 3 rfl (wn rfl) hr (.slice car11 (r9.take ((p0.length : Nat) : Int).toNat).length ccr12) (hrun := fun w => rsl (k := .i64) rfl (by kernel_rfl) (by kernel_rfl) (by kernel_rfl) (by kernel_rfl) (h.pick 1) c17) fun a hr => ?_
  refine evs' hd 8 [(4, 32, .slice car15 r13.length ccr16), (5, 33, .slice va1 p1.length vc1), (6, 34, vI ((p1.length : Nat) : Int))] hr fun a hr => ?_
  refine eon hd 7 7 rfl (wn rfl) hr (.slice car15 (r13.take ((p1.length : Nat) : Int).toNat).length ccr16) (hrun := fun w => rsl (k := .i64) rfl (by kernel_rfl) (by kernel_rfl) (by kernel_rfl) (by kernel_rfl) h c18) fun a hr => ?_
  refine e_each (fuel := 6) [8, 12] (by kernel_rfl) rfl (vall_cons ⟨_, rfl, ?_⟩ (vall_cons ⟨_, rfl, ?_⟩ (vall_nil)))
  ·
   have hc := frames_Play_ok (va0 := car11) (vc0 := ccr12) (va1 := car15) (vc1 := ccr16) (hv0 := (RdRow.of_row_take encZ_i64_ok (h.pick 1) (fun h => (h.pick 1)))) (hv1 := (RdRow.of_row_take encZ_i64_ok h (fun h => h))) (H := e21) (h := h)
   refine cl (wn rfl) hr hc ?_; clear hc h
   rintro _ w ⟨car22, ccr23, car24, ccr25, car26, ccr27, car28, rfl, h⟩; refine ⟨_, rfl, fun a hr => ?_⟩
   refine ln ?_
   refine xE ?_
   refine evs 5 9 rfl (wn rfl) hr (.tuple #[.agg #[vB r19.Done, vI r19.Steps, .slice car22 r19.Holders.length ccr23, .slice car24 r19.Reads.length ccr25, .slice car26 r19.Marks.length ccr27, .slice car28 r19.Log.length r19.Log.length], vI r20]) fun a hr => ?_
   refine evs 4 10 rfl (wn rfl) hr (.agg #[vB r19.Done, vI r19.Steps, .slice car22 r19.Holders.length ccr23, .slice car24 r19.Reads.length ccr25, .slice car26 r19.Marks.length ccr27, .slice car28 r19.Log.length r19.Log.length]) fun a hr => ?_
   refine evs 3 11 rfl (wn rfl) hr (vI r20) fun a hr => ?_
   refine eo1 12 rfl ?_
   refine onew (wn rfl) hr h nb (#[vB false, vI 0, .slice none 0 0, .slice none 0 0, .slice none 0 0, .slice none 0 0]) 86 fun b29 w a h hr => ?_
   refine ln ?_
   refine xE ?_
   refine eo1 13 rfl ?_
   refine stm (wn rfl) hr h 0 ([vB r19.Done, vI r19.Steps, .slice car22 r19.Holders.length ccr23, .slice car24 r19.Reads.length ccr25, .slice car26 r19.Marks.length ccr27, .slice car28 r19.Log.length r19.Log.length]) (ob86 b29 r19 car22 ccr23 car24 ccr25 car26 ccr27 car28 r19.Log.length) fun w h => ?_
   refine ln ?_
   refine xE ?_
   refine evs 0 14 rfl (wn rfl) hr (vI r20) fun a hr => ?_
   refine een ?_
   exact ⟨car22, ccr23, car24, ccr25, car26, ccr27, car28, b29, hr.fj (h.se 9 [8, 7, 6, 5, 0, 1, 2, 3, 4])⟩
  ·
   refine onew (wn rfl) hr h nb (#[vB false, vI 0, .slice none 0 0, .slice none 0 0, .slice none 0 0, .slice none 0 0]) 86 fun b29 w a h hr => ?_
   refine ln ?_
   refine xE ?_
   refine eo1 8 rfl ?_
   have hc := frames_Play_ok (va0 := car11) (vc0 := ccr12) (va1 := car15) (vc1 := ccr16) (hv0 := (RdRow.of_row_take encZ_i64_ok (h.pick 2) (fun h => (h.pick 2)))) (hv1 := (RdRow.of_row_take encZ_i64_ok (h.pick 1) (fun h => (h.pick 1)))) (H := e21) (h := h)
   refine cl (wn rfl) hr hc ?_; clear hc h
   rintro _ w ⟨car22, ccr23, car24, ccr25, car26, ccr27, car28, rfl, h⟩; refine ⟨_, rfl, fun a hr => ?_⟩
   refine ln ?_
   refine xE ?_
   refine evs 4 9 rfl (wn rfl) hr (.tuple #[.agg #[vB r19.Done, vI r19.Steps, .slice car22 r19.Holders.length ccr23, .slice car24 r19.Reads.length ccr25, .slice car26 r19.Marks.length ccr27, .slice car28 r19.Log.length r19.Log.length], vI r20]) fun a hr => ?_
   refine evs 3 10 rfl (wn rfl) hr (.agg #[vB r19.Done, vI r19.Steps, .slice car22 r19.Holders.length ccr23, .slice car24 r19.Reads.length ccr25, .slice car26 r19.Marks.length ccr27, .slice car28 r19.Log.length r19.Log.length]) fun a hr => ?_
   refine evs 2 11 rfl (wn rfl) hr (vI r20) fun a hr => ?_
   refine eo1 13 rfl ?_
   replace h := h.m4
   refine stm (wn rfl) hr h 0 ([vB r19.Done, vI r19.Steps, .slice car22 r19.Holders.length ccr23, .slice car24 r19.Reads.length ccr25, .slice car26 r19.Marks.length ccr27, .slice car28 r19.Log.length r19.Log.length]) (ob86 b29 r19 car22 ccr23 car24 ccr25 car26 ccr27 car28 r19.Log.length) fun w h => ?_
   refine ln ?_
   refine xE ?_
   refine evs 0 14 rfl (wn rfl) hr (vI r20) fun a hr => ?_
   refine een ?_
   exact ⟨car22, ccr23, car24, ccr25, car26, ccr27, car28, b29, hr.fj (h.se 9 [8, 7, 6, 5, 0, 1, 2, 3, 4])⟩
 clear h hr a; rintro a w ⟨car22, ccr23, car24, ccr25, car26, ccr27, car28, b29, j, hr, h⟩
 refine then_normal ?_
 obtain ⟨o32, H, hK31⟩ := kd1 H
 refine cut_rule (β := Unit) (fun _ a w => ∃ l30 : List Int, l30 = o32 ∧ ∃ j, Rep 107 (lk [(0, .slice va0 p0.length vc0), (1, .slice va1 p1.length vc1), (5, .slice car3 r1.length ccr4), (6, .slice car7 r5.length ccr8), (7, .slice car11 r9.length ccr12), (8, .slice car15 r13.length ccr16), (9, pA b29 0), (10, vI r20)] j) a ∧ Fit z (sepL (ro3 car3 ccr4 r1 :: ro3 car7 ccr8 r5 :: rowOf 3 1 encZ_i64 (.slice car11 r9.length ccr12) l30 :: ro3 car15 ccr16 r13 :: ob86 b29 r19 car22 ccr23 car24 ccr25 car26 ccr27 car28 r19.Log.length :: ro3 car22 ccr23 r19.Holders :: rn31 car24 ccr25 r19.Reads :: ro2 car26 ccr27 r19.Marks :: ro96 car28 r19.Log.length r19.Log :: L)) w) ?_ ?_
 ·
  refine sr ?_
  refine o1 hr (vI 0) fun a hr => ?_
  refine ln ?_
  refine wp_block ?_
  refine loop_rule (β := Nat) id (fun m a w => ∃ l33 : List Int, ∃ g34 : Int, (plunderlaw8_playPlaced_l1 K p0 m l33 g34) = some o32 ∧ ∃ j, Rep 107 (lk [(0, .slice va0 p0.length vc0), (1, .slice va1 p1.length vc1), (5, .slice car3 r1.length ccr4), (6, .slice car7 r5.length ccr8), (7, .slice car11 r9.length ccr12), (8, .slice car15 r13.length ccr16), (9, pA b29 0), (10, vI r20), (11, vI g34)] j) a ∧ Fit z (sepL (ro3 car3 ccr4 r1 :: ro3 car7 ccr8 r5 :: rowOf 3 1 encZ_i64 (.slice car11 r9.length ccr12) l33 :: ro3 car15 ccr16 r13 :: ob86 b29 r19 car22 ccr23 car24 ccr25 car26 ccr27 car28 r19.Log.length :: ro3 car22 ccr23 r19.Holders :: rn31 car24 ccr25 r19.Reads :: ro2 car26 ccr27 r19.Marks :: ro96 car28 r19.Log.length r19.Log :: L)) w) K ⟨r9, 0, H, hr.fj h⟩ ?_
  clear h hr a H; rintro k1 a w ⟨l33, g34, H, j, hr, h⟩
  cases k1 with
  | zero => exact absurd H (by simp [plunderlaw8_playPlaced_l1])
  | succ k1 =>
   rw [plunderlaw8_playPlaced_l1] at H
   refine wp_seq ?_
   refine sr ?_
   refine oo [39, 40, 41, 42] [vI g34, .slice va0 p0.length vc0, vI ((p0.length : Nat) : Int), vB (decide (g34 < ((p0.length : Nat) : Int)))] hr fun a hr => ?_
   refine ln ?_
   refine cD hr H (fun c35 H => ?_) fun c35 H => ?_
   ·
    refine wp_skip ?_
    refine then_normal ?_
    refine wp_seq ?_
    refine wp_block ?_
    refine wp_region_lit ?_
    obtain ⟨c36, H⟩ := gd H
    refine oo [45, 46, 47, 48] [.slice car11 r9.length ccr12, vI g34, .slice va0 p0.length vc0, vI g34] hr fun a hr => ?_
    refine opv (wn rfl) hr (pA (blk va0) (offs va0 + g34.toNat * 1)) (ri_rd (k := .i64) (E := 3) (cc := vc0) rfl (by kernel_rfl) (by kernel_rfl) rfl (by kernel_rfl) (by kernel_rfl) hv0 c36) fun a hr => ?_
    refine ld (wn rfl) hr (vI (at_ p0 g34.toNat)) (hv0.cell c36 (h.dn 9) 0 rfl) fun a hr => ?_
    obtain ⟨c37, H⟩ := gd H
    refine opv (wn rfl) hr (pA (blk car11) (g34.toNat * 1)) (ri_row (k := .i64) (E := 3) rfl (by kernel_rfl) (by kernel_rfl) (by kernel_rfl) (by kernel_rfl) (h.pick 2) c37) fun a hr => ?_
    replace h := h.m2
    refine stor (wn rfl) hr encZ_i64_ok h g34.toNat 0 (vI (at_ p0 g34.toNat)) (at_ l33 g34.toNat) (at_ p0 g34.toNat) (at_ok c37) fun w h => ?_
    refine wpList_nil ?_
    refine blk_normal ?_
    refine then_normal ?_
    refine wp_region_lit ?_
    refine oo [43, 44, 11] [vI g34, vI (wi (g34 + 1)), vI (wi (g34 + 1))] hr fun a hr => ?_
    refine ln ?_
    exact ⟨_, ⟨(l33.set g34.toNat (at_ p0 g34.toNat)), (wi (g34 + 1)), H, hr.fj (h.se 9 [1, 2, 0, 3, 4, 5, 6, 7, 8])⟩, Nat.lt_succ_self _⟩
   ·
    refine wp_exit ?_
    refine then_exit ?_
    refine then_exit ?_
    refine blk_here ?_
    refine then_normal ?_
    exact ⟨(), l33, sinj H, hr.fj h⟩
 clear h hr a; rintro _ a w ⟨l30, rfl, j, hr, h⟩
 replace H := kk1 hK31
 obtain ⟨o40, H, hK39⟩ := kd1 H
 refine cut_rule (β := Unit) (fun _ a w => ∃ l38 : List Int, l38 = o40 ∧ ∃ j, Rep 107 (lk [(0, .slice va0 p0.length vc0), (1, .slice va1 p1.length vc1), (5, .slice car3 r1.length ccr4), (6, .slice car7 r5.length ccr8), (7, .slice car11 r9.length ccr12), (8, .slice car15 r13.length ccr16), (9, pA b29 0), (10, vI r20)] j) a ∧ Fit z (sepL (ro3 car3 ccr4 r1 :: ro3 car7 ccr8 r5 :: rowOf 3 1 encZ_i64 (.slice car11 r9.length ccr12) l30 :: rowOf 3 1 encZ_i64 (.slice car15 r13.length ccr16) l38 :: ob86 b29 r19 car22 ccr23 car24 ccr25 car26 ccr27 car28 r19.Log.length :: ro3 car22 ccr23 r19.Holders :: rn31 car24 ccr25 r19.Reads :: ro2 car26 ccr27 r19.Marks :: ro96 car28 r19.Log.length r19.Log :: L)) w) ?_ ?_
 ·
  refine sr ?_
  refine o1 hr (vI 0) fun a hr => ?_
  refine ln ?_
  refine wp_block ?_
  refine loop_rule (β := Nat) id (fun m a w => ∃ l41 : List Int, ∃ g42 : Int, (plunderlaw8_playPlaced_l2 K p1 m l41 g42) = some o40 ∧ ∃ j, Rep 107 (lk [(0, .slice va0 p0.length vc0), (1, .slice va1 p1.length vc1), (5, .slice car3 r1.length ccr4), (6, .slice car7 r5.length ccr8), (7, .slice car11 r9.length ccr12), (8, .slice car15 r13.length ccr16), (9, pA b29 0), (10, vI r20), (12, vI g42)] j) a ∧ Fit z (sepL (ro3 car3 ccr4 r1 :: ro3 car7 ccr8 r5 :: rowOf 3 1 encZ_i64 (.slice car11 r9.length ccr12) l30 :: rowOf 3 1 encZ_i64 (.slice car15 r13.length ccr16) l41 :: ob86 b29 r19 car22 ccr23 car24 ccr25 car26 ccr27 car28 r19.Log.length :: ro3 car22 ccr23 r19.Holders :: rn31 car24 ccr25 r19.Reads :: ro2 car26 ccr27 r19.Marks :: ro96 car28 r19.Log.length r19.Log :: L)) w) K ⟨r13, 0, H, hr.fj h⟩ ?_
  clear h hr a H; rintro k2 a w ⟨l41, g42, H, j, hr, h⟩
  cases k2 with
  | zero => exact absurd H (by simp [plunderlaw8_playPlaced_l2])
  | succ k2 =>
   rw [plunderlaw8_playPlaced_l2] at H
   refine wp_seq ?_
   refine sr ?_
   refine oo [52, 53, 54, 55] [vI g42, .slice va1 p1.length vc1, vI ((p1.length : Nat) : Int), vB (decide (g42 < ((p1.length : Nat) : Int)))] hr fun a hr => ?_
   refine ln ?_
   refine cD hr H (fun c43 H => ?_) fun c43 H => ?_
   ·
    refine wp_skip ?_
    refine then_normal ?_
    refine wp_seq ?_
    refine wp_block ?_
    refine wp_region_lit ?_
    obtain ⟨c44, H⟩ := gd H
    refine oo [58, 59, 60, 61] [.slice car15 r13.length ccr16, vI g42, .slice va1 p1.length vc1, vI g42] hr fun a hr => ?_
    refine opv (wn rfl) hr (pA (blk va1) (offs va1 + g42.toNat * 1)) (ri_rd (k := .i64) (E := 3) (cc := vc1) rfl (by kernel_rfl) (by kernel_rfl) rfl (by kernel_rfl) (by kernel_rfl) hv1 c44) fun a hr => ?_
    refine ld (wn rfl) hr (vI (at_ p1 g42.toNat)) (hv1.cell c44 (h.dn 9) 0 rfl) fun a hr => ?_
    obtain ⟨c45, H⟩ := gd H
    refine opv (wn rfl) hr (pA (blk car15) (g42.toNat * 1)) (ri_row (k := .i64) (E := 3) rfl (by kernel_rfl) (by kernel_rfl) (by kernel_rfl) (by kernel_rfl) (h.pick 3) c45) fun a hr => ?_
    replace h := h.m3
    refine stor (wn rfl) hr encZ_i64_ok h g42.toNat 0 (vI (at_ p1 g42.toNat)) (at_ l41 g42.toNat) (at_ p1 g42.toNat) (at_ok c45) fun w h => ?_
    refine wpList_nil ?_
    refine blk_normal ?_
    refine then_normal ?_
    refine wp_region_lit ?_
    refine oo [56, 57, 12] [vI g42, vI (wi (g42 + 1)), vI (wi (g42 + 1))] hr fun a hr => ?_
    refine ln ?_
    exact ⟨_, ⟨(l41.set g42.toNat (at_ p1 g42.toNat)), (wi (g42 + 1)), H, hr.fj (h.se 9 [1, 2, 3, 0, 4, 5, 6, 7, 8])⟩, Nat.lt_succ_self _⟩
   ·
    refine wp_exit ?_
    refine then_exit ?_
    refine then_exit ?_
    refine blk_here ?_
    refine then_normal ?_
    exact ⟨(), l41, sinj H, hr.fj h⟩
 clear h hr a; rintro _ a w ⟨l38, rfl, j, hr, h⟩
 replace H := kk1 hK39
 refine wp_seq ?_
 replace h := h.m2
 have hn45 : r9.length = l30.length := h.row_n; replace h := Fit.ren0 hn45 (fun q_ => rowOf 3 1 encZ_i64 (.slice car11 q_ ccr12) l30) h
 replace hr := hr.re 7 (congrArg (fun q_ => Value.slice car11 q_ ccr12) hn45)
 replace h := h.m3
 have hn46 : r13.length = l38.length := h.row_n; replace h := Fit.ren0 hn46 (fun q_ => rowOf 3 1 encZ_i64 (.slice car15 q_ ccr16) l38) h
 replace hr := hr.re 8 (congrArg (fun q_ => Value.slice car15 q_ ccr16) hn46)
 obtain ⟨c48, H⟩ := gd H
 obtain ⟨c49, H⟩ := gd H
 obtain ⟨r50, r51, e52, H⟩ := bd2 H
 refine cut_mid (fun a w => ∃ car53 : Option Addr, ∃ ccr54 : Nat, ∃ car55 : Option Addr, ∃ ccr56 : Nat, ∃ car57 : Option Addr, ∃ ccr58 : Nat, ∃ car59 : Option Addr, ∃ b60 : Nat, ∃ j, Rep 107 (lk [(0, .slice va0 p0.length vc0), (1, .slice va1 p1.length vc1), (5, .slice car3 r1.length ccr4), (6, .slice car7 r5.length ccr8), (9, pA b29 0), (10, vI r20), (13, pA b60 0), (14, vI r51)] j) a ∧ Fit z (sepL (ro3 car3 ccr4 r1 :: ro3 car7 ccr8 r5 :: ob86 b29 r19 car22 ccr23 car24 ccr25 car26 ccr27 car28 r19.Log.length :: ro3 car22 ccr23 r19.Holders :: rn31 car24 ccr25 r19.Reads :: ro2 car26 ccr27 r19.Marks :: ro96 car28 r19.Log.length r19.Log :: ob86 b60 r50 car53 ccr54 car55 ccr56 car57 ccr58 car59 r50.Log.length :: ro3 car53 ccr54 r50.Holders :: rn31 car55 ccr56 r50.Reads :: ro2 car57 ccr58 r50.Marks :: ro96 car59 r50.Log.length r50.Log :: L)) w) ?_ ?_
 ·
  refine regL [] [] 15 h (fun _ => trivial) fun w h hd => ?_
  refine evs' hd 12 [(0, 66, .slice car11 l30.length ccr12), (1, 67, .slice va0 p0.length vc0), (2, 68, vI ((p0.length : Nat) : Int))] hr fun a hr => ?_
  refine eon hd 11 3 rfl (wn rfl) hr (.slice car11 (l30.take ((p0.length : Nat) : Int).toNat).length ccr12) (hrun := fun w => rsl (k := .i64) rfl (by kernel_rfl) (by kernel_rfl) (by kernel_rfl) (by kernel_rfl) (h.pick 1) c48) fun a hr => ?_
  refine evs' hd 8 [(4, 70, .slice car15 l38.length ccr16), (5, 71, .slice va1 p1.length vc1), (6, 72, vI ((p1.length : Nat) : Int))] hr fun a hr => ?_
  refine eon hd 7 7 rfl (wn rfl) hr (.slice car15 (l38.take ((p1.length : Nat) : Int).toNat).length ccr16) (hrun := fun w => rsl (k := .i64) rfl (by kernel_rfl) (by kernel_rfl) (by kernel_rfl) (by kernel_rfl) h c49) fun a hr => ?_
  refine e_each (fuel := 6) [8, 12] (by kernel_rfl) rfl (vall_cons ⟨_, rfl, ?_⟩ (vall_cons ⟨_, rfl, ?_⟩ (vall_nil)))
  ·
   have hc := frames_Play_ok (va0 := car11) (vc0 := ccr12) (va1 := car15) (vc1 := ccr16) (hv0 := (RdRow.of_row_take encZ_i64_ok (h.pick 1) (fun h => (h.pick 1)))) (hv1 := (RdRow.of_row_take encZ_i64_ok h (fun h => h))) (H := e52) (h := h)
   refine cl (wn rfl) hr hc ?_; clear hc h
   rintro _ w ⟨car53, ccr54, car55, ccr56, car57, ccr58, car59, rfl, h⟩; refine ⟨_, rfl, fun a hr => ?_⟩
   refine ln ?_
   refine xE ?_
   refine evs 5 9 rfl (wn rfl) hr (.tuple #[.agg #[vB r50.Done, vI r50.Steps, .slice car53 r50.Holders.length ccr54, .slice car55 r50.Reads.length ccr56, .slice car57 r50.Marks.length ccr58, .slice car59 r50.Log.length r50.Log.length], vI r51]) fun a hr => ?_
   refine evs 4 10 rfl (wn rfl) hr (.agg #[vB r50.Done, vI r50.Steps, .slice car53 r50.Holders.length ccr54, .slice car55 r50.Reads.length ccr56, .slice car57 r50.Marks.length ccr58, .slice car59 r50.Log.length r50.Log.length]) fun a hr => ?_
   refine evs 3 11 rfl (wn rfl) hr (vI r51) fun a hr => ?_
   refine eo1 12 rfl ?_
   refine onew (wn rfl) hr h nb (#[vB false, vI 0, .slice none 0 0, .slice none 0 0, .slice none 0 0, .slice none 0 0]) 86 fun b60 w a h hr => ?_
   refine ln ?_
   refine xE ?_
   refine eo1 13 rfl ?_
   refine stm (wn rfl) hr h 0 ([vB r50.Done, vI r50.Steps, .slice car53 r50.Holders.length ccr54, .slice car55 r50.Reads.length ccr56, .slice car57 r50.Marks.length ccr58, .slice car59 r50.Log.length r50.Log.length]) (ob86 b60 r50 car53 ccr54 car55 ccr56 car57 ccr58 car59 r50.Log.length) fun w h => ?_
   refine ln ?_
   refine xE ?_
   refine evs 0 14 rfl (wn rfl) hr (vI r51) fun a hr => ?_
   refine een ?_
   exact ⟨car53, ccr54, car55, ccr56, car57, ccr58, car59, b60, hr.fj (h.se 14 [7, 8, 9, 10, 11, 12, 13, 0, 1, 2, 3, 4])⟩
  ·
   refine onew (wn rfl) hr h nb (#[vB false, vI 0, .slice none 0 0, .slice none 0 0, .slice none 0 0, .slice none 0 0]) 86 fun b60 w a h hr => ?_
   refine ln ?_
   refine xE ?_
   refine eo1 8 rfl ?_
   have hc := frames_Play_ok (va0 := car11) (vc0 := ccr12) (va1 := car15) (vc1 := ccr16) (hv0 := (RdRow.of_row_take encZ_i64_ok (h.pick 2) (fun h => (h.pick 2)))) (hv1 := (RdRow.of_row_take encZ_i64_ok (h.pick 1) (fun h => (h.pick 1)))) (H := e52) (h := h)
   refine cl (wn rfl) hr hc ?_; clear hc h
   rintro _ w ⟨car53, ccr54, car55, ccr56, car57, ccr58, car59, rfl, h⟩; refine ⟨_, rfl, fun a hr => ?_⟩
   refine ln ?_
   refine xE ?_
   refine evs 4 9 rfl (wn rfl) hr (.tuple #[.agg #[vB r50.Done, vI r50.Steps, .slice car53 r50.Holders.length ccr54, .slice car55 r50.Reads.length ccr56, .slice car57 r50.Marks.length ccr58, .slice car59 r50.Log.length r50.Log.length], vI r51]) fun a hr => ?_
   refine evs 3 10 rfl (wn rfl) hr (.agg #[vB r50.Done, vI r50.Steps, .slice car53 r50.Holders.length ccr54, .slice car55 r50.Reads.length ccr56, .slice car57 r50.Marks.length ccr58, .slice car59 r50.Log.length r50.Log.length]) fun a hr => ?_
   refine evs 2 11 rfl (wn rfl) hr (vI r51) fun a hr => ?_
   refine eo1 13 rfl ?_
   replace h := h.m4
   refine stm (wn rfl) hr h 0 ([vB r50.Done, vI r50.Steps, .slice car53 r50.Holders.length ccr54, .slice car55 r50.Reads.length ccr56, .slice car57 r50.Marks.length ccr58, .slice car59 r50.Log.length r50.Log.length]) (ob86 b60 r50 car53 ccr54 car55 ccr56 car57 ccr58 car59 r50.Log.length) fun w h => ?_
   refine ln ?_
   refine xE ?_
   refine evs 0 14 rfl (wn rfl) hr (vI r51) fun a hr => ?_
   refine een ?_
   exact ⟨car53, ccr54, car55, ccr56, car57, ccr58, car59, b60, hr.fj (h.se 14 [7, 8, 9, 10, 11, 12, 13, 0, 1, 2, 3, 4])⟩
 clear h hr a; rintro a w ⟨car53, ccr54, car55, ccr56, car57, ccr58, car59, b60, j, hr, h⟩
 refine then_normal ?_
 refine sr ?_
 obtain ⟨r61, r62, e63, H⟩ := bd2 H
 refine oo [78, 79] [.slice car3 r1.length ccr4, .slice car7 r5.length ccr8] hr fun a hr => ?_
 have hc := plunderref8_Play_ok (va0 := car3) (vc0 := ccr4) (va1 := car7) (vc1 := ccr8) (hv0 := (RdRow.of_row encZ_i64_ok h (fun h => h))) (hv1 := (RdRow.of_row encZ_i64_ok (h.pick 1) (fun h => (h.pick 1)))) (H := e63) (h := h)
 refine cl (wn rfl) hr hc ?_; clear hc h
 rintro _ w ⟨car64, ccr65, car66, ccr67, car68, ccr69, car70, ccr71, rfl, h⟩; refine ⟨_, rfl, fun a hr => ?_⟩
 refine oo [77, 81, 82] [.tuple #[.agg #[vB r61.Done, vI r61.Steps, .slice car64 r61.Holders.length ccr65, .slice car66 r61.Reads.length ccr67, .slice car68 r61.Marks.length ccr69, .slice car70 r61.Log.length ccr71], vI r62], .agg #[vB r61.Done, vI r61.Steps, .slice car64 r61.Holders.length ccr65, .slice car66 r61.Reads.length ccr67, .slice car68 r61.Marks.length ccr69, .slice car70 r61.Log.length ccr71], vI r62] hr fun a hr => ?_
 refine onew (wn rfl) hr h nb (#[vB false, vI 0, .slice none 0 0, .slice none 0 0, .slice none 0 0, .slice none 0 0]) 86 fun b72 w a h hr => ?_
 refine stm (wn rfl) hr h 0 ([vB r61.Done, vI r61.Steps, .slice car64 r61.Holders.length ccr65, .slice car66 r61.Reads.length ccr67, .slice car68 r61.Marks.length ccr69, .slice car70 r61.Log.length ccr71]) (ob86 b72 r61 car64 ccr65 car66 ccr67 car68 ccr69 car70 ccr71) fun w h => ?_
 refine o1 hr (vI r62) fun a hr => ?_
 refine ln ?_
 refine sr ?_
 obtain ⟨r73, r74, e75, H⟩ := bd2 H
 refine oo [84, 85] [.slice va0 p0.length vc0, .slice va1 p1.length vc1] hr fun a hr => ?_
 have hc := plunderref8_Play_ok (va0 := va0) (vc0 := vc0) (va1 := va1) (vc1 := vc1) (hv0 := (RdRow.up 17 hv0)) (hv1 := (RdRow.up 17 hv1)) (H := e75) (h := h)
 refine cl (wn rfl) hr hc ?_; clear hc h
 rintro _ w ⟨car76, ccr77, car78, ccr79, car80, ccr81, car82, ccr83, rfl, h⟩; refine ⟨_, rfl, fun a hr => ?_⟩
 refine oo [83, 87, 88] [.tuple #[.agg #[vB r73.Done, vI r73.Steps, .slice car76 r73.Holders.length ccr77, .slice car78 r73.Reads.length ccr79, .slice car80 r73.Marks.length ccr81, .slice car82 r73.Log.length ccr83], vI r74], .agg #[vB r73.Done, vI r73.Steps, .slice car76 r73.Holders.length ccr77, .slice car78 r73.Reads.length ccr79, .slice car80 r73.Marks.length ccr81, .slice car82 r73.Log.length ccr83], vI r74] hr fun a hr => ?_
 refine onew (wn rfl) hr h nb (#[vB false, vI 0, .slice none 0 0, .slice none 0 0, .slice none 0 0, .slice none 0 0]) 86 fun b84 w a h hr => ?_
 refine stm (wn rfl) hr h 0 ([vB r73.Done, vI r73.Steps, .slice car76 r73.Holders.length ccr77, .slice car78 r73.Reads.length ccr79, .slice car80 r73.Marks.length ccr81, .slice car82 r73.Log.length ccr83]) (ob86 b84 r73 car76 ccr77 car78 ccr79 car80 ccr81 car82 ccr83) fun w h => ?_
 refine o1 hr (vI r74) fun a hr => ?_
 refine ln ?_
 refine sr ?_
 refine oo [89, 90, 91, 92] [vI r20, vI r62, vB (r20 == r62), vB (r20 == r62)] hr fun a hr => ?_
 by_cases c85 : r20 = r62
 ·
  replace H := ifT c85 H
  refine onl (beq_iff_eq.mpr c85) [93, 94, 95] [vI r51, vI r74, vB (r51 == r74)] hr fun a hr => ?_
  refine opv (wn rfl) hr (vB (r51 == r74)) (rp_t (b := (r20 == r62)) rfl (by kernel_rfl) (beq_iff_eq.mpr c85) (by kernel_rfl)) fun a hr => ?_
  refine o1 hr (vB (r51 == r74)) fun a hr => ?_
  by_cases c86 : r51 = r74
  ·
   replace H := ifT c86 H
   refine ldm (wgt hr (beq_iff_eq.mpr c86)) hr (.agg #[vB r19.Done, vI r19.Steps, .slice car22 r19.Holders.length ccr23, .slice car24 r19.Reads.length ccr25, .slice car26 r19.Marks.length ccr27, .slice car28 r19.Log.length r19.Log.length]) (cs := [vB r19.Done, vI r19.Steps, .slice car22 r19.Holders.length ccr23, .slice car24 r19.Reads.length ccr25, .slice car26 r19.Marks.length ccr27, .slice car28 r19.Log.length r19.Log.length]) ((h.pick 12).held 0 rfl) fun a hr => ?_
   refine ldm (wgt hr (beq_iff_eq.mpr c86)) hr (.agg #[vB r61.Done, vI r61.Steps, .slice car64 r61.Holders.length ccr65, .slice car66 r61.Reads.length ccr67, .slice car68 r61.Marks.length ccr69, .slice car70 r61.Log.length ccr71]) (cs := [vB r61.Done, vI r61.Steps, .slice car64 r61.Holders.length ccr65, .slice car66 r61.Reads.length ccr67, .slice car68 r61.Marks.length ccr69, .slice car70 r61.Log.length ccr71]) ((h.pick 5).held 0 rfl) fun a hr => ?_
   obtain ⟨r87, e88, H⟩ := bd1 H
   replace h := h.m9.m9.m9.m9.m16.m16.m16.m16
   have hc := plunderlaw8_sameRun_ok (H := e88) (h := h)
   refine cl (wgt hr (beq_iff_eq.mpr c86)) hr hc ?_; clear hc h
   rintro _ w ⟨rfl, h⟩; refine ⟨_, rfl, fun a hr => ?_⟩
   refine opv (wn rfl) hr (vB r87) (rp_t (b := (r51 == r74)) rfl (by kernel_rfl) (beq_iff_eq.mpr c86) (by kernel_rfl)) fun a hr => ?_
   refine o1 hr (vB r87) fun a hr => ?_
   by_cases c89 : r87 = true
   ·
    replace H := ifT c89 H
    refine ldm (wgt hr (c89)) hr (.agg #[vB r50.Done, vI r50.Steps, .slice car53 r50.Holders.length ccr54, .slice car55 r50.Reads.length ccr56, .slice car57 r50.Marks.length ccr58, .slice car59 r50.Log.length r50.Log.length]) (cs := [vB r50.Done, vI r50.Steps, .slice car53 r50.Holders.length ccr54, .slice car55 r50.Reads.length ccr56, .slice car57 r50.Marks.length ccr58, .slice car59 r50.Log.length r50.Log.length]) ((h.pick 17).held 0 rfl) fun a hr => ?_
    refine ldm (wgt hr (c89)) hr (.agg #[vB r73.Done, vI r73.Steps, .slice car76 r73.Holders.length ccr77, .slice car78 r73.Reads.length ccr79, .slice car80 r73.Marks.length ccr81, .slice car82 r73.Log.length ccr83]) (cs := [vB r73.Done, vI r73.Steps, .slice car76 r73.Holders.length ccr77, .slice car78 r73.Reads.length ccr79, .slice car80 r73.Marks.length ccr81, .slice car82 r73.Log.length ccr83]) ((h.pick 8).held 0 rfl) fun a hr => ?_
    obtain ⟨r90, e91, H⟩ := bd1 H
    replace h := h.m12.m12.m12.m12.m21.m21.m21.m21
    have hc := plunderlaw8_sameRun_ok (H := e91) (h := h)
    refine cl (wgt hr (c89)) hr hc ?_; clear hc h
    rintro _ w ⟨rfl, h⟩; refine ⟨_, rfl, fun a hr => ?_⟩
    refine opv (wn rfl) hr (vB r90) (rp_t (b := r87) rfl (by kernel_rfl) (c89) (by kernel_rfl)) fun a hr => ?_
    refine o1 hr (vB r90) fun a hr => ?_
    refine ln ?_
    refine wp_ret ?_
    refine end_ret1 (v := vB r90) rfl hr (by kernel_rfl) ?_
    replace H := ej1 H; subst H
    exact ⟨rfl, h.se 22 []⟩
   ·
    replace H := ifF c89 H
    refine offl (bF c89) [103, 104, 105] hr fun a hr => ?_
    refine opv (wn rfl) hr (vB false) (rp_f (b := r87) rfl (by kernel_rfl) (bF c89) (by kernel_rfl)) fun a hr => ?_
    refine o1 hr (vB false) fun a hr => ?_
    refine ln ?_
    refine wp_ret ?_
    refine end_ret1 (v := vB false) rfl hr (by kernel_rfl) ?_
    replace H := ej1 H; subst H
    exact ⟨rfl, h.se 22 []⟩
  ·
   replace H := ifF c86 H
   refine offl (beq_eq_false_iff_ne.mpr c86) [98, 99, 100] hr fun a hr => ?_
   refine opv (wn rfl) hr (vB false) (rp_f (b := (r51 == r74)) rfl (by kernel_rfl) (beq_eq_false_iff_ne.mpr c86) (by kernel_rfl)) fun a hr => ?_
   refine o1 hr (vB false) fun a hr => ?_
   refine offl (rfl : false = false) [103, 104, 105] hr fun a hr => ?_
   refine oo [106, 4] [vB false, vB false] hr fun a hr => ?_
   refine ln ?_
   refine wp_ret ?_
   refine end_ret1 (v := vB false) rfl hr (by kernel_rfl) ?_
   replace H := ej1 H; subst H
   exact ⟨rfl, h.se 22 []⟩
 ·
  replace H := ifF c85 H
  refine offl (beq_eq_false_iff_ne.mpr c85) [93, 94, 95] hr fun a hr => ?_
  refine opv (wn rfl) hr (vB false) (rp_f (b := (r20 == r62)) rfl (by kernel_rfl) (beq_eq_false_iff_ne.mpr c85) (by kernel_rfl)) fun a hr => ?_
  refine o1 hr (vB false) fun a hr => ?_
  refine offl (rfl : false = false) [98, 99, 100] hr fun a hr => ?_
  refine oo [101, 102] [vB false, vB false] hr fun a hr => ?_
  refine offl (rfl : false = false) [103, 104, 105] hr fun a hr => ?_
  refine oo [106, 4] [vB false, vB false] hr fun a hr => ?_
  refine ln ?_
  refine wp_ret ?_
  refine end_ret1 (v := vB false) rfl hr (by kernel_rfl) ?_
  replace H := ej1 H; subst H
  exact ⟨rfl, h.se 22 []⟩

/-- plunder/plunderlaw8.FramesPlay -/
def plunderlaw8_FramesPlay (K : Nat) (p0 : List Int) (p1 : List Int) : Option (Bool) :=
  ob2 (plunderref8_Play K p0 p1) (fun r1 r2 => ob1 (plunderlaw8_spare K p0) (fun r13 => ob1 (plunderlaw8_spare K p1) (fun r17 => if 0 ≤ ((p0.length : Nat) : Int) ∧ ((p0.length : Nat) : Int) ≤ ((r13.length : Nat) : Int) then if 0 ≤ ((p1.length : Nat) : Int) ∧ ((p1.length : Nat) : Int) ≤ ((r17.length : Nat) : Int) then ob2 (frames_Play K (r13.take ((p0.length : Nat) : Int).toNat) (r17.take ((p1.length : Nat) : Int).toNat)) (fun r23 r24 => ob2 (frames_Play K (r13.take ((p0.length : Nat) : Int).toNat) (r17.take ((p1.length : Nat) : Int).toNat)) (fun r34 r35 => jn0 ((if r24 = r2 then (if r35 = r2 then ob1 (plunderlaw8_sameRun K r23 r1) (fun r49 => (if r49 = true then some (.inl ()) else some (.inr false))) else some (.inr false)) else some (.inr false))) (ob1 (plunderlaw8_spoil K r23) (fun S52 => ob1 (plunderlaw8_sameRun K r34 r1) (fun r58 => (if r58 = true then ob1 (plunderlaw8_spoilt K ({ S52 with Done := r23.Done, Steps := r23.Steps })) (fun r61 => (if r61 = true then ob1 (plunderlaw8_untouched K r13 p0) (fun r64 => (if r64 = true then ob1 (plunderlaw8_untouched K r17 p1) (fun r67 => (if r67 = true then ob1 (plunderlaw8_playPlaced K p0 p1) (fun r70 => some r70) else some false)) else some false)) else some false)) else some false)))))) else none else none)))

theorem plunderlaw8_FramesPlay_ok {z w : World} {L : List HProp} {K : Nat} {p0 p1 : List Int} {va0 va1 : Option Addr} {vc0 vc1 : Nat} {r0 : Bool} (H : plunderlaw8_FramesPlay K p0 p1 = some r0) (h : Fit z (sepL (L)) w) (hv0 : RdRow L 1 encZ_i64 va0 p0) (hv1 : RdRow L 1 encZ_i64 va1 p1) :
    Calls Try.prog 8 #[.slice va0 p0.length vc0, .slice va1 p1.length vc1] w fun e w => e = .returned (vB r0) ∧ Fit z (sepL (L)) w := by
 unfold plunderlaw8_FramesPlay at H
 refine enter Try.func8 rfl 85 rfl rfl [(0, .slice va0 p0.length vc0), (1, .slice va1 p1.length vc1)] ⟨rfl, rfl, trivial⟩ ?_
 intro j a hr
 refine sr ?_
 refine o1 hr (vB false) fun a hr => ?_
 refine ln ?_
 refine sr ?_
 obtain ⟨r1, r2, e3, H⟩ := bd2 H
 refine oo [14, 15] [.slice va0 p0.length vc0, .slice va1 p1.length vc1] hr fun a hr => ?_
 have hc := plunderref8_Play_ok (va0 := va0) (vc0 := vc0) (va1 := va1) (vc1 := vc1) (hv0 := (RdRow.up 0 hv0)) (hv1 := (RdRow.up 0 hv1)) (H := e3) (h := h)
 refine cl (wn rfl) hr hc ?_; clear hc h
 rintro _ w ⟨car4, ccr5, car6, ccr7, car8, ccr9, car10, ccr11, rfl, h⟩; refine ⟨_, rfl, fun a hr => ?_⟩
 refine oo [13, 17, 18] [.tuple #[.agg #[vB r1.Done, vI r1.Steps, .slice car4 r1.Holders.length ccr5, .slice car6 r1.Reads.length ccr7, .slice car8 r1.Marks.length ccr9, .slice car10 r1.Log.length ccr11], vI r2], .agg #[vB r1.Done, vI r1.Steps, .slice car4 r1.Holders.length ccr5, .slice car6 r1.Reads.length ccr7, .slice car8 r1.Marks.length ccr9, .slice car10 r1.Log.length ccr11], vI r2] hr fun a hr => ?_
 refine onew (wn rfl) hr h nb (#[vB false, vI 0, .slice none 0 0, .slice none 0 0, .slice none 0 0, .slice none 0 0]) 86 fun b12 w a h hr => ?_
 refine stm (wn rfl) hr h 0 ([vB r1.Done, vI r1.Steps, .slice car4 r1.Holders.length ccr5, .slice car6 r1.Reads.length ccr7, .slice car8 r1.Marks.length ccr9, .slice car10 r1.Log.length ccr11]) (ob86 b12 r1 car4 ccr5 car6 ccr7 car8 ccr9 car10 ccr11) fun w h => ?_
 refine o1 hr (vI r2) fun a hr => ?_
 refine ln ?_
 refine sr ?_
 obtain ⟨r13, e14, H⟩ := bd1 H
 refine o1 hr (.slice va0 p0.length vc0) fun a hr => ?_
 have hc := plunderlaw8_spare_ok (va0 := va0) (vc0 := vc0) (hv0 := (RdRow.up 5 hv0)) (H := e14) (h := h)
 refine cl (wn rfl) hr hc ?_; clear hc h
 rintro _ w ⟨car15, ccr16, rfl, h⟩; refine ⟨_, rfl, fun a hr => ?_⟩
 refine o1 hr (.slice car15 r13.length ccr16) fun a hr => ?_
 refine ln ?_
 refine sr ?_
 obtain ⟨r17, e18, H⟩ := bd1 H
 refine o1 hr (.slice va1 p1.length vc1) fun a hr => ?_
 have hc := plunderlaw8_spare_ok (va0 := va1) (vc0 := vc1) (hv0 := (RdRow.up 6 hv1)) (H := e18) (h := h)
 refine cl (wn rfl) hr hc ?_; clear hc h
 rintro _ w ⟨car19, ccr20, rfl, h⟩; refine ⟨_, rfl, fun a hr => ?_⟩
 refine o1 hr (.slice car19 r17.length ccr20) fun a hr => ?_
 refine ln ?_
 refine wp_seq ?_
 obtain ⟨c21, H⟩ := gd H
 obtain ⟨c22, H⟩ := gd H
 obtain ⟨r23, r24, e25, H⟩ := bd2 H
 refine cut_mid (fun a w => ∃ car26 : Option Addr, ∃ ccr27 : Nat, ∃ car28 : Option Addr, ∃ ccr29 : Nat, ∃ car30 : Option Addr, ∃ ccr31 : Nat, ∃ car32 : Option Addr, ∃ b33 : Nat, ∃ j, Rep 85 (lk [(0, .slice va0 p0.length vc0), (1, .slice va1 p1.length vc1), (5, pA b12 0), (6, vI r2), (7, .slice car15 r13.length ccr16), (8, .slice car19 r17.length ccr20), (9, pA b33 0), (10, vI r24)] j) a ∧ Fit z (sepL (ob86 b12 r1 car4 ccr5 car6 ccr7 car8 ccr9 car10 ccr11 :: ro3 car4 ccr5 r1.Holders :: rn31 car6 ccr7 r1.Reads :: ro2 car8 ccr9 r1.Marks :: ro96 car10 ccr11 r1.Log :: ro3 car15 ccr16 r13 :: ro3 car19 ccr20 r17 :: ob86 b33 r23 car26 ccr27 car28 ccr29 car30 ccr31 car32 r23.Log.length :: ro3 car26 ccr27 r23.Holders :: rn31 car28 ccr29 r23.Reads :: ro2 car30 ccr31 r23.Marks :: ro96 car32 r23.Log.length r23.Log :: L)) w) ?_ ?_
 ·
  refine regL [] [] 15 h (fun _ => trivial) fun w h hd => ?_
  refine evs' hd 12 [(0, 24, .slice car15 r13.length ccr16), (1, 25, .slice va0 p0.length vc0), (2, 26, vI ((p0.length : Nat) : Int))] hr fun a hr => ?_
  refine eon hd 11 3 rfl (wn rfl) hr (.slice car15 (r13.take ((p0.length : Nat) : Int).toNat).length ccr16) (hrun := fun w => rsl (k := .i64) rfl (by kernel_rfl) (by kernel_rfl) (by kernel_rfl) (by kernel_rfl) (h.pick 1) c21) fun a hr => ?_
  refine evs' hd 8 [(4, 28, .slice car19 r17.length ccr20), (5, 29, .slice va1 p1.length vc1), (6, 30, vI ((p1.length : Nat) : Int))] hr fun a hr => ?_
  refine eon hd 7 7 rfl (wn rfl) hr (.slice car19 (r17.take ((p1.length : Nat) : Int).toNat).length ccr20) (hrun := fun w => rsl (k := .i64) rfl (by kernel_rfl) (by kernel_rfl) (by kernel_rfl) (by kernel_rfl) h c22) fun a hr => ?_
  refine e_each (fuel := 6) [8, 12] (by kernel_rfl) rfl (vall_cons ⟨_, rfl, ?_⟩ (vall_cons ⟨_, rfl, ?_⟩ (vall_nil)))
  ·
   have hc := frames_Play_ok (va0 := car15) (vc0 := ccr16) (va1 := car19) (vc1 := ccr20) (hv0 := (RdRow.of_row_take encZ_i64_ok (h.pick 1) (fun h => (h.pick 1)))) (hv1 := (RdRow.of_row_take encZ_i64_ok h (fun h => h))) (H := e25) (h := h)
   refine cl (wn rfl) hr hc ?_; clear hc h
   rintro _ w ⟨car26, ccr27, car28, ccr29, car30, ccr31, car32, rfl, h⟩; refine ⟨_, rfl, fun a hr => ?_⟩
   refine ln ?_
   refine xE ?_
   refine evs 5 9 rfl (wn rfl) hr (.tuple #[.agg #[vB r23.Done, vI r23.Steps, .slice car26 r23.Holders.length ccr27, .slice car28 r23.Reads.length ccr29, .slice car30 r23.Marks.length ccr31, .slice car32 r23.Log.length r23.Log.length], vI r24]) fun a hr => ?_
   refine evs 4 10 rfl (wn rfl) hr (.agg #[vB r23.Done, vI r23.Steps, .slice car26 r23.Holders.length ccr27, .slice car28 r23.Reads.length ccr29, .slice car30 r23.Marks.length ccr31, .slice car32 r23.Log.length r23.Log.length]) fun a hr => ?_
   refine evs 3 11 rfl (wn rfl) hr (vI r24) fun a hr => ?_
   refine eo1 12 rfl ?_
   refine onew (wn rfl) hr h nb (#[vB false, vI 0, .slice none 0 0, .slice none 0 0, .slice none 0 0, .slice none 0 0]) 86 fun b33 w a h hr => ?_
   refine ln ?_
   refine xE ?_
   refine eo1 13 rfl ?_
   refine stm (wn rfl) hr h 0 ([vB r23.Done, vI r23.Steps, .slice car26 r23.Holders.length ccr27, .slice car28 r23.Reads.length ccr29, .slice car30 r23.Marks.length ccr31, .slice car32 r23.Log.length r23.Log.length]) (ob86 b33 r23 car26 ccr27 car28 ccr29 car30 ccr31 car32 r23.Log.length) fun w h => ?_
   refine ln ?_
   refine xE ?_
   refine evs 0 14 rfl (wn rfl) hr (vI r24) fun a hr => ?_
   refine een ?_
   exact ⟨car26, ccr27, car28, ccr29, car30, ccr31, car32, b33, hr.fj (h.se 12 [7, 8, 9, 10, 11, 6, 5, 0, 1, 2, 3, 4])⟩
  ·
   refine onew (wn rfl) hr h nb (#[vB false, vI 0, .slice none 0 0, .slice none 0 0, .slice none 0 0, .slice none 0 0]) 86 fun b33 w a h hr => ?_
   refine ln ?_
   refine xE ?_
   refine eo1 8 rfl ?_
   have hc := frames_Play_ok (va0 := car15) (vc0 := ccr16) (va1 := car19) (vc1 := ccr20) (hv0 := (RdRow.of_row_take encZ_i64_ok (h.pick 2) (fun h => (h.pick 2)))) (hv1 := (RdRow.of_row_take encZ_i64_ok (h.pick 1) (fun h => (h.pick 1)))) (H := e25) (h := h)
   refine cl (wn rfl) hr hc ?_; clear hc h
   rintro _ w ⟨car26, ccr27, car28, ccr29, car30, ccr31, car32, rfl, h⟩; refine ⟨_, rfl, fun a hr => ?_⟩
   refine ln ?_
   refine xE ?_
   refine evs 4 9 rfl (wn rfl) hr (.tuple #[.agg #[vB r23.Done, vI r23.Steps, .slice car26 r23.Holders.length ccr27, .slice car28 r23.Reads.length ccr29, .slice car30 r23.Marks.length ccr31, .slice car32 r23.Log.length r23.Log.length], vI r24]) fun a hr => ?_
   refine evs 3 10 rfl (wn rfl) hr (.agg #[vB r23.Done, vI r23.Steps, .slice car26 r23.Holders.length ccr27, .slice car28 r23.Reads.length ccr29, .slice car30 r23.Marks.length ccr31, .slice car32 r23.Log.length r23.Log.length]) fun a hr => ?_
   refine evs 2 11 rfl (wn rfl) hr (vI r24) fun a hr => ?_
   refine eo1 13 rfl ?_
   replace h := h.m4
   refine stm (wn rfl) hr h 0 ([vB r23.Done, vI r23.Steps, .slice car26 r23.Holders.length ccr27, .slice car28 r23.Reads.length ccr29, .slice car30 r23.Marks.length ccr31, .slice car32 r23.Log.length r23.Log.length]) (ob86 b33 r23 car26 ccr27 car28 ccr29 car30 ccr31 car32 r23.Log.length) fun w h => ?_
   refine ln ?_
   refine xE ?_
   refine evs 0 14 rfl (wn rfl) hr (vI r24) fun a hr => ?_
   refine een ?_
   exact ⟨car26, ccr27, car28, ccr29, car30, ccr31, car32, b33, hr.fj (h.se 12 [7, 8, 9, 10, 11, 6, 5, 0, 1, 2, 3, 4])⟩
 clear h hr a; rintro a w ⟨car26, ccr27, car28, ccr29, car30, ccr31, car32, b33, j, hr, h⟩
 refine then_normal ?_
 refine wp_seq ?_
 obtain ⟨r34, r35, e36, H⟩ := bd2 H
 refine cut_mid (fun a w => ∃ car37 : Option Addr, ∃ ccr38 : Nat, ∃ car39 : Option Addr, ∃ ccr40 : Nat, ∃ car41 : Option Addr, ∃ ccr42 : Nat, ∃ car43 : Option Addr, ∃ b44 : Nat, ∃ j, Rep 85 (lk [(0, .slice va0 p0.length vc0), (1, .slice va1 p1.length vc1), (5, pA b12 0), (6, vI r2), (7, .slice car15 r13.length ccr16), (8, .slice car19 r17.length ccr20), (9, pA b33 0), (10, vI r24), (11, pA b44 0), (12, vI r35)] j) a ∧ Fit z (sepL (ob86 b12 r1 car4 ccr5 car6 ccr7 car8 ccr9 car10 ccr11 :: ro3 car4 ccr5 r1.Holders :: rn31 car6 ccr7 r1.Reads :: ro2 car8 ccr9 r1.Marks :: ro96 car10 ccr11 r1.Log :: ro3 car15 ccr16 r13 :: ro3 car19 ccr20 r17 :: ob86 b33 r23 car26 ccr27 car28 ccr29 car30 ccr31 car32 r23.Log.length :: ro3 car26 ccr27 r23.Holders :: rn31 car28 ccr29 r23.Reads :: ro2 car30 ccr31 r23.Marks :: ro96 car32 r23.Log.length r23.Log :: ob86 b44 r34 car37 ccr38 car39 ccr40 car41 ccr42 car43 r34.Log.length :: ro3 car37 ccr38 r34.Holders :: rn31 car39 ccr40 r34.Reads :: ro2 car41 ccr42 r34.Marks :: ro96 car43 r34.Log.length r34.Log :: L)) w) ?_ ?_
 ·
  refine regL [] [] 15 h (fun _ => trivial) fun w h hd => ?_
  refine evs' hd 12 [(0, 36, .slice car15 r13.length ccr16), (1, 37, .slice va0 p0.length vc0), (2, 38, vI ((p0.length : Nat) : Int))] hr fun a hr => ?_
  refine eon hd 11 3 rfl (wn rfl) hr (.slice car15 (r13.take ((p0.length : Nat) : Int).toNat).length ccr16) (hrun := fun w => rsl (k := .i64) rfl (by kernel_rfl) (by kernel_rfl) (by kernel_rfl) (by kernel_rfl) (h.pick 5) c21) fun a hr => ?_
  refine evs' hd 8 [(4, 40, .slice car19 r17.length ccr20), (5, 41, .slice va1 p1.length vc1), (6, 42, vI ((p1.length : Nat) : Int))] hr fun a hr => ?_
  refine eon hd 7 7 rfl (wn rfl) hr (.slice car19 (r17.take ((p1.length : Nat) : Int).toNat).length ccr20) (hrun := fun w => rsl (k := .i64) rfl (by kernel_rfl) (by kernel_rfl) (by kernel_rfl) (by kernel_rfl) (h.pick 6) c22) fun a hr => ?_
  refine e_each (fuel := 6) [8, 12] (by kernel_rfl) rfl (vall_cons ⟨_, rfl, ?_⟩ (vall_cons ⟨_, rfl, ?_⟩ (vall_nil)))
  ·
   have hc := frames_Play_ok (va0 := car15) (vc0 := ccr16) (va1 := car19) (vc1 := ccr20) (hv0 := (RdRow.of_row_take encZ_i64_ok (h.pick 5) (fun h => (h.pick 5)))) (hv1 := (RdRow.of_row_take encZ_i64_ok (h.pick 6) (fun h => (h.pick 6)))) (H := e36) (h := h)
   refine cl (wn rfl) hr hc ?_; clear hc h
   rintro _ w ⟨car37, ccr38, car39, ccr40, car41, ccr42, car43, rfl, h⟩; refine ⟨_, rfl, fun a hr => ?_⟩
   refine ln ?_
   refine xE ?_
   refine evs 5 9 rfl (wn rfl) hr (.tuple #[.agg #[vB r34.Done, vI r34.Steps, .slice car37 r34.Holders.length ccr38, .slice car39 r34.Reads.length ccr40, .slice car41 r34.Marks.length ccr42, .slice car43 r34.Log.length r34.Log.length], vI r35]) fun a hr => ?_
   refine evs 4 10 rfl (wn rfl) hr (.agg #[vB r34.Done, vI r34.Steps, .slice car37 r34.Holders.length ccr38, .slice car39 r34.Reads.length ccr40, .slice car41 r34.Marks.length ccr42, .slice car43 r34.Log.length r34.Log.length]) fun a hr => ?_
   refine evs 3 11 rfl (wn rfl) hr (vI r35) fun a hr => ?_
   refine eo1 12 rfl ?_
   refine onew (wn rfl) hr h nb (#[vB false, vI 0, .slice none 0 0, .slice none 0 0, .slice none 0 0, .slice none 0 0]) 86 fun b44 w a h hr => ?_
   refine ln ?_
   refine xE ?_
   refine eo1 13 rfl ?_
   refine stm (wn rfl) hr h 0 ([vB r34.Done, vI r34.Steps, .slice car37 r34.Holders.length ccr38, .slice car39 r34.Reads.length ccr40, .slice car41 r34.Marks.length ccr42, .slice car43 r34.Log.length r34.Log.length]) (ob86 b44 r34 car37 ccr38 car39 ccr40 car41 ccr42 car43 r34.Log.length) fun w h => ?_
   refine ln ?_
   refine xE ?_
   refine evs 0 14 rfl (wn rfl) hr (vI r35) fun a hr => ?_
   refine een ?_
   exact ⟨car37, ccr38, car39, ccr40, car41, ccr42, car43, b44, hr.fj (h.se 17 [5, 6, 7, 8, 9, 10, 11, 12, 13, 14, 15, 16, 0, 1, 2, 3, 4])⟩
  ·
   refine onew (wn rfl) hr h nb (#[vB false, vI 0, .slice none 0 0, .slice none 0 0, .slice none 0 0, .slice none 0 0]) 86 fun b44 w a h hr => ?_
   refine ln ?_
   refine xE ?_
   refine eo1 8 rfl ?_
   have hc := frames_Play_ok (va0 := car15) (vc0 := ccr16) (va1 := car19) (vc1 := ccr20) (hv0 := (RdRow.of_row_take encZ_i64_ok (h.pick 6) (fun h => (h.pick 6)))) (hv1 := (RdRow.of_row_take encZ_i64_ok (h.pick 7) (fun h => (h.pick 7)))) (H := e36) (h := h)
   refine cl (wn rfl) hr hc ?_; clear hc h
   rintro _ w ⟨car37, ccr38, car39, ccr40, car41, ccr42, car43, rfl, h⟩; refine ⟨_, rfl, fun a hr => ?_⟩
   refine ln ?_
   refine xE ?_
   refine evs 4 9 rfl (wn rfl) hr (.tuple #[.agg #[vB r34.Done, vI r34.Steps, .slice car37 r34.Holders.length ccr38, .slice car39 r34.Reads.length ccr40, .slice car41 r34.Marks.length ccr42, .slice car43 r34.Log.length r34.Log.length], vI r35]) fun a hr => ?_
   refine evs 3 10 rfl (wn rfl) hr (.agg #[vB r34.Done, vI r34.Steps, .slice car37 r34.Holders.length ccr38, .slice car39 r34.Reads.length ccr40, .slice car41 r34.Marks.length ccr42, .slice car43 r34.Log.length r34.Log.length]) fun a hr => ?_
   refine evs 2 11 rfl (wn rfl) hr (vI r35) fun a hr => ?_
   refine eo1 13 rfl ?_
   replace h := h.m4
   refine stm (wn rfl) hr h 0 ([vB r34.Done, vI r34.Steps, .slice car37 r34.Holders.length ccr38, .slice car39 r34.Reads.length ccr40, .slice car41 r34.Marks.length ccr42, .slice car43 r34.Log.length r34.Log.length]) (ob86 b44 r34 car37 ccr38 car39 ccr40 car41 ccr42 car43 r34.Log.length) fun w h => ?_
   refine ln ?_
   refine xE ?_
   refine evs 0 14 rfl (wn rfl) hr (vI r35) fun a hr => ?_
   refine een ?_
   exact ⟨car37, ccr38, car39, ccr40, car41, ccr42, car43, b44, hr.fj (h.se 17 [5, 6, 7, 8, 9, 10, 11, 12, 13, 14, 15, 16, 0, 1, 2, 3, 4])⟩
 clear h hr a; rintro a w ⟨car37, ccr38, car39, ccr40, car41, ccr42, car43, b44, j, hr, h⟩
 refine then_normal ?_
 obtain ⟨o46, H, hK45⟩ := jd0 H
 refine cut_rule (β := Unit) (fun _ a w => .inl () = o46 ∧ ∃ j, Rep 85 (lk [(0, .slice va0 p0.length vc0), (1, .slice va1 p1.length vc1), (5, pA b12 0), (7, .slice car15 r13.length ccr16), (8, .slice car19 r17.length ccr20), (9, pA b33 0), (11, pA b44 0)] j) a ∧ Fit z (sepL (ob86 b12 r1 car4 ccr5 car6 ccr7 car8 ccr9 car10 ccr11 :: ro3 car4 ccr5 r1.Holders :: rn31 car6 ccr7 r1.Reads :: ro2 car8 ccr9 r1.Marks :: ro96 car10 ccr11 r1.Log :: ro3 car15 ccr16 r13 :: ro3 car19 ccr20 r17 :: ob86 b33 r23 car26 ccr27 car28 ccr29 car30 ccr31 car32 r23.Log.length :: ro3 car26 ccr27 r23.Holders :: rn31 car28 ccr29 r23.Reads :: ro2 car30 ccr31 r23.Marks :: ro96 car32 r23.Log.length r23.Log :: ob86 b44 r34 car37 ccr38 car39 ccr40 car41 ccr42 car43 r34.Log.length :: ro3 car37 ccr38 r34.Holders :: rn31 car39 ccr40 r34.Reads :: ro2 car41 ccr42 r34.Marks :: ro96 car43 r34.Log.length r34.Log :: L)) w) ?_ ?_
 ·
  refine sr ?_
  refine oo [47, 48, 49, 50] [vI r24, vI r2, vB (r24 != r2), vB (r24 != r2)] hr fun a hr => ?_
  by_cases c47 : r24 = r2
  ·
   replace H := ifT c47 H
   refine onl (bne_eq_false_iff_eq.mpr c47) [51, 52, 53] [vI r35, vI r2, vB (r35 != r2)] hr fun a hr => ?_
   refine opv (wn rfl) hr (vB (r35 != r2)) (rp_f (b := (r24 != r2)) rfl (by kernel_rfl) (bne_eq_false_iff_eq.mpr c47) (by kernel_rfl)) fun a hr => ?_
   refine o1 hr (vB (r35 != r2)) fun a hr => ?_
   by_cases c48 : r35 = r2
   ·
    replace H := ifT c48 H
    refine ldm (wgt hr (bne_eq_false_iff_eq.mpr c48)) hr (.agg #[vB r23.Done, vI r23.Steps, .slice car26 r23.Holders.length ccr27, .slice car28 r23.Reads.length ccr29, .slice car30 r23.Marks.length ccr31, .slice car32 r23.Log.length r23.Log.length]) (cs := [vB r23.Done, vI r23.Steps, .slice car26 r23.Holders.length ccr27, .slice car28 r23.Reads.length ccr29, .slice car30 r23.Marks.length ccr31, .slice car32 r23.Log.length r23.Log.length]) ((h.pick 7).held 0 rfl) fun a hr => ?_
    refine ldm (wgt hr (bne_eq_false_iff_eq.mpr c48)) hr (.agg #[vB r1.Done, vI r1.Steps, .slice car4 r1.Holders.length ccr5, .slice car6 r1.Reads.length ccr7, .slice car8 r1.Marks.length ccr9, .slice car10 r1.Log.length ccr11]) (cs := [vB r1.Done, vI r1.Steps, .slice car4 r1.Holders.length ccr5, .slice car6 r1.Reads.length ccr7, .slice car8 r1.Marks.length ccr9, .slice car10 r1.Log.length ccr11]) (h.held 0 rfl) fun a hr => ?_
    obtain ⟨r49, e50, H⟩ := bd1 H
    replace h := h.m4.m4.m4.m4.m11.m11.m11.m11
    have hc := plunderlaw8_sameRun_ok (H := e50) (h := h)
    refine cl (wgt hr (bne_eq_false_iff_eq.mpr c48)) hr hc ?_; clear hc h
    rintro _ w ⟨rfl, h⟩; refine ⟨_, rfl, fun a hr => ?_⟩
    refine onl (bne_eq_false_iff_eq.mpr c48) [59] [vB (!r49)] hr fun a hr => ?_
    refine opv (wn rfl) hr (vB (!r49)) (rp_f (b := (r35 != r2)) rfl (by kernel_rfl) (bne_eq_false_iff_eq.mpr c48) (by kernel_rfl)) fun a hr => ?_
    refine ln ?_
    refine cM hr H (fun c51 H => ?_) fun c51 H => ?_
    ·
     refine wp_skip ?_
     refine then_normal ?_
     exact ⟨(), sinj H, hr.fj (h.se 17 [8, 4, 5, 6, 7, 9, 10, 11, 0, 1, 2, 3, 12, 13, 14, 15, 16])⟩
    ·
     refine sr ?_
     refine o1 hr (vB false) fun a hr => ?_
     refine ln ?_
     refine wp_ret ?_
     refine then_ret ?_
     refine end_ret1 (v := vB false) rfl hr (by kernel_rfl) ?_
     replace H := jx0 H hK45
     replace H := ej1 H; subst H
     exact ⟨rfl, h.se 17 []⟩
   ·
    replace H := ifF c48 H
    refine offl (bne_iff_ne.mpr c48) [56, 57, 58, 59] hr fun a hr => ?_
    refine opv (wn rfl) hr (vB true) (rp_t (b := (r35 != r2)) rfl (by kernel_rfl) (bne_iff_ne.mpr c48) (by kernel_rfl)) fun a hr => ?_
    refine ln ?_
    refine cond_tt hr (b := true) rfl ?_
    refine sr ?_
    refine o1 hr (vB false) fun a hr => ?_
    refine ln ?_
    refine wp_ret ?_
    refine then_ret ?_
    refine end_ret1 (v := vB false) rfl hr (by kernel_rfl) ?_
    replace H := jx0 H hK45
    replace H := ej1 H; subst H
    exact ⟨rfl, h.se 17 []⟩
  ·
   replace H := ifF c47 H
   refine offl (bne_iff_ne.mpr c47) [51, 52, 53] hr fun a hr => ?_
   refine opv (wn rfl) hr (vB true) (rp_t (b := (r24 != r2)) rfl (by kernel_rfl) (bne_iff_ne.mpr c47) (by kernel_rfl)) fun a hr => ?_
   refine o1 hr (vB true) fun a hr => ?_
   refine offl (rfl : true = true) [56, 57, 58, 59] hr fun a hr => ?_
   refine o1 hr (vB true) fun a hr => ?_
   refine ln ?_
   refine cond_tt hr (b := true) rfl ?_
   refine sr ?_
   refine o1 hr (vB false) fun a hr => ?_
   refine ln ?_
   refine wp_ret ?_
   refine then_ret ?_
   refine end_ret1 (v := vB false) rfl hr (by kernel_rfl) ?_
   replace H := jx0 H hK45
   replace H := ej1 H; subst H
   exact ⟨rfl, h.se 17 []⟩
 clear h hr a; rintro _ a w ⟨rfl, j, hr, h⟩
 replace H := jk0 hK45
 refine sr ?_
 refine ldm (wn rfl) hr (.agg #[vB r23.Done, vI r23.Steps, .slice car26 r23.Holders.length ccr27, .slice car28 r23.Reads.length ccr29, .slice car30 r23.Marks.length ccr31, .slice car32 r23.Log.length r23.Log.length]) (cs := [vB r23.Done, vI r23.Steps, .slice car26 r23.Holders.length ccr27, .slice car28 r23.Reads.length ccr29, .slice car30 r23.Marks.length ccr31, .slice car32 r23.Log.length r23.Log.length]) ((h.pick 7).held 0 rfl) fun a hr => ?_
 obtain ⟨S52, e53, H⟩ := bd1 H
 replace h := h.m11.m11.m11.m11
 have hc := plunderlaw8_spoil_ok (H := e53) (h := h)
 refine cl (wn rfl) hr hc ?_; clear hc h
 rintro _ w ⟨rfl, h⟩; refine ⟨_, rfl, fun a hr => ?_⟩
 replace h := h.m11.m1
 have hn53 : r23.Holders.length = S52.Holders.length := h.row_n; replace h := Fit.ren1 hn53 (fun q_ => rowOf 3 1 encZ_i64 (.slice car26 q_ ccr27) S52.Holders) (fun q_ => pts b33 (.cells #[vB r23.Done, vI r23.Steps, .slice car26 q_ ccr27, .slice car28 r23.Reads.length ccr29, .slice car30 r23.Marks.length ccr31, .slice car32 r23.Log.length r23.Log.length] 86)) h
 replace h := h.m1.m2
 have hn54 : r23.Reads.length = S52.Reads.length := h.rowN_n; replace h := Fit.ren1 hn54 (fun q_ => rowN 31 1 own_sl31 (.slice car28 q_ ccr29) S52.Reads) (fun q_ => pts b33 (.cells #[vB r23.Done, vI r23.Steps, .slice car26 S52.Holders.length ccr27, .slice car28 q_ ccr29, .slice car30 r23.Marks.length ccr31, .slice car32 r23.Log.length r23.Log.length] 86)) h
 replace h := h.m1.m3
 have hn55 : r23.Marks.length = S52.Marks.length := h.row_n; replace h := Fit.ren1 hn55 (fun q_ => rowOf 2 1 encZ_i64 (.slice car30 q_ ccr31) S52.Marks) (fun q_ => pts b33 (.cells #[vB r23.Done, vI r23.Steps, .slice car26 S52.Holders.length ccr27, .slice car28 S52.Reads.length ccr29, .slice car30 q_ ccr31, .slice car32 r23.Log.length r23.Log.length] 86)) h
 replace h := h.m1.m4
 have hn56 : r23.Log.length = S52.Log.length := h.row_n; replace h := Fit.ren1 hn56 (fun q_ => rowOf 96 6 enc_T_api_Access (.slice car32 q_ r23.Log.length) S52.Log) (fun q_ => pts b33 (.cells #[vB r23.Done, vI r23.Steps, .slice car26 S52.Holders.length ccr27, .slice car28 S52.Reads.length ccr29, .slice car30 S52.Marks.length ccr31, .slice car32 q_ r23.Log.length] 86)) h
 refine ln ?_
 refine sr ?_
 refine ldm (wn rfl) hr (.agg #[vB r34.Done, vI r34.Steps, .slice car37 r34.Holders.length ccr38, .slice car39 r34.Reads.length ccr40, .slice car41 r34.Marks.length ccr42, .slice car43 r34.Log.length r34.Log.length]) (cs := [vB r34.Done, vI r34.Steps, .slice car37 r34.Holders.length ccr38, .slice car39 r34.Reads.length ccr40, .slice car41 r34.Marks.length ccr42, .slice car43 r34.Log.length r34.Log.length]) ((h.pick 12).held 0 rfl) fun a hr => ?_
 refine ldm (wn rfl) hr (.agg #[vB r1.Done, vI r1.Steps, .slice car4 r1.Holders.length ccr5, .slice car6 r1.Reads.length ccr7, .slice car8 r1.Marks.length ccr9, .slice car10 r1.Log.length ccr11]) (cs := [vB r1.Done, vI r1.Steps, .slice car4 r1.Holders.length ccr5, .slice car6 r1.Reads.length ccr7, .slice car8 r1.Marks.length ccr9, .slice car10 r1.Log.length ccr11]) ((h.pick 5).held 0 rfl) fun a hr => ?_
 obtain ⟨r58, e59, H⟩ := bd1 H
 replace h := h.m9.m9.m9.m9.m16.m16.m16.m16
 have hc := plunderlaw8_sameRun_ok (H := e59) (h := h)
 refine cl (wn rfl) hr hc ?_; clear hc h
 rintro _ w ⟨rfl, h⟩; refine ⟨_, rfl, fun a hr => ?_⟩
 refine o1 hr (vB r58) fun a hr => ?_
 by_cases c60 : r58 = true
 ·
  replace H := ifT c60 H
  refine ldm (wgt hr (c60)) hr (.agg #[vB r23.Done, vI r23.Steps, .slice car26 S52.Holders.length ccr27, .slice car28 S52.Reads.length ccr29, .slice car30 S52.Marks.length ccr31, .slice car32 S52.Log.length r23.Log.length]) (cs := [vB r23.Done, vI r23.Steps, .slice car26 S52.Holders.length ccr27, .slice car28 S52.Reads.length ccr29, .slice car30 S52.Marks.length ccr31, .slice car32 S52.Log.length r23.Log.length]) ((h.pick 9).held 0 rfl) fun a hr => ?_
  obtain ⟨r61, e62, H⟩ := bd1 H
  replace h := h.m8.m10.m11.m12
  have hc := plunderlaw8_spoilt_ok (H := e62) (h := h)
  refine cl (wgt hr (c60)) hr hc ?_; clear hc h
  rintro _ w ⟨rfl, h⟩; refine ⟨_, rfl, fun a hr => ?_⟩
  refine opv (wn rfl) hr (vB r61) (rp_t (b := r58) rfl (by kernel_rfl) (c60) (by kernel_rfl)) fun a hr => ?_
  refine o1 hr (vB r61) fun a hr => ?_
  by_cases c63 : r61 = true
  ·
   replace H := ifT c63 H
   obtain ⟨r64, e65, H⟩ := bd1 H
   refine onl (c63) [71, 72] [.slice car15 r13.length ccr16, .slice va0 p0.length vc0] hr fun a hr => ?_
   replace h := h.m14
   have hc := plunderlaw8_untouched_ok (va1 := va0) (vc1 := vc0) (hv1 := (RdRow.up 16 hv0)) (H := e65) (h := h)
   refine cl (wgt hr (c63)) hr hc ?_; clear hc h
   rintro _ w ⟨rfl, h⟩; refine ⟨_, rfl, fun a hr => ?_⟩
   refine opv (wn rfl) hr (vB r64) (rp_t (b := r61) rfl (by kernel_rfl) (c63) (by kernel_rfl)) fun a hr => ?_
   refine o1 hr (vB r64) fun a hr => ?_
   by_cases c66 : r64 = true
   ·
    replace H := ifT c66 H
    obtain ⟨r67, e68, H⟩ := bd1 H
    refine onl (c66) [76, 77] [.slice car19 r17.length ccr20, .slice va1 p1.length vc1] hr fun a hr => ?_
    replace h := h.m15
    have hc := plunderlaw8_untouched_ok (va1 := va1) (vc1 := vc1) (hv1 := (RdRow.up 16 hv1)) (H := e68) (h := h)
    refine cl (wgt hr (c66)) hr hc ?_; clear hc h
    rintro _ w ⟨rfl, h⟩; refine ⟨_, rfl, fun a hr => ?_⟩
    refine opv (wn rfl) hr (vB r67) (rp_t (b := r64) rfl (by kernel_rfl) (c66) (by kernel_rfl)) fun a hr => ?_
    refine o1 hr (vB r67) fun a hr => ?_
    by_cases c69 : r67 = true
    ·
     replace H := ifT c69 H
     obtain ⟨r70, e71, H⟩ := bd1 H
     refine onl (c69) [81, 82] [.slice va0 p0.length vc0, .slice va1 p1.length vc1] hr fun a hr => ?_
     have hc := plunderlaw8_playPlaced_ok (va0 := va0) (vc0 := vc0) (va1 := va1) (vc1 := vc1) (hv0 := (RdRow.up 17 hv0)) (hv1 := (RdRow.up 17 hv1)) (H := e71) (h := h)
     refine cl (wgt hr (c69)) hr hc ?_; clear hc h
     rintro _ w ⟨rfl, h⟩; refine ⟨_, rfl, fun a hr => ?_⟩
     refine opv (wn rfl) hr (vB r70) (rp_t (b := r67) rfl (by kernel_rfl) (c69) (by kernel_rfl)) fun a hr => ?_
     refine o1 hr (vB r70) fun a hr => ?_
     refine ln ?_
     refine wp_ret ?_
     refine end_ret1 (v := vB r70) rfl hr (by kernel_rfl) ?_
     replace H := ej1 H; subst H
     exact ⟨rfl, h.se 17 []⟩
    ·
     replace H := ifF c69 H
     refine offl (bF c69) [81, 82, 83] hr fun a hr => ?_
     refine opv (wn rfl) hr (vB false) (rp_f (b := r67) rfl (by kernel_rfl) (bF c69) (by kernel_rfl)) fun a hr => ?_
     refine o1 hr (vB false) fun a hr => ?_
     refine ln ?_
     refine wp_ret ?_
     refine end_ret1 (v := vB false) rfl hr (by kernel_rfl) ?_
     replace H := ej1 H; subst H
     exact ⟨rfl, h.se 17 []⟩
   ·
    replace H := ifF c66 H
    refine offl (bF c66) [76, 77, 78] hr fun a hr => ?_
    refine opv (wn rfl) hr (vB false) (rp_f (b := r64) rfl (by kernel_rfl) (bF c66) (by kernel_rfl)) fun a hr => ?_
    refine o1 hr (vB false) fun a hr => ?_
    refine offl (rfl : false = false) [81, 82, 83] hr fun a hr => ?_
    refine oo [84, 4] [vB false, vB false] hr fun a hr => ?_
    refine ln ?_
    refine wp_ret ?_
    refine end_ret1 (v := vB false) rfl hr (by kernel_rfl) ?_
    replace H := ej1 H; subst H
    exact ⟨rfl, h.se 17 []⟩
  ·
   replace H := ifF c63 H
   refine offl (bF c63) [71, 72, 73] hr fun a hr => ?_
   refine opv (wn rfl) hr (vB false) (rp_f (b := r61) rfl (by kernel_rfl) (bF c63) (by kernel_rfl)) fun a hr => ?_
   refine o1 hr (vB false) fun a hr => ?_
   refine offl (rfl : false = false) [76, 77, 78] hr fun a hr => ?_
   refine oo [79, 80] [vB false, vB false] hr fun a hr => ?_
   refine offl (rfl : false = false) [81, 82, 83] hr fun a hr => ?_
   refine oo [84, 4] [vB false, vB false] hr fun a hr => ?_
   refine ln ?_
   refine wp_ret ?_
   refine end_ret1 (v := vB false) rfl hr (by kernel_rfl) ?_
   replace H := ej1 H; subst H
   exact ⟨rfl, h.se 17 []⟩
 ·
  replace H := ifF c60 H
  refine offl (bF c60) [67, 68] hr fun a hr => ?_
  refine opv (wn rfl) hr (vB false) (rp_f (b := r58) rfl (by kernel_rfl) (bF c60) (by kernel_rfl)) fun a hr => ?_
  refine o1 hr (vB false) fun a hr => ?_
  refine offl (rfl : false = false) [71, 72, 73] hr fun a hr => ?_
  refine oo [74, 75] [vB false, vB false] hr fun a hr => ?_
  refine offl (rfl : false = false) [76, 77, 78] hr fun a hr => ?_
  refine oo [79, 80] [vB false, vB false] hr fun a hr => ?_
  refine offl (rfl : false = false) [81, 82, 83] hr fun a hr => ?_
  refine oo [84, 4] [vB false, vB false] hr fun a hr => ?_
  refine ln ?_
  refine wp_ret ?_
  refine end_ret1 (v := vB false) rfl hr (by kernel_rfl) ?_
  replace H := ej1 H; subst H
  exact ⟨rfl, h.se 17 []⟩


end Go.Proofs.Ytnghahgfcaolbaa.Mo
