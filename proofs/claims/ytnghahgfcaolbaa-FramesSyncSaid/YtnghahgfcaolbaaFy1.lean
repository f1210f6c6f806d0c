/- what the functions compute, as plain Lean functions, and that they do -/
import Derived.Test.YtnghahgfcaolbaaFy0
namespace Go.Proofs.Ytnghahgfcaolbaa.Mo
open Go Go.RowKit Go.Proofs.Ytnghahgfcaolbaa.SL Go.Proofs.Ytnghahgfcaolbaa.GX
set_option linter.unusedVariables false
set_option linter.unusedSimpArgs false

/-- plunder/plunderlaw8.mod -/
def plunderlaw8_mod (p0 : Int) (p1 : Int) : Option (Int) :=
  if p1 ≠ 0 then (if (p0.tmod p1) < 0 then some (wi ((p0.tmod p1) + p1)) else some (p0.tmod p1)) else none

set_option maxRecDepth 100000 in
set_option maxHeartbeats 4000000 in
theorem plunderlaw8_mod_ok {z w : World} {L : List HProp} {p0 : Int} {p1 : Int} {r0 : Int} (H : plunderlaw8_mod p0 p1 = some r0) (h : Fit z (sepL (L)) w)  :
    Calls Try.prog 29 #[vI p0, vI p1] w fun e w => e = .returned (vI r0) ∧ Fit z (sepL (L)) w := by
 unfold plunderlaw8_mod at H
 refine enter Try.func29 rfl 15 rfl rfl [(0, vI p0), (1, vI p1)] ⟨rfl, rfl, trivial⟩ ?_
 intro j a hr
 refine sr ?_
 refine o1 hr (vI 0) fun a hr => ?_
 refine ln ?_
 refine sr ?_
 obtain ⟨c1, H⟩ := gd H
 refine oo [6, 7] [vI p0, vI p1] hr fun a hr => ?_
 refine opv (wn rfl) hr (vI (p0.tmod p1)) (rrem rfl (by kernel_rfl) (by kernel_rfl) c1) fun a hr => ?_
 refine o1 hr (vI (p0.tmod p1)) fun a hr => ?_
 refine ln ?_
 refine wp_seq ?_
 refine sr ?_
 refine oo [9, 10] [vI (p0.tmod p1), vB (decide ((p0.tmod p1) < 0))] hr fun a hr => ?_
 refine ln ?_
 by_cases c2 : (p0.tmod p1) < 0
 ·
  replace H := ifT c2 H
  refine cond_tt hr (decide_eq_true c2) ?_
  refine wp_region_lit ?_
  refine oo [11, 12, 13, 5] [vI (p0.tmod p1), vI p1, vI (wi ((p0.tmod p1) + p1)), vI (wi ((p0.tmod p1) + p1))] hr fun a hr => ?_
  refine ln ?_
  refine sr ?_
  refine oo [14, 4] [vI (wi ((p0.tmod p1) + p1)), vI (wi ((p0.tmod p1) + p1))] hr fun a hr => ?_
  refine ln ?_
  refine wp_ret ?_
  refine end_ret1 (v := vI (wi ((p0.tmod p1) + p1))) rfl hr (by kernel_rfl) ?_
  replace H := ej1 H; subst H
  exact ⟨rfl, h⟩
 ·
  replace H := ifF c2 H
  refine cond_ff hr (decide_eq_false c2) ?_
  refine wp_skip ?_
  refine then_normal ?_
  refine sr ?_
  refine oo [14, 4] [vI (p0.tmod p1), vI (p0.tmod p1)] hr fun a hr => ?_
  refine ln ?_
  refine wp_ret ?_
  refine end_ret1 (v := vI (p0.tmod p1)) rfl hr (by kernel_rfl) ?_
  replace H := ej1 H; subst H
  exact ⟨rfl, h⟩

def plunderlaw8_tidy_l1 (K : Nat) (p0 : List Int) : Nat → (List Int) → Int → Option ((List Int))
  | 0, _, _ => none
  | k1 + 1, l3, g4 => (if g4 < ((p0.length : Nat) : Int) then (if g4 < 64 then if inr_ g4 p0.length then ob1 (plunderlaw8_mod (at_ p0 g4.toNat) 9) (fun r8 => if (l3.length + 1) * 8 ≤ 140737488355328 then (plunderlaw8_tidy_l1 K p0 k1 (l3 ++ [r8]) (wi (g4 + 1))) else none) else none else some l3) else some l3)
/-- plunder/plunderlaw8.tidy -/
def plunderlaw8_tidy (K : Nat) (p0 : List Int) : Option ((List Int)) :=
  (plunderlaw8_tidy_l1 K p0 K ([] : List Int) 0)

set_option maxRecDepth 100000 in
set_option maxHeartbeats 4000000 in
theorem plunderlaw8_tidy_ok {z w : World} {L : List HProp} {K : Nat} {p0 : List Int} {va0 : Option Addr} {vc0 : Nat} {r0 : List Int} (H : plunderlaw8_tidy K p0 = some r0) (h : Fit z (sepL (L)) w) (hv0 : RdRow L 1 encZ_i64 va0 p0) :
    Calls Try.prog 49 #[.slice va0 p0.length vc0] w fun e w => ∃ car0_1 : Option Addr, ∃ ccr0_2 : Nat, e = .returned (.slice car0_1 r0.length ccr0_2) ∧ Fit z (sepL (ro3 car0_1 ccr0_2 r0 :: L)) w := by
 unfold plunderlaw8_tidy at H
 refine enter Try.func49 rfl 24 rfl rfl [(0, .slice va0 p0.length vc0)] ⟨rfl, trivial⟩ ?_
 intro j a hr
 refine sr ?_
 refine o1 hr (.slice none 0 0) fun a hr => ?_
 refine ln ?_
 refine sr ?_
 refine o1 hr (.slice none 0 0) fun a hr => ?_
 refine ln ?_
 refine wp_seq ?_
 refine sr ?_
 refine o1 hr (vI 0) fun a hr => ?_
 refine ln ?_
 refine wp_block ?_
 replace hr := hr.fold2 [(0, .slice va0 p0.length vc0), (3, .slice none ([] : List Int).length 0), (4, vI 0)] (by kernel_rfl); obtain ⟨j, hr⟩ := hr
 replace h : Fit z (sepL (rowOf 3 1 encZ_i64 (.slice none 0 0) ([] : List Int) :: L)) _ := h.row_nil
 replace h : Fit z (sepL (rowOf 3 1 encZ_i64 (.slice none ([] : List Int).length 0) ([] : List Int) :: L)) _ := h.sel 1 [0] (by kernel_rfl) (by kernel_rfl)
 refine loop_rule (β := Nat) id (fun m a w => ∃ ca1 : Option Addr, ∃ cc2 : Nat, ∃ l3 : List Int, ∃ g4 : Int, (plunderlaw8_tidy_l1 K p0 m l3 g4) = some r0 ∧ ∃ j, Rep 24 (lk [(0, .slice va0 p0.length vc0), (3, .slice ca1 l3.length cc2), (4, vI g4)] j) a ∧ Fit z (sepL (ro3 ca1 cc2 l3 :: L)) w) K ⟨none, 0, ([] : List Int), 0, H, j, hr, h⟩ ?_
 clear h hr a H; rintro k1 a w ⟨ca1, cc2, l3, g4, H, j, hr, h⟩
 cases k1 with
 | zero => exact absurd H (by simp [plunderlaw8_tidy_l1])
 | succ k1 =>
  rw [plunderlaw8_tidy_l1] at H
  refine wp_seq ?_
  refine sr ?_
  refine oo [5, 6, 7, 8, 9] [vI g4, .slice va0 p0.length vc0, vI ((p0.length : Nat) : Int), vB (decide (g4 < ((p0.length : Nat) : Int))), vB (decide (g4 < ((p0.length : Nat) : Int)))] hr fun a hr => ?_
  by_cases c5 : g4 < ((p0.length : Nat) : Int)
  ·
   replace H := ifT c5 H
   refine opv (wgt hr (decide_eq_true c5)) hr (vI g4) (by kernel_rfl) fun a hr => ?_
   refine opv (wgt hr (decide_eq_true c5)) hr (vB (decide (g4 < 64))) (by kernel_rfl) fun a hr => ?_
   refine opv (wn rfl) hr (vB (decide (g4 < 64))) (rp_t (b := (decide (g4 < ((p0.length : Nat) : Int)))) rfl (by kernel_rfl) (decide_eq_true c5) (by kernel_rfl)) fun a hr => ?_
   refine ln ?_
   by_cases c6 : g4 < 64
   ·
    replace H := ifT c6 H
    refine cond_tt hr (decide_eq_true c6) ?_
    refine wp_skip ?_
    refine then_normal ?_
    refine wp_seq ?_
    refine wp_block ?_
    refine wp_region_lit ?_
    obtain ⟨c7, H⟩ := gd H
    refine oo [15, 16, 17] [.slice ca1 l3.length cc2, .slice va0 p0.length vc0, vI g4] hr fun a hr => ?_
    refine opv (wn rfl) hr (pA (blk va0) (offs va0 + g4.toNat * 1)) (ri_rd (k := .i64) (E := 3) (cc := vc0) rfl (by kernel_rfl) (by kernel_rfl) rfl (by kernel_rfl) (by kernel_rfl) hv0 c7) fun a hr => ?_
    refine ld (wn rfl) hr (vI (at_ p0 g4.toNat)) (hv0.cell c7 (h.dn 1) 0 rfl) fun a hr => ?_
    obtain ⟨r8, e9, H⟩ := bd1 H
    have hc := plunderlaw8_mod_ok (H := e9) (h := h)
    refine cl (wn rfl) hr hc ?_; clear hc h
    rintro _ w ⟨rfl, h⟩; refine ⟨_, rfl, fun a hr => ?_⟩
    refine onew (wn rfl) hr h (fun b => .slice (some ⟨b, 0, none⟩) 1 1) (#[vI r8]) 3 fun b10 w a h hr => ?_
    replace h : Fit z (sepL (ro3 ca1 cc2 l3 :: pts b10 (.cells #[vI r8] 3) :: L)) _ := h.sel 2 [1, 0] (by kernel_rfl) (by kernel_rfl)
    obtain ⟨c13, H⟩ := gd H
    refine op_append (n0 := l3.length) (c := 1) (bytes := 8) (wn rfl) rfl rfl hr rfl (by kernel_rfl) (by kernel_rfl) encZ_i64_ok (E := 3) (xs := l3) (by kernel_rfl) (by kernel_rfl) h (news := [r8]) (m := 1) rfl ((h.pick 1).news rfl) c13 rfl fun ca11 cc12 w a h hr => ?_
    refine o1 hr (.slice ca11 (l3 ++ [r8]).length cc12) fun a hr => ?_
    refine wpList_nil ?_
    replace h : Fit z (sepL (ro3 ca11 cc12 (l3 ++ [r8]) :: pts b10 (.cells #[vI r8] 3) :: L)) _ := h
    refine blk_normal ?_
    refine then_normal ?_
    refine wp_region_lit ?_
    refine oo [13, 14, 4] [vI g4, vI (wi (g4 + 1)), vI (wi (g4 + 1))] hr fun a hr => ?_
    refine ln ?_
    replace hr := hr.fold2 [(0, .slice va0 p0.length vc0), (3, .slice ca11 (l3 ++ [r8]).length cc12), (4, vI (wi (g4 + 1)))] (by kernel_rfl); obtain ⟨j, hr⟩ := hr
    replace h : Fit z (sepL (ro3 ca11 cc12 (l3 ++ [r8]) :: L)) _ := h.sel 2 [0] (by kernel_rfl) (by kernel_rfl)
    exact ⟨_, ⟨ca11, cc12, (l3 ++ [r8]), (wi (g4 + 1)), H, j, hr, h⟩, Nat.lt_succ_self _⟩
   ·
    replace H := ifF c6 H
    refine cond_ff hr (decide_eq_false c6) ?_
    refine wp_exit ?_
    refine then_exit ?_
    refine then_exit ?_
    refine blk_here ?_
    refine then_normal ?_
    refine sr ?_
    refine oo [23, 2] [.slice ca1 l3.length cc2, .slice ca1 l3.length cc2] hr fun a hr => ?_
    refine ln ?_
    refine wp_ret ?_
    refine end_ret1 (v := .slice ca1 l3.length cc2) rfl hr (by kernel_rfl) ?_
    replace H := ej1 H; subst H
    exact ⟨ca1, cc2, rfl, h⟩
  ·
   replace H := ifF c5 H
   refine offg (wgt hr (decide_eq_false c5)) hr fun a hr => ?_
   refine offg (wgt hr (decide_eq_false c5)) hr fun a hr => ?_
   refine opv (wn rfl) hr (vB false) (rp_f (b := (decide (g4 < ((p0.length : Nat) : Int)))) rfl (by kernel_rfl) (decide_eq_false c5) (by kernel_rfl)) fun a hr => ?_
   refine ln ?_
   refine cond_ff hr (b := false) rfl ?_
   refine wp_exit ?_
   refine then_exit ?_
   refine then_exit ?_
   refine blk_here ?_
   refine then_normal ?_
   refine sr ?_
   refine oo [23, 2] [.slice ca1 l3.length cc2, .slice ca1 l3.length cc2] hr fun a hr => ?_
   refine ln ?_
   refine wp_ret ?_
   refine end_ret1 (v := .slice ca1 l3.length cc2) rfl hr (by kernel_rfl) ?_
   replace H := ej1 H; subst H
   exact ⟨ca1, cc2, rfl, h⟩

/-- plunder/frames.Cells -/
def frames_Cells (p0 : Int) : Option (Int) :=
  (if p0 < 1 then some 0 else (if p0 > 4096 then some 0 else some (wi ((1 : Int) + (wi (p0 * 10))))))

set_option maxRecDepth 100000 in
set_option maxHeartbeats 4000000 in
theorem frames_Cells_ok {z w : World} {L : List HProp} {p0 : Int} {r0 : Int} (H : frames_Cells p0 = some r0) (h : Fit z (sepL (L)) w)  :
    Calls Try.prog 15 #[vI p0] w fun e w => e = .returned (vI r0) ∧ Fit z (sepL (L)) w := by
 unfold frames_Cells at H
 refine enter Try.func15 rfl 12 rfl rfl [(0, vI p0)] ⟨rfl, trivial⟩ ?_
 intro j a hr
 refine sr ?_
 refine o1 hr (vI 0) fun a hr => ?_
 refine ln ?_
 refine wp_seq ?_
 refine sr ?_
 refine oo [3, 4, 5] [vI p0, vB (decide (p0 < 1)), vB (decide (p0 < 1))] hr fun a hr => ?_
 by_cases c1 : p0 < 1
 ·
  replace H := ifT c1 H
  refine offg (wgt hr (decide_eq_true c1)) hr fun a hr => ?_
  refine offg (wgt hr (decide_eq_true c1)) hr fun a hr => ?_
  refine opv (wn rfl) hr (vB true) (rp_t (b := (decide (p0 < 1))) rfl (by kernel_rfl) (decide_eq_true c1) (by kernel_rfl)) fun a hr => ?_
  refine ln ?_
  refine cond_tt hr (b := true) rfl ?_
  refine sr ?_
  refine o1 hr (vI 0) fun a hr => ?_
  refine ln ?_
  refine wp_ret ?_
  refine then_ret ?_
  refine end_ret1 (v := vI 0) rfl hr (by kernel_rfl) ?_
  replace H := ej1 H; subst H
  exact ⟨rfl, h⟩
 ·
  replace H := ifF c1 H
  refine opv (wgt hr (decide_eq_false c1)) hr (vI p0) (by kernel_rfl) fun a hr => ?_
  refine opv (wgt hr (decide_eq_false c1)) hr (vB (decide (p0 > 4096))) (by kernel_rfl) fun a hr => ?_
  refine opv (wn rfl) hr (vB (decide (p0 > 4096))) (rp_f (b := (decide (p0 < 1))) rfl (by kernel_rfl) (decide_eq_false c1) (by kernel_rfl)) fun a hr => ?_
  refine ln ?_
  by_cases c2 : p0 > 4096
  ·
   replace H := ifT c2 H
   refine cond_tt hr (decide_eq_true c2) ?_
   refine sr ?_
   refine o1 hr (vI 0) fun a hr => ?_
   refine ln ?_
   refine wp_ret ?_
   refine then_ret ?_
   refine end_ret1 (v := vI 0) rfl hr (by kernel_rfl) ?_
   replace H := ej1 H; subst H
   exact ⟨rfl, h⟩
  ·
   replace H := ifF c2 H
   refine cond_ff hr (decide_eq_false c2) ?_
   refine wp_skip ?_
   refine then_normal ?_
   refine sr ?_
   refine oo [9, 10, 11, 2] [vI p0, vI (wi (p0 * 10)), vI (wi ((1 : Int) + (wi (p0 * 10)))), vI (wi ((1 : Int) + (wi (p0 * 10))))] hr fun a hr => ?_
   refine ln ?_
   refine wp_ret ?_
   refine end_ret1 (v := vI (wi ((1 : Int) + (wi (p0 * 10))))) rfl hr (by kernel_rfl) ?_
   replace H := ej1 H; subst H
   exact ⟨rfl, h⟩

/-- plunder/cells.good -/
def cells_good (p0 : Int) : Option (Bool) :=
  (if p0 ≥ 0 then some (decide (p0 ≤ 1048576)) else some false)

set_option maxRecDepth 100000 in
set_option maxHeartbeats 4000000 in
theorem cells_good_ok {z w : World} {L : List HProp} {p0 : Int} {r0 : Bool} (H : cells_good p0 = some r0) (h : Fit z (sepL (L)) w)  :
    Calls Try.prog 53 #[vI p0] w fun e w => e = .returned (vB r0) ∧ Fit z (sepL (L)) w := by
 unfold cells_good at H
 refine enter Try.func53 rfl 9 rfl rfl [(0, vI p0)] ⟨rfl, trivial⟩ ?_
 intro j a hr
 refine sr ?_
 refine o1 hr (vB false) fun a hr => ?_
 refine ln ?_
 refine sr ?_
 refine oo [3, 4, 5] [vI p0, vB (decide (p0 ≥ 0)), vB (decide (p0 ≥ 0))] hr fun a hr => ?_
 by_cases c1 : p0 ≥ 0
 ·
  replace H := ifT c1 H
  refine opv (wgt hr (decide_eq_true c1)) hr (vI p0) (by kernel_rfl) fun a hr => ?_
  refine opv (wgt hr (decide_eq_true c1)) hr (vB (decide (p0 ≤ 1048576))) (by kernel_rfl) fun a hr => ?_
  refine opv (wn rfl) hr (vB (decide (p0 ≤ 1048576))) (rp_t (b := (decide (p0 ≥ 0))) rfl (by kernel_rfl) (decide_eq_true c1) (by kernel_rfl)) fun a hr => ?_
  refine o1 hr (vB (decide (p0 ≤ 1048576))) fun a hr => ?_
  refine ln ?_
  refine wp_ret ?_
  refine end_ret1 (v := vB (decide (p0 ≤ 1048576))) rfl hr (by kernel_rfl) ?_
  replace H := ej1 H; subst H
  exact ⟨rfl, h⟩
 ·
  replace H := ifF c1 H
  refine offg (wgt hr (decide_eq_false c1)) hr fun a hr => ?_
  refine offg (wgt hr (decide_eq_false c1)) hr fun a hr => ?_
  refine opv (wn rfl) hr (vB false) (rp_f (b := (decide (p0 ≥ 0))) rfl (by kernel_rfl) (decide_eq_false c1) (by kernel_rfl)) fun a hr => ?_
  refine o1 hr (vB false) fun a hr => ?_
  refine ln ?_
  refine wp_ret ?_
  refine end_ret1 (v := vB false) rfl hr (by kernel_rfl) ?_
  replace H := ej1 H; subst H
  exact ⟨rfl, h⟩

/-- plunder/cells.New -/
def cells_New (p0 : Int) : Option ((Option T_cells_Arena) × Int) :=
  ob1 (cells_good p0) (fun r1 => (if r1 = true then some (some (⟨p0, 0, ([] : List Int), ([] : List T_api_Access), 0, false⟩ : T_cells_Arena), 0) else some (none, 3)))

set_option maxRecDepth 100000 in
set_option maxHeartbeats 4000000 in
theorem cells_New_ok0 {z w : World} {L : List HProp} {p0 : Int} {r0 : T_cells_Arena} {r1 : Int} (H : cells_New p0 = some ((some r0), r1)) (h : Fit z (sepL (L)) w)  :
    Calls Try.prog 14 #[vI p0] w fun e w => ∃ Bn0 : Nat, ∃ car0_1 : Option Addr, ∃ ccr0_2 : Nat, ∃ car0_3 : Option Addr, ∃ ccr0_4 : Nat, e = .returned (.tuple #[pA Bn0 0, vI r1]) ∧ Fit z (sepL (ob103 Bn0 r0 car0_1 ccr0_2 car0_3 ccr0_4 :: ro2 car0_1 ccr0_2 r0.cell :: ro96 car0_3 ccr0_4 r0.log :: L)) w := by
 unfold cells_New at H
 refine enter Try.func14 rfl 11 rfl rfl [(0, vI p0)] ⟨rfl, trivial⟩ ?_
 intro j a hr
 refine sr ?_
 refine oo [2, 3] [pN, vI 0] hr fun a hr => ?_
 refine ln ?_
 refine wp_seq ?_
 refine sr ?_
 obtain ⟨r1, e2, H⟩ := bd1 H
 refine o1 hr (vI p0) fun a hr => ?_
 have hc := cells_good_ok (H := e2) (h := h)
 refine cl (wn rfl) hr hc ?_; clear hc h
 rintro _ w ⟨rfl, h⟩; refine ⟨_, rfl, fun a hr => ?_⟩
 refine o1 hr (vB (!r1)) fun a hr => ?_
 refine ln ?_
 by_cases c3 : r1 = true
 ·
  replace H := ifT c3 H
  refine cond_ff hr (b := (!r1)) (by rw [show r1 = true from (c3)]; rfl) ?_
  refine wp_skip ?_
  refine then_normal ?_
  refine sr ?_
  refine oo [7, 8, 9] [vI p0, .agg #[vI p0, vI 0], .agg #[vI p0, vI 0, .slice none 0 0, .slice none 0 0, vI 0, vB false]] hr fun a hr => ?_
  refine onew (wn rfl) hr h nb (#[vI p0, vI 0, .slice none 0 0, .slice none 0 0, vI 0, vB false]) 103 fun b4 w a h hr => ?_
  refine oo [2, 3] [pA b4 0, vI 0] hr fun a hr => ?_
  refine ln ?_
  refine wp_ret ?_
  refine end_ret2 (v := pA b4 0) (v' := vI 0) rfl hr (by kernel_rfl) (by kernel_rfl) ?_
  replace h : Fit z (sepL (rowOf 2 1 encZ_i64 (.slice none 0 0) ([] : List Int) :: pts b4 (.cells #[vI p0, vI 0, .slice none 0 0, .slice none 0 0, vI 0, vB false] 103) :: L)) _ := h.row_nil
  replace h : Fit z (sepL (rowOf 96 6 enc_T_api_Access (.slice none 0 0) ([] : List T_api_Access) :: rowOf 2 1 encZ_i64 (.slice none 0 0) ([] : List Int) :: pts b4 (.cells #[vI p0, vI 0, .slice none 0 0, .slice none 0 0, vI 0, vB false] 103) :: L)) _ := h.row_nil
  replace h : Fit z (sepL (pts b4 (.cells #[vI p0, vI 0, .slice none 0 0, .slice none 0 0, vI 0, vB false] 103) :: rowOf 2 1 encZ_i64 (.slice none 0 0) ([] : List Int) :: rowOf 96 6 enc_T_api_Access (.slice none 0 0) ([] : List T_api_Access) :: L)) _ := h.sel 3 [2, 1, 0] (by kernel_rfl) (by kernel_rfl)
  cases H
  exact ⟨b4, none, 0, none, 0, rfl, h⟩
 ·
  replace H := ifF c3 H
  refine cond_tt hr (b := (!r1)) (by rw [show r1 = false from (bF c3)]; rfl) ?_
  refine sr ?_
  refine oo [2, 3] [pN, vI 3] hr fun a hr => ?_
  refine ln ?_
  refine wp_ret ?_
  refine then_ret ?_
  refine end_ret2 (v := pN) (v' := vI 3) rfl hr (by kernel_rfl) (by kernel_rfl) ?_
  cases H

set_option maxRecDepth 100000 in
set_option maxHeartbeats 4000000 in
theorem cells_New_ok1 {z w : World} {L : List HProp} {p0 : Int} {r1 : Int} (H : cells_New p0 = some (none, r1)) (h : Fit z (sepL (L)) w)  :
    Calls Try.prog 14 #[vI p0] w fun e w => e = .returned (.tuple #[pN, vI r1]) ∧ Fit z (sepL (L)) w := by
 unfold cells_New at H
 refine enter Try.func14 rfl 11 rfl rfl [(0, vI p0)] ⟨rfl, trivial⟩ ?_
 intro j a hr
 refine sr ?_
 refine oo [2, 3] [pN, vI 0] hr fun a hr => ?_
 refine ln ?_
 refine wp_seq ?_
 refine sr ?_
 obtain ⟨r1, e2, H⟩ := bd1 H
 refine o1 hr (vI p0) fun a hr => ?_
 have hc := cells_good_ok (H := e2) (h := h)
 refine cl (wn rfl) hr hc ?_; clear hc h
 rintro _ w ⟨rfl, h⟩; refine ⟨_, rfl, fun a hr => ?_⟩
 refine o1 hr (vB (!r1)) fun a hr => ?_
 refine ln ?_
 by_cases c3 : r1 = true
 ·
  replace H := ifT c3 H
  refine cond_ff hr (b := (!r1)) (by rw [show r1 = true from (c3)]; rfl) ?_
  refine wp_skip ?_
  refine then_normal ?_
  refine sr ?_
  refine oo [7, 8, 9] [vI p0, .agg #[vI p0, vI 0], .agg #[vI p0, vI 0, .slice none 0 0, .slice none 0 0, vI 0, vB false]] hr fun a hr => ?_
  refine onew (wn rfl) hr h nb (#[vI p0, vI 0, .slice none 0 0, .slice none 0 0, vI 0, vB false]) 103 fun b4 w a h hr => ?_
  refine oo [2, 3] [pA b4 0, vI 0] hr fun a hr => ?_
  refine ln ?_
  refine wp_ret ?_
  refine end_ret2 (v := pA b4 0) (v' := vI 0) rfl hr (by kernel_rfl) (by kernel_rfl) ?_
  replace h : Fit z (sepL (rowOf 2 1 encZ_i64 (.slice none 0 0) ([] : List Int) :: pts b4 (.cells #[vI p0, vI 0, .slice none 0 0, .slice none 0 0, vI 0, vB false] 103) :: L)) _ := h.row_nil
  replace h : Fit z (sepL (rowOf 96 6 enc_T_api_Access (.slice none 0 0) ([] : List T_api_Access) :: rowOf 2 1 encZ_i64 (.slice none 0 0) ([] : List Int) :: pts b4 (.cells #[vI p0, vI 0, .slice none 0 0, .slice none 0 0, vI 0, vB false] 103) :: L)) _ := h.row_nil
  cases H
 ·
  replace H := ifF c3 H
  refine cond_tt hr (b := (!r1)) (by rw [show r1 = false from (bF c3)]; rfl) ?_
  refine sr ?_
  refine oo [2, 3] [pN, vI 3] hr fun a hr => ?_
  refine ln ?_
  refine wp_ret ?_
  refine then_ret ?_
  refine end_ret2 (v := pN) (v' := vI 3) rfl hr (by kernel_rfl) (by kernel_rfl) ?_
  cases H
  exact ⟨rfl, h⟩

/-- (*plunder/cells.ledger).refuse -/
def cells_ledger_refuse (p0 : T_cells_Arena) (p1 : Int) : Option (Int) :=
  (if p1 < 1 then some 21 else (if p1 > (wi (p0.ledger_size - p0.ledger_mark)) then some 22 else some 0))

set_option maxRecDepth 100000 in
set_option maxHeartbeats 4000000 in
theorem cells_ledger_refuse_ok {z w : World} {L : List HProp} {p0 : T_cells_Arena} {p1 : Int} {B0 : Nat} {ca1 : Option Addr} {cc2 : Nat} {ca3 : Option Addr} {cc4 : Nat} {r0 : Int} (H : cells_ledger_refuse p0 p1 = some r0) (h : Fit z (sepL (ob103 B0 p0 ca1 cc2 ca3 cc4 :: ro2 ca1 cc2 p0.cell :: ro96 ca3 cc4 p0.log :: L)) w)  :
    Calls Try.prog 61 #[pA B0 0, vI p1] w fun e w => e = .returned (vI r0) ∧ Fit z (sepL (ob103 B0 p0 ca1 cc2 ca3 cc4 :: ro2 ca1 cc2 p0.cell :: ro96 ca3 cc4 p0.log :: L)) w := by
 unfold cells_ledger_refuse at H
 refine enter Try.func61 rfl 22 rfl rfl [(0, pA B0 0), (1, vI p1)] ⟨rfl, rfl, trivial⟩ ?_
 intro j a hr
 refine sr ?_
 refine o1 hr (vI 0) fun a hr => ?_
 refine ln ?_
 refine wp_seq ?_
 refine sr ?_
 refine oo [5, 6] [vI p1, vB (decide (p1 < 1))] hr fun a hr => ?_
 refine ln ?_
 by_cases c5 : p1 < 1
 ·
  replace H := ifT c5 H
  refine cond_tt hr (decide_eq_true c5) ?_
  refine sr ?_
  refine o1 hr (vI 21) fun a hr => ?_
  refine ln ?_
  refine wp_ret ?_
  refine then_ret ?_
  refine end_ret1 (v := vI 21) rfl hr (by kernel_rfl) ?_
  replace H := ej1 H; subst H
  exact ⟨rfl, h⟩
 ·
  replace H := ifF c5 H
  refine cond_ff hr (decide_eq_false c5) ?_
  refine wp_skip ?_
  refine then_normal ?_
  refine wp_seq ?_
  refine wp_seq ?_
  refine reg_E (fun w => heldC w B0 0 ([vI p0.ledger_size]) ∧ heldC w B0 1 ([vI p0.ledger_mark]) ∧ True) [1, 5, 6, 9, 10] h (by kernel_rfl) ?_; intro w h
  change wpAnyE _ _ _ _ _ _ 15 (Array.replicate 15 false) a w
  have hgo : ∀ w w', CellsGo w w' → (heldC w B0 0 ([vI p0.ledger_size]) ∧ heldC w B0 1 ([vI p0.ledger_mark]) ∧ True) → heldC w' B0 0 ([vI p0.ledger_size]) ∧ heldC w' B0 1 ([vI p0.ledger_mark]) ∧ True := fun w w' g hD => ⟨heldC_go _ _ _ _ _ g hD.1, heldC_go _ _ _ _ _ g hD.2.1, trivial⟩
  refine evs 14 0 rfl (wn rfl) hr (pA B0 0) fun a hr => ?_
  refine evDs hgo ⟨⟨h.cell 0 rfl, trivial⟩, ⟨h.cell 1 rfl, trivial⟩, trivial⟩ 13 1 rfl (wn rfl) hr (vB false) fun a hr => ?_
  refine evs 12 2 rfl (wn rfl) hr (vB false) fun a hr => ?_
  refine evs 11 3 rfl (wgt hr (c := false) rfl) hr (vI p1) fun a hr => ?_
  refine evs 10 4 rfl (wgt hr (c := false) rfl) hr (pA B0 0) fun a hr => ?_
  refine evDs hgo ⟨⟨h.cell 0 rfl, trivial⟩, ⟨h.cell 1 rfl, trivial⟩, trivial⟩ 9 5 rfl (wgt hr (c := false) rfl) hr (pA B0 0) fun a hr => ?_
  refine evDs hgo ⟨⟨h.cell 0 rfl, trivial⟩, ⟨h.cell 1 rfl, trivial⟩, trivial⟩ 8 6 rfl (wgt hr (c := false) rfl) hr (pA B0 0) fun a hr => ?_
  refine evs 7 8 rfl (wgt hr (c := false) rfl) hr (pA B0 0) fun a hr => ?_
  refine evDs hgo ⟨⟨h.cell 0 rfl, trivial⟩, ⟨h.cell 1 rfl, trivial⟩, trivial⟩ 6 9 rfl (wgt hr (c := false) rfl) hr (pA B0 0) fun a hr => ?_
  refine evDs hgo ⟨⟨h.cell 0 rfl, trivial⟩, ⟨h.cell 1 rfl, trivial⟩, trivial⟩ 5 10 rfl (wgt hr (c := false) rfl) hr (pA B0 1) fun a hr => ?_
  refine el [1, 5, 6, 9, 10] (b := B0) (off := 0) (cs := [vI p0.ledger_size]) (fun _ hk => ⟨hk, fun w hD => hD.1⟩) 4 7 rfl (by kernel_rfl) (wgt hr (c := false) rfl) hr (vI p0.ledger_size) ⟨h.cell 0 rfl, trivial⟩ (fun w hc => rl rfl (by kernel_rfl) (by kernel_rfl) hc.1) fun a hr => ?_
  refine el [1, 5, 6, 9, 10] (b := B0) (off := 1) (cs := [vI p0.ledger_mark]) (fun _ hk => ⟨hk, fun w hD => hD.2.1⟩) 3 11 rfl (by kernel_rfl) (wgt hr (c := false) rfl) hr (vI p0.ledger_mark) ⟨h.cell 1 rfl, trivial⟩ (fun w hc => rl rfl (by kernel_rfl) (by kernel_rfl) hc.1) fun a hr => ?_
  refine evs 2 12 rfl (wgt hr (c := false) rfl) hr (vI (wi (p0.ledger_size - p0.ledger_mark))) fun a hr => ?_
  refine evs 1 13 rfl (wgt hr (c := false) rfl) hr (vB (decide (p1 > (wi (p0.ledger_size - p0.ledger_mark))))) fun a hr => ?_
  refine evs 0 14 rfl (wn rfl) hr (vB (decide (p1 > (wi (p0.ledger_size - p0.ledger_mark))))) fun a hr => ?_
  refine e_end (by kernel_rfl) ?_
  refine then_normal ?_
  by_cases c6 : p1 > (wi (p0.ledger_size - p0.ledger_mark))
  ·
   replace H := ifT c6 H
   refine cond_tt hr (decide_eq_true c6) ?_
   refine sr ?_
   refine o1 hr (vI 22) fun a hr => ?_
   refine ln ?_
   refine wp_ret ?_
   refine then_ret ?_
   refine end_ret1 (v := vI 22) rfl hr (by kernel_rfl) ?_
   replace H := ej1 H; subst H
   exact ⟨rfl, h⟩
  ·
   replace H := ifF c6 H
   refine cond_ff hr (decide_eq_false c6) ?_
   refine wp_skip ?_
   refine then_normal ?_
   refine sr ?_
   refine o1 hr (vI 0) fun a hr => ?_
   refine ln ?_
   refine wp_ret ?_
   refine end_ret1 (v := vI 0) rfl hr (by kernel_rfl) ?_
   replace H := ej1 H; subst H
   exact ⟨rfl, h⟩

/-- (*plunder/cells.ledger).take -/
def cells_ledger_take (p0 : T_cells_Arena) (p1 : Int) : Option (Int × T_cells_Arena) :=
  some (p0.ledger_mark, { p0 with ledger_mark := wi (p0.ledger_mark + p1) })

set_option maxRecDepth 100000 in
set_option maxHeartbeats 4000000 in
theorem cells_ledger_take_ok {z w : World} {L : List HProp} {p0 : T_cells_Arena} {p1 : Int} {B0 : Nat} {ca1 : Option Addr} {cc2 : Nat} {ca3 : Option Addr} {cc4 : Nat} {r0 : Int} {q0 : T_cells_Arena} (H : cells_ledger_take p0 p1 = some (r0, q0)) (h : Fit z (sepL (ob103 B0 p0 ca1 cc2 ca3 cc4 :: ro2 ca1 cc2 p0.cell :: ro96 ca3 cc4 p0.log :: L)) w)  :
    Calls Try.prog 62 #[pA B0 0, vI p1] w fun e w => ∃ caq0_1 : Option Addr, ∃ ccq0_2 : Nat, ∃ caq0_3 : Option Addr, ∃ ccq0_4 : Nat, e = .returned (vI r0) ∧ Fit z (sepL (ob103 B0 q0 caq0_1 ccq0_2 caq0_3 ccq0_4 :: ro2 caq0_1 ccq0_2 q0.cell :: ro96 caq0_3 ccq0_4 q0.log :: L)) w := by
 unfold cells_ledger_take at H
 refine enter Try.func62 rfl 19 rfl rfl [(0, pA B0 0), (1, vI p1)] ⟨rfl, rfl, trivial⟩ ?_
 intro j a hr
 refine sr ?_
 refine o1 hr (vI 0) fun a hr => ?_
 refine ln ?_
 refine sr ?_
 refine oo [6, 7, 8] [pA B0 0, pA B0 0, pA B0 1] hr fun a hr => ?_
 refine ld (wn rfl) hr (vI p0.ledger_mark) (h.cell 1 rfl) fun a hr => ?_
 refine o1 hr (vI p0.ledger_mark) fun a hr => ?_
 refine ln ?_
 refine sr ?_
 refine oo [10, 11, 12] [pA B0 0, pA B0 0, pA B0 1] hr fun a hr => ?_
 refine ld (wn rfl) hr (vI p0.ledger_mark) (h.cell 1 rfl) fun a hr => ?_
 refine oo [14, 15, 16, 17] [vI p1, vI (wi (p0.ledger_mark + p1)), pA B0 0, pA B0 1] hr fun a hr => ?_
 refine sto (wn rfl) hr h 1 (vI (wi (p0.ledger_mark + p1))) fun w h => ?_
 refine wpList_nil ?_
 replace h : Fit z (sepL (pts B0 (.cells #[vI p0.ledger_size, vI (wi (p0.ledger_mark + p1)), .slice ca1 p0.cell.length cc2, .slice ca3 p0.log.length cc4, vI p0.actor, vB p0.watched] 103) :: ro2 ca1 cc2 p0.cell :: ro96 ca3 cc4 p0.log :: L)) _ := h
 refine then_normal ?_
 refine sr ?_
 refine oo [18, 4] [vI p0.ledger_mark, vI p0.ledger_mark] hr fun a hr => ?_
 refine ln ?_
 refine wp_ret ?_
 refine end_ret1 (v := vI p0.ledger_mark) rfl hr (by kernel_rfl) ?_
 obtain ⟨rfl, rfl⟩ := ej2 H
 exact ⟨ca1, cc2, ca3, cc4, rfl, h⟩

/-- (*plunder/cells.Arena).note -/
def cells_Arena_note (p0 : T_cells_Arena) (p1 : Int) (p2 : Int) (p3 : Int) (p4 : Int) (p5 : Bool) : Option (T_cells_Arena) :=
  (if p0.watched = true then if (p0.log.length + 1) * 48 ≤ 140737488355328 then some ({ p0 with log := p0.log ++ [(⟨p0.actor, p1, p2, p3, p4, p5⟩ : T_api_Access)] }) else none else some p0)

set_option maxRecDepth 100000 in
set_option maxHeartbeats 4000000 in
theorem cells_Arena_note_ok {z w : World} {L : List HProp} {p0 : T_cells_Arena} {p1 : Int} {p2 : Int} {p3 : Int} {p4 : Int} {p5 : Bool} {B0 : Nat} {ca1 : Option Addr} {cc2 : Nat} {ca3 : Option Addr} {cc4 : Nat} {q0 : T_cells_Arena} (H : cells_Arena_note p0 p1 p2 p3 p4 p5 = some q0) (h : Fit z (sepL (ob103 B0 p0 ca1 cc2 ca3 cc4 :: ro2 ca1 cc2 p0.cell :: ro96 ca3 cc4 p0.log :: L)) w)  :
    Calls Try.prog 63 #[pA B0 0, vI p1, vI p2, vI p3, vI p4, vB p5] w fun e w => ∃ caq0_1 : Option Addr, ∃ ccq0_2 : Nat, ∃ caq0_3 : Option Addr, ∃ ccq0_4 : Nat, e = .returned (.tuple #[]) ∧ Fit z (sepL (ob103 B0 q0 caq0_1 ccq0_2 caq0_3 ccq0_4 :: ro2 caq0_1 ccq0_2 q0.cell :: ro96 caq0_3 ccq0_4 q0.log :: L)) w := by
 unfold cells_Arena_note at H
 refine enter Try.func63 rfl 35 rfl rfl [(0, pA B0 0), (1, vI p1), (2, vI p2), (3, vI p3), (4, vI p4), (5, vB p5)] ⟨rfl, rfl, rfl, rfl, rfl, rfl, trivial⟩ ?_
 intro j a hr
 refine sr ?_
 refine oo [12, 13, 14] [pA B0 0, pA B0 0, pA B0 5] hr fun a hr => ?_
 refine ld (wn rfl) hr (vB p0.watched) (h.cell 5 rfl) fun a hr => ?_
 refine ln ?_
 by_cases c5 : p0.watched = true
 ·
  replace H := ifT c5 H
  refine cond_tt hr (c5) ?_
  obtain ⟨c9, H⟩ := gd H
  refine reg_E (fun w => heldC w B0 3 ([.slice ca3 p0.log.length cc4]) ∧ heldC w B0 4 ([vI p0.actor]) ∧ True) [2, 3, 6, 7, 14] h (by kernel_rfl) ?_; intro w h
  change wpAnyE _ _ _ _ _ _ 20 (Array.replicate 20 false) a w
  have hgo : ∀ w w', CellsGo w w' → (heldC w B0 3 ([.slice ca3 p0.log.length cc4]) ∧ heldC w B0 4 ([vI p0.actor]) ∧ True) → heldC w' B0 3 ([.slice ca3 p0.log.length cc4]) ∧ heldC w' B0 4 ([vI p0.actor]) ∧ True := fun w w' g hD => ⟨heldC_go _ _ _ _ _ g hD.1, heldC_go _ _ _ _ _ g hD.2.1, trivial⟩
  refine evs 19 0 rfl (wn rfl) hr (pA B0 0) fun a hr => ?_
  refine evs 18 1 rfl (wn rfl) hr (pA B0 0) fun a hr => ?_
  refine evDs hgo ⟨⟨h.cell 3 rfl, trivial⟩, ⟨h.cell 4 rfl, trivial⟩, trivial⟩ 17 2 rfl (wn rfl) hr (pA B0 0) fun a hr => ?_
  refine evDs hgo ⟨⟨h.cell 3 rfl, trivial⟩, ⟨h.cell 4 rfl, trivial⟩, trivial⟩ 16 3 rfl (wn rfl) hr (pA B0 3) fun a hr => ?_
  refine evs 15 5 rfl (wn rfl) hr (pA B0 0) fun a hr => ?_
  refine evDs hgo ⟨⟨h.cell 3 rfl, trivial⟩, ⟨h.cell 4 rfl, trivial⟩, trivial⟩ 14 6 rfl (wn rfl) hr (pA B0 0) fun a hr => ?_
  refine evDs hgo ⟨⟨h.cell 3 rfl, trivial⟩, ⟨h.cell 4 rfl, trivial⟩, trivial⟩ 13 7 rfl (wn rfl) hr (pA B0 4) fun a hr => ?_
  refine evs 12 9 rfl (wn rfl) hr (vI p1) fun a hr => ?_
  refine evs 11 10 rfl (wn rfl) hr (vI p2) fun a hr => ?_
  refine evs 10 11 rfl (wn rfl) hr (vI p3) fun a hr => ?_
  refine evs 9 12 rfl (wn rfl) hr (vI p4) fun a hr => ?_
  refine evs 8 13 rfl (wn rfl) hr (vB p5) fun a hr => ?_
  refine el [2, 3, 6, 7, 14] (b := B0) (off := 3) (cs := [.slice ca3 p0.log.length cc4]) (fun _ hk => ⟨hk, fun w hD => hD.1⟩) 7 4 rfl (by kernel_rfl) (wn rfl) hr (.slice ca3 p0.log.length cc4) ⟨h.cell 3 rfl, trivial⟩ (fun w hc => rl rfl (by kernel_rfl) (by kernel_rfl) hc.1) fun a hr => ?_
  refine el [2, 3, 6, 7, 14] (b := B0) (off := 4) (cs := [vI p0.actor]) (fun _ hk => ⟨hk, fun w hD => hD.2.1⟩) 6 8 rfl (by kernel_rfl) (wn rfl) hr (vI p0.actor) ⟨h.cell 4 rfl, trivial⟩ (fun w hc => rl rfl (by kernel_rfl) (by kernel_rfl) hc.1) fun a hr => ?_
  refine evDs hgo ⟨⟨h.cell 3 rfl, trivial⟩, ⟨h.cell 4 rfl, trivial⟩, trivial⟩ 5 14 rfl (wn rfl) hr (.agg #[vI p0.actor, vI p1, vI p2, vI p3, vI p4, vB p5]) fun a hr => ?_
  refine e_one (fuel := 4) (i := 15) (by kernel_rfl) rfl ?_
  refine onew (wn rfl) hr h (fun b => .slice (some ⟨b, 0, none⟩) 1 1) (#[vI p0.actor, vI p1, vI p2, vI p3, vI p4, vB p5]) 96 fun b6 w a h hr => ?_
  refine wpList_nil ?_; refine then_normal ?_
  refine ⟨fun hE => absurd hE (by decide), ?_⟩
  refine e_one (fuel := 3) (i := 16) (by kernel_rfl) rfl ?_
  replace h : Fit z (sepL (ro96 ca3 cc4 p0.log :: pts b6 (.cells #[vI p0.actor, vI p1, vI p2, vI p3, vI p4, vB p5] 96) :: ob103 B0 p0 ca1 cc2 ca3 cc4 :: ro2 ca1 cc2 p0.cell :: L)) _ := h.sel 4 [3, 0, 1, 2] (by kernel_rfl) (by kernel_rfl)
  refine op_append (n0 := p0.log.length) (c := 1) (bytes := 48) (wn rfl) rfl rfl hr rfl (by kernel_rfl) (by kernel_rfl) enc_T_api_Access_ok (E := 96) (xs := p0.log) (by kernel_rfl) (by kernel_rfl) h (news := [(⟨p0.actor, p1, p2, p3, p4, p5⟩ : T_api_Access)]) (m := 1) rfl ((h.pick 1).news rfl) c9 rfl fun ca7 cc8 w a h hr => ?_
  refine wpList_nil ?_; refine then_normal ?_
  replace h : Fit z (sepL (ro96 ca7 cc8 (p0.log ++ [(⟨p0.actor, p1, p2, p3, p4, p5⟩ : T_api_Access)]) :: pts b6 (.cells #[vI p0.actor, vI p1, vI p2, vI p3, vI p4, vB p5] 96) :: ob103 B0 p0 ca1 cc2 ca3 cc4 :: ro2 ca1 cc2 p0.cell :: L)) _ := h
  refine ⟨fun hE => absurd hE (by decide), ?_⟩
  refine evs 2 17 rfl (wn rfl) hr (pA B0 0) fun a hr => ?_
  refine evs 1 18 rfl (wn rfl) hr (pA B0 3) fun a hr => ?_
  refine e_one (fuel := 0) (i := 19) (by kernel_rfl) rfl ?_
  replace h : Fit z (sepL (ob103 B0 p0 ca1 cc2 ca3 cc4 :: ro96 ca7 cc8 (p0.log ++ [(⟨p0.actor, p1, p2, p3, p4, p5⟩ : T_api_Access)]) :: pts b6 (.cells #[vI p0.actor, vI p1, vI p2, vI p3, vI p4, vB p5] 96) :: ro2 ca1 cc2 p0.cell :: L)) _ := h.sel 4 [2, 0, 1, 3] (by kernel_rfl) (by kernel_rfl)
  refine sto (wn rfl) hr h 3 (.slice ca7 (p0.log ++ [(⟨p0.actor, p1, p2, p3, p4, p5⟩ : T_api_Access)]).length cc8) fun w h => ?_
  refine wpList_nil ?_; refine then_normal ?_
  replace h : Fit z (sepL (pts B0 (.cells #[vI p0.ledger_size, vI p0.ledger_mark, .slice ca1 p0.cell.length cc2, .slice ca7 (p0.log ++ [(⟨p0.actor, p1, p2, p3, p4, p5⟩ : T_api_Access)]).length cc8, vI p0.actor, vB p0.watched] 103) :: ro96 ca7 cc8 (p0.log ++ [(⟨p0.actor, p1, p2, p3, p4, p5⟩ : T_api_Access)]) :: pts b6 (.cells #[vI p0.actor, vI p1, vI p2, vI p3, vI p4, vB p5] 96) :: ro2 ca1 cc2 p0.cell :: L)) _ := h
  refine ⟨fun hE => absurd hE (by decide), ?_⟩
  refine e_end (by kernel_rfl) ?_
  refine end_norm0 rfl hr ?_
  replace h : Fit z (sepL (pts B0 (.cells #[vI p0.ledger_size, vI p0.ledger_mark, .slice ca1 p0.cell.length cc2, .slice ca7 (p0.log ++ [(⟨p0.actor, p1, p2, p3, p4, p5⟩ : T_api_Access)]).length cc8, vI p0.actor, vB p0.watched] 103) :: ro2 ca1 cc2 p0.cell :: ro96 ca7 cc8 (p0.log ++ [(⟨p0.actor, p1, p2, p3, p4, p5⟩ : T_api_Access)]) :: L)) _ := h.sel 4 [0, 3, 1] (by kernel_rfl) (by kernel_rfl)
  replace H := ej1 H; subst H
  exact ⟨ca1, cc2, ca7, cc8, rfl, h⟩
 ·
  replace H := ifF c5 H
  refine cond_ff hr (bF c5) ?_
  refine wp_skip ?_
  refine end_norm0 rfl hr ?_
  replace H := ej1 H; subst H
  exact ⟨ca1, cc2, ca3, cc4, rfl, h⟩

/-- (*plunder/cells.Arena).Reserve -/
def cells_Arena_Reserve (p0 : T_cells_Arena) (p1 : Int) : Option (Int × Int × T_cells_Arena) :=
  ob0 (some ()) (ob1 (cells_ledger_refuse p0 p1) (fun r7 => (if r7 = 0 then ob2 (cells_ledger_take p0 p1) (fun r10 S11 => if 0 ≤ p1 ∧ (S11.cell.length + p1.toNat) * 8 ≤ 140737488355328 then ob1 (cells_Arena_note ({ S11 with cell := S11.cell ++ List.replicate p1.toNat (0 : Int) }) 4 r10 p1 0 true) (fun S20 => some (r10, 0, S20)) else none) else some (0, r7, p0))))

set_option maxRecDepth 100000 in
set_option maxHeartbeats 4000000 in
theorem cells_Arena_Reserve_ok {z w : World} {L : List HProp} {p0 : T_cells_Arena} {p1 : Int} {B0 : Nat} {ca1 : Option Addr} {cc2 : Nat} {ca3 : Option Addr} {cc4 : Nat} {r0 : Int} {r1 : Int} {q0 : T_cells_Arena} (H : cells_Arena_Reserve p0 p1 = some (r0, r1, q0)) (h : Fit z (sepL (ob103 B0 p0 ca1 cc2 ca3 cc4 :: ro2 ca1 cc2 p0.cell :: ro96 ca3 cc4 p0.log :: L)) w)  :
    Calls Try.prog 35 #[pA B0 0, vI p1] w fun e w => ∃ caq0_1 : Option Addr, ∃ ccq0_2 : Nat, ∃ caq0_3 : Option Addr, ∃ ccq0_4 : Nat, e = .returned (.tuple #[vI r0, vI r1]) ∧ Fit z (sepL (ob103 B0 q0 caq0_1 ccq0_2 caq0_3 ccq0_4 :: ro2 caq0_1 ccq0_2 q0.cell :: ro96 caq0_3 ccq0_4 q0.log :: L)) w := by
 unfold cells_Arena_Reserve at H
 refine enter Try.func35 rfl 37 rfl rfl [(0, pA B0 0), (1, vI p1)] ⟨rfl, rfl, trivial⟩ ?_
 intro j a hr
 refine sr ?_
 refine oo [4, 5] [vI 0, vI 0] hr fun a hr => ?_
 refine ln ?_
 refine sr ?_
 refine o1 hr (pN) fun a hr => ?_
 refine ln ?_
 obtain ⟨o6, H, hK5⟩ := kd0 H
 refine cut_rule (β := Unit) (fun _ a w => () = o6 ∧ ∃ j, Rep 37 (lk [(0, pA B0 0), (1, vI p1), (6, pA B0 0)] j) a ∧ Fit z (sepL (ob103 B0 p0 ca1 cc2 ca3 cc4 :: ro2 ca1 cc2 p0.cell :: ro96 ca3 cc4 p0.log :: L)) w) ?_ ?_
 ·
  refine sr ?_
  refine oo [9, 10] [pA B0 0, vB true] hr fun a hr => ?_
  refine ln ?_
  refine cond_tt hr (b := true) rfl ?_
  refine wp_region_lit ?_
  refine oo [11, 12, 13, 6] [pA B0 0, pA B0 0, pA B0 0, pA B0 0] hr fun a hr => ?_
  refine ln ?_
  replace hr := hr.fold2 [(0, pA B0 0), (1, vI p1), (6, pA B0 0)] (by kernel_rfl); obtain ⟨j, hr⟩ := hr
  exact ⟨(), sinj H, j, hr, h⟩
 clear h hr a; rintro _ a w ⟨rfl, j, hr, h⟩
 replace H := kk0 hK5
 refine wp_seq ?_
 refine sr ?_
 obtain ⟨r7, e8, H⟩ := bd1 H
 refine oo [14, 15] [pA B0 0, vI p1] hr fun a hr => ?_
 have hc := cells_ledger_refuse_ok (H := e8) (h := h)
 refine cl (wn rfl) hr hc ?_; clear hc h
 rintro _ w ⟨rfl, h⟩; refine ⟨_, rfl, fun a hr => ?_⟩
 refine o1 hr (vI r7) fun a hr => ?_
 refine ln ?_
 refine sr ?_
 refine oo [17, 18] [vI r7, vB (r7 != 0)] hr fun a hr => ?_
 refine ln ?_
 by_cases c9 : r7 = 0
 ·
  replace H := ifT c9 H
  refine cond_ff hr (bne_eq_false_iff_eq.mpr c9) ?_
  refine wp_skip ?_
  refine then_normal ?_
  refine sr ?_
  obtain ⟨r10, S11, e12, H⟩ := bd2 H
  refine oo [20, 21] [pA B0 0, vI p1] hr fun a hr => ?_
  have hc := cells_ledger_take_ok (H := e12) (h := h)
  refine cl (wn rfl) hr hc ?_; clear hc h
  rintro _ w ⟨caq13, ccq14, caq15, ccq16, rfl, h⟩; refine ⟨_, rfl, fun a hr => ?_⟩
  refine o1 hr (vI r10) fun a hr => ?_
  refine ln ?_
  refine sr ?_
  refine oo [23, 24, 25, 26] [pA B0 0, pA B0 0, pA B0 0, pA B0 2] hr fun a hr => ?_
  refine ld (wn rfl) hr (.slice caq13 S11.cell.length ccq14) (h.cell 2 rfl) fun a hr => ?_
  refine o1 hr (vI p1) fun a hr => ?_
  replace h : Fit z (sepL (ro2 caq13 ccq14 S11.cell :: ob103 B0 S11 caq13 ccq14 caq15 ccq16 :: ro96 caq15 ccq16 S11.log :: L)) _ := h.sel 3 [1, 0, 2] (by kernel_rfl) (by kernel_rfl)
  obtain ⟨c19, H⟩ := gd H
  refine op_extend (kx := .i64) (n0 := S11.cell.length) (i := p1) (m := p1.toNat) (bytes := 8) (zc := #[vI 0]) (0 : Int) (wn rfl) rfl rfl hr rfl (by kernel_rfl) (by kernel_rfl) (Int.toNat_of_nonneg c19.1).symm encZ_i64_ok (E := 2) (xs := S11.cell) (by kernel_rfl) (by kernel_rfl) (by kernel_rfl) rfl h c19.2 rfl fun ca17 cc18 w a h hr => ?_
  refine oo [30, 31] [pA B0 0, pA B0 2] hr fun a hr => ?_
  replace h : Fit z (sepL (ob103 B0 S11 caq13 ccq14 caq15 ccq16 :: ro2 ca17 cc18 (S11.cell ++ List.replicate p1.toNat (0 : Int)) :: ro96 caq15 ccq16 S11.log :: L)) _ := h.sel 3 [1, 0, 2] (by kernel_rfl) (by kernel_rfl)
  refine sto (wn rfl) hr h 2 (.slice ca17 (S11.cell ++ List.replicate p1.toNat (0 : Int)).length cc18) fun w h => ?_
  refine wpList_nil ?_
  replace h : Fit z (sepL (pts B0 (.cells #[vI S11.ledger_size, vI S11.ledger_mark, .slice ca17 (S11.cell ++ List.replicate p1.toNat (0 : Int)).length cc18, .slice caq15 S11.log.length ccq16, vI S11.actor, vB S11.watched] 103) :: ro2 ca17 cc18 (S11.cell ++ List.replicate p1.toNat (0 : Int)) :: ro96 caq15 ccq16 S11.log :: L)) _ := h
  refine then_normal ?_
  refine sr ?_
  obtain ⟨S20, e21, H⟩ := bd1 H
  refine oo [32, 33, 34] [pA B0 0, vI r10, vI p1] hr fun a hr => ?_
  have hc := cells_Arena_note_ok (H := e21) (h := h)
  refine cl (wn rfl) hr hc ?_; clear hc h
  rintro _ w ⟨caq22, ccq23, caq24, ccq25, rfl, h⟩; refine ⟨_, rfl, fun a hr => ?_⟩
  refine ln ?_
  refine sr ?_
  refine oo [36, 4, 5] [vI r10, vI r10, vI 0] hr fun a hr => ?_
  refine ln ?_
  refine wp_ret ?_
  refine end_ret2 (v := vI r10) (v' := vI 0) rfl hr (by kernel_rfl) (by kernel_rfl) ?_
  obtain ⟨rfl, rfl, rfl⟩ := ej3 H
  exact ⟨caq22, ccq23, caq24, ccq25, rfl, h⟩
 ·
  replace H := ifF c9 H
  refine cond_tt hr (bne_iff_ne.mpr c9) ?_
  refine sr ?_
  refine oo [19, 4, 5] [vI r7, vI 0, vI r7] hr fun a hr => ?_
  refine ln ?_
  refine wp_ret ?_
  refine then_ret ?_
  refine end_ret2 (v := vI 0) (v' := vI r7) rfl hr (by kernel_rfl) (by kernel_rfl) ?_
  obtain ⟨rfl, rfl, rfl⟩ := ej3 H
  exact ⟨ca1, cc2, ca3, cc4, rfl, h⟩

/-- (plunder/frames.Table).join -/
def frames_Table__join (p0 : T_frames_Table) (p1 : Int) : Option (Int) :=
  some (wi ((wi (p0.Base + 1)) + (wi (p1 * 10))))

set_option maxRecDepth 100000 in
set_option maxHeartbeats 4000000 in
theorem frames_Table__join_ok {z w : World} {L : List HProp} {p0 : T_frames_Table} {p1 : Int} {r0 : Int} (H : frames_Table__join p0 p1 = some r0) (h : Fit z (sepL (L)) w)  :
    Calls Try.prog 54 #[ag_T_frames_Table p0, vI p1] w fun e w => e = .returned (vI r0) ∧ Fit z (sepL (L)) w := by
 unfold frames_Table__join at H
 refine enter Try.func54 rfl 11 rfl rfl [(0, ag_T_frames_Table p0), (1, vI p1)] ⟨rfl, rfl, trivial⟩ ?_
 intro j a hr
 refine sr ?_
 refine onew (wn rfl) hr h nb (ca_T_frames_Table p0) 39 fun b1 w a h hr => ?_
 refine o1 hr (vI 0) fun a hr => ?_
 refine ln ?_
 refine sr ?_
 refine o1 hr (pA b1 0) fun a hr => ?_
 refine ld (wn rfl) hr (vI p0.Base) (h.cell 0 rfl) fun a hr => ?_
 refine oo [7, 8, 9, 10, 4] [vI (wi (p0.Base + 1)), vI p1, vI (wi (p1 * 10)), vI (wi ((wi (p0.Base + 1)) + (wi (p1 * 10)))), vI (wi ((wi (p0.Base + 1)) + (wi (p1 * 10))))] hr fun a hr => ?_
 refine ln ?_
 refine wp_ret ?_
 refine end_ret1 (v := vI (wi ((wi (p0.Base + 1)) + (wi (p1 * 10))))) rfl hr (by kernel_rfl) ?_
 replace h : Fit z (sepL (L)) _ := h.sel 1 [] (by kernel_rfl) (by kernel_rfl)
 replace H := ej1 H; subst H
 exact ⟨rfl, h⟩

/-- (*plunder/cells.ledger).has -/
def cells_ledger_has (p0 : T_cells_Arena) (p1 : Int) : Option (Bool) :=
  (if p1 ≥ 0 then some (decide (p1 < p0.ledger_mark)) else some false)

set_option maxRecDepth 100000 in
set_option maxHeartbeats 4000000 in
theorem cells_ledger_has_ok {z w : World} {L : List HProp} {p0 : T_cells_Arena} {p1 : Int} {B0 : Nat} {ca1 : Option Addr} {cc2 : Nat} {ca3 : Option Addr} {cc4 : Nat} {r0 : Bool} (H : cells_ledger_has p0 p1 = some r0) (h : Fit z (sepL (ob103 B0 p0 ca1 cc2 ca3 cc4 :: ro2 ca1 cc2 p0.cell :: ro96 ca3 cc4 p0.log :: L)) w)  :
    Calls Try.prog 127 #[pA B0 0, vI p1] w fun e w => e = .returned (vB r0) ∧ Fit z (sepL (ob103 B0 p0 ca1 cc2 ca3 cc4 :: ro2 ca1 cc2 p0.cell :: ro96 ca3 cc4 p0.log :: L)) w := by
 unfold cells_ledger_has at H
 refine enter Try.func127 rfl 15 rfl rfl [(0, pA B0 0), (1, vI p1)] ⟨rfl, rfl, trivial⟩ ?_
 intro j a hr
 refine sr ?_
 refine o1 hr (vB false) fun a hr => ?_
 refine ln ?_
 refine sr ?_
 refine oo [5, 6, 7] [vI p1, vB (decide (p1 ≥ 0)), vB (decide (p1 ≥ 0))] hr fun a hr => ?_
 by_cases c5 : p1 ≥ 0
 ·
  replace H := ifT c5 H
  refine opv (wgt hr (decide_eq_true c5)) hr (vI p1) (by kernel_rfl) fun a hr => ?_
  refine opv (wgt hr (decide_eq_true c5)) hr (pA B0 0) (by kernel_rfl) fun a hr => ?_
  refine opv (wgt hr (decide_eq_true c5)) hr (pA B0 0) (by kernel_rfl) fun a hr => ?_
  refine opv (wgt hr (decide_eq_true c5)) hr (pA B0 1) (by kernel_rfl) fun a hr => ?_
  refine ld (wgt hr (decide_eq_true c5)) hr (vI p0.ledger_mark) (h.cell 1 rfl) fun a hr => ?_
  refine opv (wgt hr (decide_eq_true c5)) hr (vB (decide (p1 < p0.ledger_mark))) (by kernel_rfl) fun a hr => ?_
  refine opv (wn rfl) hr (vB (decide (p1 < p0.ledger_mark))) (rp_t (b := (decide (p1 ≥ 0))) rfl (by kernel_rfl) (decide_eq_true c5) (by kernel_rfl)) fun a hr => ?_
  refine o1 hr (vB (decide (p1 < p0.ledger_mark))) fun a hr => ?_
  refine ln ?_
  refine wp_ret ?_
  refine end_ret1 (v := vB (decide (p1 < p0.ledger_mark))) rfl hr (by kernel_rfl) ?_
  replace H := ej1 H; subst H
  exact ⟨rfl, h⟩
 ·
  replace H := ifF c5 H
  refine offg (wgt hr (decide_eq_false c5)) hr fun a hr => ?_
  refine offg (wgt hr (decide_eq_false c5)) hr fun a hr => ?_
  refine offg (wgt hr (decide_eq_false c5)) hr fun a hr => ?_
  refine offg (wgt hr (decide_eq_false c5)) hr fun a hr => ?_
  refine offg (wgt hr (decide_eq_false c5)) hr fun a hr => ?_
  refine offg (wgt hr (decide_eq_false c5)) hr fun a hr => ?_
  refine opv (wn rfl) hr (vB false) (rp_f (b := (decide (p1 ≥ 0))) rfl (by kernel_rfl) (decide_eq_false c5) (by kernel_rfl)) fun a hr => ?_
  refine o1 hr (vB false) fun a hr => ?_
  refine ln ?_
  refine wp_ret ?_
  refine end_ret1 (v := vB false) rfl hr (by kernel_rfl) ?_
  replace H := ej1 H; subst H
  exact ⟨rfl, h⟩

/-- (*plunder/cells.Arena).outside -/
def cells_Arena_outside (p0 : T_cells_Arena) (p1 : Int) : Option (Bool) :=
  ob1 (cells_ledger_has p0 p1) (fun r5 => some (!r5))

set_option maxRecDepth 100000 in
set_option maxHeartbeats 4000000 in
theorem cells_Arena_outside_ok {z w : World} {L : List HProp} {p0 : T_cells_Arena} {p1 : Int} {B0 : Nat} {ca1 : Option Addr} {cc2 : Nat} {ca3 : Option Addr} {cc4 : Nat} {r0 : Bool} (H : cells_Arena_outside p0 p1 = some r0) (h : Fit z (sepL (ob103 B0 p0 ca1 cc2 ca3 cc4 :: ro2 ca1 cc2 p0.cell :: ro96 ca3 cc4 p0.log :: L)) w)  :
    Calls Try.prog 126 #[pA B0 0, vI p1] w fun e w => e = .returned (vB r0) ∧ Fit z (sepL (ob103 B0 p0 ca1 cc2 ca3 cc4 :: ro2 ca1 cc2 p0.cell :: ro96 ca3 cc4 p0.log :: L)) w := by
 unfold cells_Arena_outside at H
 refine enter Try.func126 rfl 15 rfl rfl [(0, pA B0 0), (1, vI p1)] ⟨rfl, rfl, trivial⟩ ?_
 intro j a hr
 refine sr ?_
 refine o1 hr (vB false) fun a hr => ?_
 refine ln ?_
 refine sr ?_
 refine oo [5, 6, 7] [pA B0 0, vB false, vB false] hr fun a hr => ?_
 refine opv (wgt hr (c := false) rfl) hr (pA B0 0) (by kernel_rfl) fun a hr => ?_
 refine opv (wgt hr (c := false) rfl) hr (pA B0 0) (by kernel_rfl) fun a hr => ?_
 refine opv (wgt hr (c := false) rfl) hr (pA B0 0) (by kernel_rfl) fun a hr => ?_
 refine opv (wgt hr (c := false) rfl) hr (vI p1) (by kernel_rfl) fun a hr => ?_
 obtain ⟨r5, e6, H⟩ := bd1 H
 have hc := cells_ledger_has_ok (H := e6) (h := h)
 refine cl (wgt hr (c := false) rfl) hr hc ?_; clear hc h
 rintro _ w ⟨rfl, h⟩; refine ⟨_, rfl, fun a hr => ?_⟩
 refine opv (wgt hr (c := false) rfl) hr (vB (!r5)) (by kernel_rfl) fun a hr => ?_
 refine oo [14, 4] [vB (!r5), vB (!r5)] hr fun a hr => ?_
 refine ln ?_
 refine wp_ret ?_
 refine end_ret1 (v := vB (!r5)) rfl hr (by kernel_rfl) ?_
 replace H := ej1 H; subst H
 exact ⟨rfl, h⟩

/-- (*plunder/cells.Arena).Store -/
def cells_Arena_Store (p0 : T_cells_Arena) (p1 : Int) (p2 : Int) : Option (Int × T_cells_Arena) :=
  ob1 (cells_Arena_outside p0 p1) (fun r5 => (if r5 = true then some (20, p0) else if inr_ p1 p0.cell.length then ob1 (cells_Arena_note ({ p0 with cell := p0.cell.set p1.toNat p2 }) 1 p1 p2 0 true) (fun S10 => some (0, S10)) else none))

set_option maxRecDepth 100000 in
set_option maxHeartbeats 4000000 in
theorem cells_Arena_Store_ok {z w : World} {L : List HProp} {p0 : T_cells_Arena} {p1 : Int} {p2 : Int} {B0 : Nat} {ca1 : Option Addr} {cc2 : Nat} {ca3 : Option Addr} {cc4 : Nat} {r0 : Int} {q0 : T_cells_Arena} (H : cells_Arena_Store p0 p1 p2 = some (r0, q0)) (h : Fit z (sepL (ob103 B0 p0 ca1 cc2 ca3 cc4 :: ro2 ca1 cc2 p0.cell :: ro96 ca3 cc4 p0.log :: L)) w)  :
    Calls Try.prog 125 #[pA B0 0, vI p1, vI p2] w fun e w => ∃ caq0_1 : Option Addr, ∃ ccq0_2 : Nat, ∃ caq0_3 : Option Addr, ∃ ccq0_4 : Nat, e = .returned (vI r0) ∧ Fit z (sepL (ob103 B0 q0 caq0_1 ccq0_2 caq0_3 ccq0_4 :: ro2 caq0_1 ccq0_2 q0.cell :: ro96 caq0_3 ccq0_4 q0.log :: L)) w := by
 unfold cells_Arena_Store at H
 refine enter Try.func125 rfl 21 rfl rfl [(0, pA B0 0), (1, vI p1), (2, vI p2)] ⟨rfl, rfl, rfl, trivial⟩ ?_
 intro j a hr
 refine sr ?_
 refine o1 hr (vI 0) fun a hr => ?_
 refine ln ?_
 refine wp_seq ?_
 refine sr ?_
 obtain ⟨r5, e6, H⟩ := bd1 H
 refine oo [7, 8] [pA B0 0, vI p1] hr fun a hr => ?_
 have hc := cells_Arena_outside_ok (H := e6) (h := h)
 refine cl (wn rfl) hr hc ?_; clear hc h
 rintro _ w ⟨rfl, h⟩; refine ⟨_, rfl, fun a hr => ?_⟩
 refine ln ?_
 by_cases c7 : r5 = true
 ·
  replace H := ifT c7 H
  refine cond_tt hr (c7) ?_
  refine sr ?_
  refine o1 hr (vI 20) fun a hr => ?_
  refine ln ?_
  refine wp_ret ?_
  refine then_ret ?_
  refine end_ret1 (v := vI 20) rfl hr (by kernel_rfl) ?_
  obtain ⟨rfl, rfl⟩ := ej2 H
  exact ⟨ca1, cc2, ca3, cc4, rfl, h⟩
 ·
  replace H := ifF c7 H
  refine cond_ff hr (bF c7) ?_
  refine wp_skip ?_
  refine then_normal ?_
  refine sr ?_
  refine oo [10, 11, 12] [pA B0 0, pA B0 0, pA B0 2] hr fun a hr => ?_
  refine ld (wn rfl) hr (.slice ca1 p0.cell.length cc2) (h.cell 2 rfl) fun a hr => ?_
  obtain ⟨c8, H⟩ := gd H
  refine oo [14, 15] [vI p1, vI p2] hr fun a hr => ?_
  refine opv (wn rfl) hr (pA (blk ca1) (p1.toNat * 1)) (ri_row (k := .i64) (E := 2) rfl (by kernel_rfl) (by kernel_rfl) (by kernel_rfl) (by kernel_rfl) (h.pick 1) c8) fun a hr => ?_
  replace h : Fit z (sepL (ro2 ca1 cc2 p0.cell :: ob103 B0 p0 ca1 cc2 ca3 cc4 :: ro96 ca3 cc4 p0.log :: L)) _ := h.sel 3 [1, 0, 2] (by kernel_rfl) (by kernel_rfl)
  refine stor (wn rfl) hr encZ_i64_ok h p1.toNat 0 (vI p2) (at_ p0.cell p1.toNat) p2 (at_ok c8) fun w h => ?_
  replace h : Fit z (sepL (rowOf 2 1 encZ_i64 (.slice ca1 p0.cell.length cc2) (p0.cell.set p1.toNat p2) :: ob103 B0 p0 ca1 cc2 ca3 cc4 :: ro96 ca3 cc4 p0.log :: L)) _ := h
  refine ln ?_
  refine sr ?_
  refine oo [17, 18, 19] [pA B0 0, vI p1, vI p2] hr fun a hr => ?_
  have hn8 := h.row_n
  replace h : Fit z (sepL (ro2 ca1 cc2 (p0.cell.set p1.toNat p2) :: pts B0 (.cells #[vI p0.ledger_size, vI p0.ledger_mark, .slice ca1 (p0.cell.set p1.toNat p2).length cc2, .slice ca3 p0.log.length cc4, vI p0.actor, vB p0.watched] 103) :: ro96 ca3 cc4 p0.log :: L)) w := (congrArg (fun q_ : Nat => Fit z (sepL (rowOf 2 1 encZ_i64 (.slice ca1 q_ cc2) (p0.cell.set p1.toNat p2) :: pts B0 (.cells #[vI p0.ledger_size, vI p0.ledger_mark, .slice ca1 q_ cc2, .slice ca3 p0.log.length cc4, vI p0.actor, vB p0.watched] 103) :: ro96 ca3 cc4 p0.log :: L)) w) h.row_n).mp h
  obtain ⟨S10, e11, H⟩ := bd1 H
  replace h : Fit z (sepL (pts B0 (.cells #[vI p0.ledger_size, vI p0.ledger_mark, .slice ca1 (p0.cell.set p1.toNat p2).length cc2, .slice ca3 p0.log.length cc4, vI p0.actor, vB p0.watched] 103) :: ro2 ca1 cc2 (p0.cell.set p1.toNat p2) :: ro96 ca3 cc4 p0.log :: L)) _ := h.sel 3 [1, 0, 2] (by kernel_rfl) (by kernel_rfl)
  have hc := cells_Arena_note_ok (H := e11) (h := h)
  refine cl (wn rfl) hr hc ?_; clear hc h
  rintro _ w ⟨caq12, ccq13, caq14, ccq15, rfl, h⟩; refine ⟨_, rfl, fun a hr => ?_⟩
  refine ln ?_
  refine sr ?_
  refine o1 hr (vI 0) fun a hr => ?_
  refine ln ?_
  refine wp_ret ?_
  refine end_ret1 (v := vI 0) rfl hr (by kernel_rfl) ?_
  obtain ⟨rfl, rfl⟩ := ej2 H
  exact ⟨caq12, ccq13, caq14, ccq15, rfl, h⟩

def frames_New_iface_l1 (K : Nat) (p1 : Int) (r11 : Int) : Nat → T_cells_Arena → Int → Option (T_frames_Table × Int × T_cells_Arena)
  | 0, _, _ => none
  | k1 + 1, S21, g26 => (if g26 < p1 then ob1 (frames_Table__join (⟨r11, p1⟩ : T_frames_Table) g26) (fun r28 => ob2 (cells_Arena_Store S21 r28 1) (fun r30 S31 => (if r30 = 0 then (frames_New_iface_l1 K p1 r11 k1 S31 (wi (g26 + 1))) else some ((⟨0, 0⟩ : T_frames_Table), r30, S31)))) else some ((⟨r11, p1⟩ : T_frames_Table), 0, S21))
/-- plunder/frames.New -/
def frames_New_iface (K : Nat) (p0 : T_cells_Arena) (p1 : Int) : Option (T_frames_Table × Int × T_cells_Arena) :=
  ob1 (frames_Cells p1) (fun r6 => (if r6 = 0 then some ((⟨0, 0⟩ : T_frames_Table), 3, p0) else ob1 (frames_Cells p1) (fun r9 => ob3 (cells_Arena_Reserve p0 r9) (fun r11 r12 S13 => (if r12 = 0 then (frames_New_iface_l1 K p1 r11 K S13 0) else some ((⟨0, 0⟩ : T_frames_Table), r12, S13))))))

set_option maxRecDepth 100000 in
set_option maxHeartbeats 4000000 in
theorem frames_New_iface_ok {z w : World} {L : List HProp} {K : Nat} {p0 : T_cells_Arena} {p1 : Int} {B0 : Nat} {ca1 : Option Addr} {cc2 : Nat} {ca3 : Option Addr} {cc4 : Nat} {r0 : T_frames_Table} {r1 : Int} {q0 : T_cells_Arena} (H : frames_New_iface K p0 p1 = some (r0, r1, q0)) (h : Fit z (sepL (ob103 B0 p0 ca1 cc2 ca3 cc4 :: ro2 ca1 cc2 p0.cell :: ro96 ca3 cc4 p0.log :: L)) w)  :
    Calls Try.prog 19 #[.iface 26 (pA B0 0), vI p1] w fun e w => ∃ caq0_1 : Option Addr, ∃ ccq0_2 : Nat, ∃ caq0_3 : Option Addr, ∃ ccq0_4 : Nat, e = .returned (.tuple #[ag_T_frames_Table r0, vI r1]) ∧ Fit z (sepL (ob103 B0 q0 caq0_1 ccq0_2 caq0_3 ccq0_4 :: ro2 caq0_1 ccq0_2 q0.cell :: ro96 caq0_3 ccq0_4 q0.log :: L)) w := by
 unfold frames_New_iface at H
 refine enter Try.func19 rfl 53 rfl rfl [(0, .iface 26 (pA B0 0)), (1, vI p1)] ⟨rfl, rfl, trivial⟩ ?_
 intro j a hr
 refine sr ?_
 refine onew (wn rfl) hr h nb (#[vI 0, vI 0]) 39 fun b5 w a h hr => ?_
 refine o1 hr (vI 0) fun a hr => ?_
 refine ln ?_
 refine wp_seq ?_
 refine sr ?_
 refine oo [11, 12] [.iface 26 (pA B0 0), vB false] hr fun a hr => ?_
 refine ln ?_
 refine cond_ff hr (b := false) rfl ?_
 refine wp_skip ?_
 refine then_normal ?_
 refine wp_seq ?_
 refine sr ?_
 obtain ⟨r6, e7, H⟩ := bd1 H
 refine o1 hr (vI p1) fun a hr => ?_
 have hc := frames_Cells_ok (H := e7) (h := h)
 refine cl (wn rfl) hr hc ?_; clear hc h
 rintro _ w ⟨rfl, h⟩; refine ⟨_, rfl, fun a hr => ?_⟩
 refine o1 hr (vB (r6 == 0)) fun a hr => ?_
 refine ln ?_
 by_cases c8 : r6 = 0
 ·
  replace H := ifT c8 H
  refine cond_tt hr (beq_iff_eq.mpr c8) ?_
  refine sr ?_
  refine o1 hr (.agg #[vI 0, vI 0]) fun a hr => ?_
  refine stos (wn rfl) hr h 0 ([vI 0, vI 0]) (#[vI 0, vI 0]) fun w h => ?_
  refine o1 hr (vI 3) fun a hr => ?_
  refine wpList_nil ?_
  replace h : Fit z (sepL (pts b5 (.cells #[vI 0, vI 0] 39) :: ob103 B0 p0 ca1 cc2 ca3 cc4 :: ro2 ca1 cc2 p0.cell :: ro96 ca3 cc4 p0.log :: L)) _ := h
  refine then_normal ?_
  refine wp_ret ?_
  refine then_ret ?_
  refine end_retCT (cs := [vI 0, vI 0]) (v := vI 3) rfl hr (by kernel_rfl) (by kernel_rfl) (by kernel_rfl) (by kernel_rfl) (h.held 0 rfl) ?_
  replace h : Fit z (sepL (ob103 B0 p0 ca1 cc2 ca3 cc4 :: ro2 ca1 cc2 p0.cell :: ro96 ca3 cc4 p0.log :: L)) _ := h.sel 4 [1, 2, 3] (by kernel_rfl) (by kernel_rfl)
  obtain ⟨rfl, rfl, rfl⟩ := ej3 H
  exact ⟨ca1, cc2, ca3, cc4, rfl, h⟩
 ·
  replace H := ifF c8 H
  refine cond_ff hr (beq_eq_false_iff_ne.mpr c8) ?_
  refine wp_skip ?_
  refine then_normal ?_
  refine wp_seq ?_
  obtain ⟨r9, e10, H⟩ := bd1 H
  obtain ⟨r11, r12, S13, e14, H⟩ := bd3 H
  refine reg_E (fun w => True) [] h (by kernel_rfl) ?_; intro w h
  change wpAnyE _ _ _ _ _ _ 12 (Array.replicate 12 false) a w
  refine evs 11 0 rfl (wn rfl) hr (.iface 26 (pA B0 0)) fun a hr => ?_
  refine evs 10 1 rfl (wn rfl) hr (vI p1) fun a hr => ?_
  refine evs 9 3 rfl (wn rfl) hr (.func (.method "Reserve") #[.iface 26 (pA B0 0)] #[]) fun a hr => ?_
  refine evs 8 4 rfl (wn rfl) hr (.func (.method "Reserve") #[.iface 26 (pA B0 0)] #[]) fun a hr => ?_
  refine evs 7 5 rfl (wn rfl) hr (.iface 26 (pA B0 0)) fun a hr => ?_
  refine e_one (fuel := 6) (i := 2) (by kernel_rfl) rfl ?_
  have hc := frames_Cells_ok (H := e10) (h := h)
  refine cl (wn rfl) hr hc ?_; clear hc h
  rintro _ w ⟨rfl, h⟩; refine ⟨_, rfl, fun a hr => ?_⟩
  refine wpList_nil ?_; refine then_normal ?_
  refine ⟨fun hE => absurd hE (by decide), ?_⟩
  refine e_one (fuel := 5) (i := 6) (by kernel_rfl) rfl ?_
  replace h : Fit z (sepL (ob103 B0 p0 ca1 cc2 ca3 cc4 :: ro2 ca1 cc2 p0.cell :: ro96 ca3 cc4 p0.log :: pts b5 (.cells #[vI 0, vI 0] 39) :: L)) _ := h.sel 4 [1, 2, 3, 0] (by kernel_rfl) (by kernel_rfl)
  have hc := cells_Arena_Reserve_ok (H := e14) (h := h)
  refine cl (wn rfl) hr hc ?_; clear hc h
  rintro _ w ⟨caq15, ccq16, caq17, ccq18, rfl, h⟩; refine ⟨_, rfl, fun a hr => ?_⟩
  refine wpList_nil ?_; refine then_normal ?_
  refine ⟨fun hE => absurd hE (by decide), ?_⟩
  refine evs 4 7 rfl (wn rfl) hr (.tuple #[vI r11, vI r12]) fun a hr => ?_
  refine evs 3 8 rfl (wn rfl) hr (vI r11) fun a hr => ?_
  refine evs 2 9 rfl (wn rfl) hr (vI r12) fun a hr => ?_
  refine evs 1 10 rfl (wn rfl) hr (vI r11) fun a hr => ?_
  refine evs 0 11 rfl (wn rfl) hr (vI r12) fun a hr => ?_
  refine e_end (by kernel_rfl) ?_
  refine then_normal ?_
  refine wp_seq ?_
  refine sr ?_
  refine oo [28, 29] [vI r12, vB (r12 != 0)] hr fun a hr => ?_
  refine ln ?_
  by_cases c19 : r12 = 0
  ·
   replace H := ifT c19 H
   refine cond_ff hr (bne_eq_false_iff_eq.mpr c19) ?_
   refine wp_skip ?_
   refine then_normal ?_
   refine sr ?_
   refine oo [32, 33, 34] [vI r11, vI p1, .agg #[vI r11, vI p1]] hr fun a hr => ?_
   refine onew (wn rfl) hr h nb (#[vI 0, vI 0]) 39 fun b20 w a h hr => ?_
   refine stos (wn rfl) hr h 0 ([vI r11, vI p1]) (#[vI r11, vI p1]) fun w h => ?_
   refine wpList_nil ?_
   replace h : Fit z (sepL (pts b20 (.cells #[vI r11, vI p1] 39) :: ob103 B0 S13 caq15 ccq16 caq17 ccq18 :: ro2 caq15 ccq16 S13.cell :: ro96 caq17 ccq18 S13.log :: pts b5 (.cells #[vI 0, vI 0] 39) :: L)) _ := h
   refine then_normal ?_
   refine wp_seq ?_
   refine sr ?_
   refine oo [35, 36] [vI p1, vI 0] hr fun a hr => ?_
   refine ln ?_
   refine wp_block ?_
   replace hr := hr.fold2 [(0, .iface 26 (pA B0 0)), (4, pA b5 0), (8, pA b20 0), (35, vI p1), (36, vI 0)] (by kernel_rfl); obtain ⟨j, hr⟩ := hr
   replace h : Fit z (sepL (ob103 B0 S13 caq15 ccq16 caq17 ccq18 :: ro2 caq15 ccq16 S13.cell :: ro96 caq17 ccq18 S13.log :: pts b5 (.cells #[vI 0, vI 0] 39) :: pts b20 (.cells #[vI r11, vI p1] 39) :: L)) _ := h.sel 5 [1, 2, 3, 4, 0] (by kernel_rfl) (by kernel_rfl)
   refine loop_rule (β := Nat) id (fun m a w => ∃ ca22 : Option Addr, ∃ cc23 : Nat, ∃ ca24 : Option Addr, ∃ cc25 : Nat, ∃ S21 : T_cells_Arena, ∃ g26 : Int, (frames_New_iface_l1 K p1 r11 m S21 g26) = some (r0, r1, q0) ∧ ∃ j, Rep 53 (lk [(0, .iface 26 (pA B0 0)), (4, pA b5 0), (8, pA b20 0), (35, vI p1), (36, vI g26)] j) a ∧ Fit z (sepL (ob103 B0 S21 ca22 cc23 ca24 cc25 :: ro2 ca22 cc23 S21.cell :: ro96 ca24 cc25 S21.log :: pts b5 (.cells #[vI 0, vI 0] 39) :: pts b20 (.cells #[vI r11, vI p1] 39) :: L)) w) K ⟨caq15, ccq16, caq17, ccq18, S13, 0, H, j, hr, h⟩ ?_
   clear h hr a H; rintro k1 a w ⟨ca22, cc23, ca24, cc25, S21, g26, H, j, hr, h⟩
   cases k1 with
   | zero => exact absurd H (by simp [frames_New_iface_l1])
   | succ k1 =>
    rw [frames_New_iface_l1] at H
    refine sr ?_
    refine o1 hr (vB (decide (g26 < p1))) fun a hr => ?_
    refine ln ?_
    refine wp_seq ?_
    by_cases c27 : g26 < p1
    ·
     replace H := ifT c27 H
     refine cond_tt hr (decide_eq_true c27) ?_
     refine wp_skip ?_
     refine then_normal ?_
     refine wp_seq ?_
     refine wp_block ?_
     refine sr ?_
     refine oo [38, 9] [vI g26, vI g26] hr fun a hr => ?_
     refine ln ?_
     refine wp_seq ?_
     obtain ⟨r28, e29, H⟩ := bd1 H
     obtain ⟨r30, S31, e32, H⟩ := bd2 H
     refine reg_E (fun w => heldC w b20 0 ([vI r11, vI p1]) ∧ True) [3, 4, 5] h (by kernel_rfl) ?_; intro w h
     change wpAnyE _ _ _ _ _ _ 9 (Array.replicate 9 false) a w
     have hgo : ∀ w w', CellsGo w w' → (heldC w b20 0 ([vI r11, vI p1]) ∧ True) → heldC w' b20 0 ([vI r11, vI p1]) ∧ True := fun w w' g hD => ⟨heldC_go _ _ _ _ _ g hD.1, trivial⟩
     refine evs 8 0 rfl (wn rfl) hr (.iface 26 (pA B0 0)) fun a hr => ?_
     refine evs 7 2 rfl (wn rfl) hr (vI g26) fun a hr => ?_
     refine evDs hgo ⟨((h.pick 4).held 0 rfl), trivial⟩ 6 4 rfl (wn rfl) hr (.func (.method "Store") #[.iface 26 (pA B0 0)] #[]) fun a hr => ?_
     refine evDs hgo ⟨((h.pick 4).held 0 rfl), trivial⟩ 5 5 rfl (wn rfl) hr (.func (.method "Store") #[.iface 26 (pA B0 0)] #[]) fun a hr => ?_
     refine evs 4 6 rfl (wn rfl) hr (.iface 26 (pA B0 0)) fun a hr => ?_
     refine el [3, 4, 5] (b := b20) (off := 0) (cs := [vI r11, vI p1]) (fun _ hk => ⟨hk, fun w hD => hD.1⟩) 3 1 rfl (by kernel_rfl) (wn rfl) hr (.agg #[vI r11, vI p1]) ((h.pick 4).held 0 rfl) (fun w hc => rlm (cs := [vI r11, vI p1]) rfl (by kernel_rfl) (by kernel_rfl) (by kernel_rfl) hc) fun a hr => ?_
     refine e_one (fuel := 2) (i := 3) (by kernel_rfl) rfl ?_
     have hc := frames_Table__join_ok (H := e29) (h := h)
     refine cl (wn rfl) hr hc ?_; clear hc h
     rintro _ w ⟨rfl, h⟩; refine ⟨_, rfl, fun a hr => ?_⟩
     refine wpList_nil ?_; refine then_normal ?_
     refine ⟨fun _ => ⟨((h.pick 4).held 0 rfl), trivial⟩, ?_⟩
     refine e_one (fuel := 1) (i := 7) (by kernel_rfl) rfl ?_
     have hc := cells_Arena_Store_ok (H := e32) (h := h)
     refine cl (wn rfl) hr hc ?_; clear hc h
     rintro _ w ⟨caq33, ccq34, caq35, ccq36, rfl, h⟩; refine ⟨_, rfl, fun a hr => ?_⟩
     refine wpList_nil ?_; refine then_normal ?_
     refine ⟨fun hE => absurd hE (by decide), ?_⟩
     refine evs 0 8 rfl (wn rfl) hr (vI r30) fun a hr => ?_
     refine e_end (by kernel_rfl) ?_
     refine then_normal ?_
     refine sr ?_
     refine oo [47, 48] [vI r30, vB (r30 != 0)] hr fun a hr => ?_
     refine ln ?_
     by_cases c37 : r30 = 0
     ·
      replace H := ifT c37 H
      refine cond_ff hr (bne_eq_false_iff_eq.mpr c37) ?_
      refine wp_skip ?_
      refine blk_normal ?_
      refine then_normal ?_
      refine wp_region_lit ?_
      refine oo [51, 36] [vI (wi (g26 + 1)), vI (wi (g26 + 1))] hr fun a hr => ?_
      refine ln ?_
      replace hr := hr.fold2 [(0, .iface 26 (pA B0 0)), (4, pA b5 0), (8, pA b20 0), (35, vI p1), (36, vI (wi (g26 + 1)))] (by kernel_rfl); obtain ⟨j, hr⟩ := hr
      exact ⟨_, ⟨caq33, ccq34, caq35, ccq36, S31, (wi (g26 + 1)), H, j, hr, h⟩, Nat.lt_succ_self _⟩
     ·
      replace H := ifF c37 H
      refine cond_tt hr (bne_iff_ne.mpr c37) ?_
      refine sr ?_
      refine oo [49, 50] [.agg #[vI 0, vI 0], vI r30] hr fun a hr => ?_
      replace h : Fit z (sepL (pts b5 (.cells #[vI 0, vI 0] 39) :: ob103 B0 S31 caq33 ccq34 caq35 ccq36 :: ro2 caq33 ccq34 S31.cell :: ro96 caq35 ccq36 S31.log :: pts b20 (.cells #[vI r11, vI p1] 39) :: L)) _ := h.sel 5 [3, 0, 1, 2, 4] (by kernel_rfl) (by kernel_rfl)
      refine stos (wn rfl) hr h 0 ([vI 0, vI 0]) (#[vI 0, vI 0]) fun w h => ?_
      refine o1 hr (vI r30) fun a hr => ?_
      refine wpList_nil ?_
      replace h : Fit z (sepL (pts b5 (.cells #[vI 0, vI 0] 39) :: ob103 B0 S31 caq33 ccq34 caq35 ccq36 :: ro2 caq33 ccq34 S31.cell :: ro96 caq35 ccq36 S31.log :: pts b20 (.cells #[vI r11, vI p1] 39) :: L)) _ := h
      refine then_normal ?_
      refine wp_ret ?_
      refine blk_ret ?_
      refine then_ret ?_
      refine then_ret ?_
      refine blk_ret ?_
      refine then_ret ?_
      refine end_retCT (cs := [vI 0, vI 0]) (v := vI r30) rfl hr (by kernel_rfl) (by kernel_rfl) (by kernel_rfl) (by kernel_rfl) (h.held 0 rfl) ?_
      replace h : Fit z (sepL (ob103 B0 S31 caq33 ccq34 caq35 ccq36 :: ro2 caq33 ccq34 S31.cell :: ro96 caq35 ccq36 S31.log :: L)) _ := h.sel 5 [1, 2, 3] (by kernel_rfl) (by kernel_rfl)
      obtain ⟨rfl, rfl, rfl⟩ := ej3 H
      exact ⟨caq33, ccq34, caq35, ccq36, rfl, h⟩
    ·
     replace H := ifF c27 H
     refine cond_ff hr (decide_eq_false c27) ?_
     refine wp_exit ?_
     refine then_exit ?_
     refine then_exit ?_
     refine blk_here ?_
     refine then_normal ?_
     refine sr ?_
     refine ldm (wn rfl) hr (.agg #[vI r11, vI p1]) (cs := [vI r11, vI p1]) ((h.pick 4).held 0 rfl) fun a hr => ?_
     replace h : Fit z (sepL (pts b5 (.cells #[vI 0, vI 0] 39) :: ob103 B0 S21 ca22 cc23 ca24 cc25 :: ro2 ca22 cc23 S21.cell :: ro96 ca24 cc25 S21.log :: pts b20 (.cells #[vI r11, vI p1] 39) :: L)) _ := h.sel 5 [3, 0, 1, 2, 4] (by kernel_rfl) (by kernel_rfl)
     refine stos (wn rfl) hr h 0 ([vI r11, vI p1]) (#[vI r11, vI p1]) fun w h => ?_
     refine o1 hr (vI 0) fun a hr => ?_
     refine wpList_nil ?_
     replace h : Fit z (sepL (pts b5 (.cells #[vI r11, vI p1] 39) :: ob103 B0 S21 ca22 cc23 ca24 cc25 :: ro2 ca22 cc23 S21.cell :: ro96 ca24 cc25 S21.log :: pts b20 (.cells #[vI r11, vI p1] 39) :: L)) _ := h
     refine then_normal ?_
     refine wp_ret ?_
     refine end_retCT (cs := [vI r11, vI p1]) (v := vI 0) rfl hr (by kernel_rfl) (by kernel_rfl) (by kernel_rfl) (by kernel_rfl) (h.held 0 rfl) ?_
     replace h : Fit z (sepL (ob103 B0 S21 ca22 cc23 ca24 cc25 :: ro2 ca22 cc23 S21.cell :: ro96 ca24 cc25 S21.log :: L)) _ := h.sel 5 [1, 2, 3] (by kernel_rfl) (by kernel_rfl)
     obtain ⟨rfl, rfl, rfl⟩ := ej3 H
     exact ⟨ca22, cc23, ca24, cc25, rfl, h⟩
  ·
   replace H := ifF c19 H
   refine cond_tt hr (bne_iff_ne.mpr c19) ?_
   refine sr ?_
   refine oo [30, 31] [.agg #[vI 0, vI 0], vI r12] hr fun a hr => ?_
   replace h : Fit z (sepL (pts b5 (.cells #[vI 0, vI 0] 39) :: ob103 B0 S13 caq15 ccq16 caq17 ccq18 :: ro2 caq15 ccq16 S13.cell :: ro96 caq17 ccq18 S13.log :: L)) _ := h.sel 4 [3, 0, 1, 2] (by kernel_rfl) (by kernel_rfl)
   refine stos (wn rfl) hr h 0 ([vI 0, vI 0]) (#[vI 0, vI 0]) fun w h => ?_
   refine o1 hr (vI r12) fun a hr => ?_
   refine wpList_nil ?_
   replace h : Fit z (sepL (pts b5 (.cells #[vI 0, vI 0] 39) :: ob103 B0 S13 caq15 ccq16 caq17 ccq18 :: ro2 caq15 ccq16 S13.cell :: ro96 caq17 ccq18 S13.log :: L)) _ := h
   refine then_normal ?_
   refine wp_ret ?_
   refine then_ret ?_
   refine end_retCT (cs := [vI 0, vI 0]) (v := vI r12) rfl hr (by kernel_rfl) (by kernel_rfl) (by kernel_rfl) (by kernel_rfl) (h.held 0 rfl) ?_
   replace h : Fit z (sepL (ob103 B0 S13 caq15 ccq16 caq17 ccq18 :: ro2 caq15 ccq16 S13.cell :: ro96 caq17 ccq18 S13.log :: L)) _ := h.sel 4 [1, 2, 3] (by kernel_rfl) (by kernel_rfl)
   obtain ⟨rfl, rfl, rfl⟩ := ej3 H
   exact ⟨caq15, ccq16, caq17, ccq18, rfl, h⟩

/-- (*plunder/cells.Arena).Watch -/
def cells_Arena_Watch (p0 : T_cells_Arena) (p1 : Bool) : Option (T_cells_Arena) :=
  some ({ p0 with watched := p1 })

set_option maxRecDepth 100000 in
set_option maxHeartbeats 4000000 in
theorem cells_Arena_Watch_ok {z w : World} {L : List HProp} {p0 : T_cells_Arena} {p1 : Bool} {B0 : Nat} {ca1 : Option Addr} {cc2 : Nat} {ca3 : Option Addr} {cc4 : Nat} {q0 : T_cells_Arena} (H : cells_Arena_Watch p0 p1 = some q0) (h : Fit z (sepL (ob103 B0 p0 ca1 cc2 ca3 cc4 :: ro2 ca1 cc2 p0.cell :: ro96 ca3 cc4 p0.log :: L)) w)  :
    Calls Try.prog 17 #[pA B0 0, vB p1] w fun e w => ∃ caq0_1 : Option Addr, ∃ ccq0_2 : Nat, ∃ caq0_3 : Option Addr, ∃ ccq0_4 : Nat, e = .returned (.tuple #[]) ∧ Fit z (sepL (ob103 B0 q0 caq0_1 ccq0_2 caq0_3 ccq0_4 :: ro2 caq0_1 ccq0_2 q0.cell :: ro96 caq0_3 ccq0_4 q0.log :: L)) w := by
 unfold cells_Arena_Watch at H
 refine enter Try.func17 rfl 10 rfl rfl [(0, pA B0 0), (1, vB p1)] ⟨rfl, rfl, trivial⟩ ?_
 intro j a hr
 refine sr ?_
 refine oo [4, 5] [pA B0 0, vB true] hr fun a hr => ?_
 refine ln ?_
 refine cond_tt hr (b := true) rfl ?_
 refine wp_region_lit ?_
 refine oo [6, 7, 8, 9] [pA B0 0, vB p1, pA B0 0, pA B0 5] hr fun a hr => ?_
 refine sto (wn rfl) hr h 5 (vB p1) fun w h => ?_
 refine wpList_nil ?_
 replace h : Fit z (sepL (pts B0 (.cells #[vI p0.ledger_size, vI p0.ledger_mark, .slice ca1 p0.cell.length cc2, .slice ca3 p0.log.length cc4, vI p0.actor, vB p1] 103) :: ro2 ca1 cc2 p0.cell :: ro96 ca3 cc4 p0.log :: L)) _ := h
 refine end_norm0 rfl hr ?_
 replace H := ej1 H; subst H
 exact ⟨ca1, cc2, ca3, cc4, rfl, h⟩

/-- (*plunder/frames.join).join -/
def frames_join_join (p0 : T_frames_join) (p0_arena : T_cells_Arena) (p0_rounds : List Int) (p1 : T_frames_actor) : Option (T_frames_join) :=
  if (p0.live.length + 1) * 8 ≤ 140737488355328 then some ({ p0 with live := p0.live ++ [{ p1 with number := p0.made }], made := wi (p0.made + 1) }) else none

set_option maxRecDepth 100000 in
set_option maxHeartbeats 4000000 in
theorem frames_join_join_ok {z w : World} {L : List HProp} {p0 : T_frames_join} {p0_arena : T_cells_Arena} {p0_rounds : List Int} {p1 : T_frames_actor} {B0 : Nat} {B0_arena : Nat} {ca1 : Option Addr} {cc2 : Nat} {ca3 : Option Addr} {cc4 : Nat} {va0_rounds : Option Addr} {vc0_rounds : Nat} {ca5 : Option Addr} {cc6 : Nat} {ca7 : Option Addr} {cc8 : Nat} {ca9 : Option Addr} {cc10 : Nat} {ca11 : Option Addr} {cc12 : Nat} {ca13 : Option Addr} {cc14 : Nat} {B1 : Nat} {q0 : T_frames_join} (H : frames_join_join p0 p0_arena p0_rounds p1 = some q0) (h : Fit z (sepL (ob133 B0 p0 (pA B0_arena 0) (.slice va0_rounds p0_rounds.length vc0_rounds) ca5 cc6 ca7 cc8 ca9 cc10 ca11 cc12 ca13 cc14 :: rn135 ca5 cc6 p0.live :: ro3 ca7 cc8 p0.run_Holders :: rn31 ca9 cc10 p0.run_Reads :: ro2 ca11 cc12 p0.run_Marks :: ro96 ca13 cc14 p0.run_Log :: ob103 B0_arena p0_arena ca1 cc2 ca3 cc4 :: ro2 ca1 cc2 p0_arena.cell :: ro96 ca3 cc4 p0_arena.log :: ob137 B1 p1 :: L)) w) (hv0_rounds : RdRow L 1 encZ_i64 va0_rounds p0_rounds) :
    Calls Try.prog 74 #[pA B0 0, pA B1 0] w fun e w => ∃ caq0_1 : Option Addr, ∃ ccq0_2 : Nat, ∃ caq0_3 : Option Addr, ∃ ccq0_4 : Nat, ∃ caq0_5 : Option Addr, ∃ ccq0_6 : Nat, ∃ caq0_7 : Option Addr, ∃ ccq0_8 : Nat, ∃ caq0_9 : Option Addr, ∃ ccq0_10 : Nat, e = .returned (.tuple #[]) ∧ Fit z (sepL (ob133 B0 q0 (pA B0_arena 0) (.slice va0_rounds p0_rounds.length vc0_rounds) caq0_1 ccq0_2 caq0_3 ccq0_4 caq0_5 ccq0_6 caq0_7 ccq0_8 caq0_9 ccq0_10 :: rn135 caq0_1 ccq0_2 q0.live :: ro3 caq0_3 ccq0_4 q0.run_Holders :: rn31 caq0_5 ccq0_6 q0.run_Reads :: ro2 caq0_7 ccq0_8 q0.run_Marks :: ro96 caq0_9 ccq0_10 q0.run_Log :: ob103 B0_arena p0_arena ca1 cc2 ca3 cc4 :: ro2 ca1 cc2 p0_arena.cell :: ro96 ca3 cc4 p0_arena.log :: L)) w := by
 unfold frames_join_join at H
 refine enter Try.func74 rfl 28 rfl rfl [(0, pA B0 0), (1, pA B1 0)] ⟨rfl, rfl, trivial⟩ ?_
 intro j a hr
 refine sr ?_
 refine oo [4, 5, 6, 7] [pA B1 0, pA B0 0, pA B0 0, pA B0 6] hr fun a hr => ?_
 refine ld (wn rfl) hr (vI p0.made) (h.cell 6 rfl) fun a hr => ?_
 refine oo [9, 10] [pA B1 0, pA B1 0] hr fun a hr => ?_
 replace h : Fit z (sepL (ob137 B1 p1 :: ob133 B0 p0 (pA B0_arena 0) (.slice va0_rounds p0_rounds.length vc0_rounds) ca5 cc6 ca7 cc8 ca9 cc10 ca11 cc12 ca13 cc14 :: rn135 ca5 cc6 p0.live :: ro3 ca7 cc8 p0.run_Holders :: rn31 ca9 cc10 p0.run_Reads :: ro2 ca11 cc12 p0.run_Marks :: ro96 ca13 cc14 p0.run_Log :: ob103 B0_arena p0_arena ca1 cc2 ca3 cc4 :: ro2 ca1 cc2 p0_arena.cell :: ro96 ca3 cc4 p0_arena.log :: L)) _ := h.sel 10 [9, 0, 1, 2, 3, 4, 5, 6, 7, 8] (by kernel_rfl) (by kernel_rfl)
 refine sto (wn rfl) hr h 0 (vI p0.made) fun w h => ?_
 refine wpList_nil ?_
 replace h : Fit z (sepL (pts B1 (.cells #[vI p0.made, vI p1.about, vI p1.op_head_t_Base, vI p1.op_head_t_Frames, vI p1.op_head_frame, vI p1.op_head_stands, vI p1.op_head_code, vI p1.op_head_v, vI p1.op_kind, vI p1.op_slot, vI p1.op_give, vB p1.inOp, vI p1.frame, vI p1.slot, vI p1.value, vI p1.at_, vB p1.child] 137) :: ob133 B0 p0 (pA B0_arena 0) (.slice va0_rounds p0_rounds.length vc0_rounds) ca5 cc6 ca7 cc8 ca9 cc10 ca11 cc12 ca13 cc14 :: rn135 ca5 cc6 p0.live :: ro3 ca7 cc8 p0.run_Holders :: rn31 ca9 cc10 p0.run_Reads :: ro2 ca11 cc12 p0.run_Marks :: ro96 ca13 cc14 p0.run_Log :: ob103 B0_arena p0_arena ca1 cc2 ca3 cc4 :: ro2 ca1 cc2 p0_arena.cell :: ro96 ca3 cc4 p0_arena.log :: L)) _ := h
 refine then_normal ?_
 refine sr ?_
 refine oo [11, 12, 13] [pA B0 0, pA B0 0, pA B0 6] hr fun a hr => ?_
 refine ld (wn rfl) hr (vI p0.made) ((h.pick 1).cell 6 rfl) fun a hr => ?_
 refine oo [15, 16, 17] [vI (wi (p0.made + 1)), pA B0 0, pA B0 6] hr fun a hr => ?_
 replace h : Fit z (sepL (ob133 B0 p0 (pA B0_arena 0) (.slice va0_rounds p0_rounds.length vc0_rounds) ca5 cc6 ca7 cc8 ca9 cc10 ca11 cc12 ca13 cc14 :: pts B1 (.cells #[vI p0.made, vI p1.about, vI p1.op_head_t_Base, vI p1.op_head_t_Frames, vI p1.op_head_frame, vI p1.op_head_stands, vI p1.op_head_code, vI p1.op_head_v, vI p1.op_kind, vI p1.op_slot, vI p1.op_give, vB p1.inOp, vI p1.frame, vI p1.slot, vI p1.value, vI p1.at_, vB p1.child] 137) :: rn135 ca5 cc6 p0.live :: ro3 ca7 cc8 p0.run_Holders :: rn31 ca9 cc10 p0.run_Reads :: ro2 ca11 cc12 p0.run_Marks :: ro96 ca13 cc14 p0.run_Log :: ob103 B0_arena p0_arena ca1 cc2 ca3 cc4 :: ro2 ca1 cc2 p0_arena.cell :: ro96 ca3 cc4 p0_arena.log :: L)) _ := h.sel 10 [1, 0, 2, 3, 4, 5, 6, 7, 8, 9] (by kernel_rfl) (by kernel_rfl)
 refine sto (wn rfl) hr h 6 (vI (wi (p0.made + 1))) fun w h => ?_
 refine wpList_nil ?_
 replace h : Fit z (sepL (pts B0 (.cells #[pA B0_arena 0, vI p0.table_Base, vI p0.table_Frames, .slice va0_rounds p0_rounds.length vc0_rounds, vI p0.round, .slice ca5 p0.live.length cc6, vI (wi (p0.made + 1)), vI p0.got, vB p0.run_Done, vI p0.run_Steps, .slice ca7 p0.run_Holders.length cc8, .slice ca9 p0.run_Reads.length cc10, .slice ca11 p0.run_Marks.length cc12, .slice ca13 p0.run_Log.length cc14] 133) :: pts B1 (.cells #[vI p0.made, vI p1.about, vI p1.op_head_t_Base, vI p1.op_head_t_Frames, vI p1.op_head_frame, vI p1.op_head_stands, vI p1.op_head_code, vI p1.op_head_v, vI p1.op_kind, vI p1.op_slot, vI p1.op_give, vB p1.inOp, vI p1.frame, vI p1.slot, vI p1.value, vI p1.at_, vB p1.child] 137) :: rn135 ca5 cc6 p0.live :: ro3 ca7 cc8 p0.run_Holders :: rn31 ca9 cc10 p0.run_Reads :: ro2 ca11 cc12 p0.run_Marks :: ro96 ca13 cc14 p0.run_Log :: ob103 B0_arena p0_arena ca1 cc2 ca3 cc4 :: ro2 ca1 cc2 p0_arena.cell :: ro96 ca3 cc4 p0_arena.log :: L)) _ := h
 refine then_normal ?_
 refine wp_region_lit ?_
 refine oo [18, 19, 20, 21] [pA B0 0, pA B0 0, pA B0 0, pA B0 5] hr fun a hr => ?_
 refine ld (wn rfl) hr (.slice ca5 p0.live.length cc6) (h.cell 5 rfl) fun a hr => ?_
 refine o1 hr (pA B1 0) fun a hr => ?_
 refine onew (wn rfl) hr h (fun b => .slice (some ⟨b, 0, none⟩) 1 1) (#[pA B1 0]) 135 fun b15 w a h hr => ?_
 replace h : Fit z (sepL (pts B1 (.cells #[vI p0.made, vI p1.about, vI p1.op_head_t_Base, vI p1.op_head_t_Frames, vI p1.op_head_frame, vI p1.op_head_stands, vI p1.op_head_code, vI p1.op_head_v, vI p1.op_kind, vI p1.op_slot, vI p1.op_give, vB p1.inOp, vI p1.frame, vI p1.slot, vI p1.value, vI p1.at_, vB p1.child] 137) :: pts b15 (.cells #[pA B1 0] 135) :: pts B0 (.cells #[pA B0_arena 0, vI p0.table_Base, vI p0.table_Frames, .slice va0_rounds p0_rounds.length vc0_rounds, vI p0.round, .slice ca5 p0.live.length cc6, vI (wi (p0.made + 1)), vI p0.got, vB p0.run_Done, vI p0.run_Steps, .slice ca7 p0.run_Holders.length cc8, .slice ca9 p0.run_Reads.length cc10, .slice ca11 p0.run_Marks.length cc12, .slice ca13 p0.run_Log.length cc14] 133) :: rn135 ca5 cc6 p0.live :: ro3 ca7 cc8 p0.run_Holders :: rn31 ca9 cc10 p0.run_Reads :: ro2 ca11 cc12 p0.run_Marks :: ro96 ca13 cc14 p0.run_Log :: ob103 B0_arena p0_arena ca1 cc2 ca3 cc4 :: ro2 ca1 cc2 p0_arena.cell :: ro96 ca3 cc4 p0_arena.log :: L)) _ := h.sel 11 [2, 0, 1, 3, 4, 5, 6, 7, 8, 9, 10] (by kernel_rfl) (by kernel_rfl)
 replace h := own_ptr135_sh (x := ({ p1 with number := p0.made })) h
 obtain ⟨c16, H⟩ := gd H
 replace h : Fit z (sepL (rn135 ca5 cc6 p0.live :: own_ptr135 ({ p1 with number := p0.made }) [pA B1 0] :: pts b15 (.cells #[pA B1 0] 135) :: pts B0 (.cells #[pA B0_arena 0, vI p0.table_Base, vI p0.table_Frames, .slice va0_rounds p0_rounds.length vc0_rounds, vI p0.round, .slice ca5 p0.live.length cc6, vI (wi (p0.made + 1)), vI p0.got, vB p0.run_Done, vI p0.run_Steps, .slice ca7 p0.run_Holders.length cc8, .slice ca9 p0.run_Reads.length cc10, .slice ca11 p0.run_Marks.length cc12, .slice ca13 p0.run_Log.length cc14] 133) :: ro3 ca7 cc8 p0.run_Holders :: rn31 ca9 cc10 p0.run_Reads :: ro2 ca11 cc12 p0.run_Marks :: ro96 ca13 cc14 p0.run_Log :: ob103 B0_arena p0_arena ca1 cc2 ca3 cc4 :: ro2 ca1 cc2 p0_arena.cell :: ro96 ca3 cc4 p0_arena.log :: L)) _ := h.sel 11 [3, 0, 1, 2, 4, 5, 6, 7, 8, 9, 10] (by kernel_rfl) (by kernel_rfl)
 refine op_append_N (n0 := p0.live.length) (c := 1) (bytes := 8) (sz := 1) (wn rfl) rfl rfl hr rfl (by kernel_rfl) (by kernel_rfl) (E := 135) (xs := p0.live) (by kernel_rfl) (by kernel_rfl) rfl rfl rfl h ((h.pick 2).news rfl) c16 rfl fun ca17 cc18 w a h hr => ?_
 refine oo [26, 27] [pA B0 0, pA B0 5] hr fun a hr => ?_
 replace h : Fit z (sepL (pts B0 (.cells #[pA B0_arena 0, vI p0.table_Base, vI p0.table_Frames, .slice va0_rounds p0_rounds.length vc0_rounds, vI p0.round, .slice ca5 p0.live.length cc6, vI (wi (p0.made + 1)), vI p0.got, vB p0.run_Done, vI p0.run_Steps, .slice ca7 p0.run_Holders.length cc8, .slice ca9 p0.run_Reads.length cc10, .slice ca11 p0.run_Marks.length cc12, .slice ca13 p0.run_Log.length cc14] 133) :: rn135 ca17 cc18 (p0.live ++ [{ p1 with number := p0.made }]) :: pts b15 (.cells #[pA B1 0] 135) :: ro3 ca7 cc8 p0.run_Holders :: rn31 ca9 cc10 p0.run_Reads :: ro2 ca11 cc12 p0.run_Marks :: ro96 ca13 cc14 p0.run_Log :: ob103 B0_arena p0_arena ca1 cc2 ca3 cc4 :: ro2 ca1 cc2 p0_arena.cell :: ro96 ca3 cc4 p0_arena.log :: L)) _ := h.sel 10 [2, 0, 1, 3, 4, 5, 6, 7, 8, 9] (by kernel_rfl) (by kernel_rfl)
 refine sto (wn rfl) hr h 5 (.slice ca17 (p0.live ++ [{ p1 with number := p0.made }]).length cc18) fun w h => ?_
 refine wpList_nil ?_
 replace h : Fit z (sepL (pts B0 (.cells #[pA B0_arena 0, vI p0.table_Base, vI p0.table_Frames, .slice va0_rounds p0_rounds.length vc0_rounds, vI p0.round, .slice ca17 (p0.live ++ [{ p1 with number := p0.made }]).length cc18, vI (wi (p0.made + 1)), vI p0.got, vB p0.run_Done, vI p0.run_Steps, .slice ca7 p0.run_Holders.length cc8, .slice ca9 p0.run_Reads.length cc10, .slice ca11 p0.run_Marks.length cc12, .slice ca13 p0.run_Log.length cc14] 133) :: rn135 ca17 cc18 (p0.live ++ [{ p1 with number := p0.made }]) :: pts b15 (.cells #[pA B1 0] 135) :: ro3 ca7 cc8 p0.run_Holders :: rn31 ca9 cc10 p0.run_Reads :: ro2 ca11 cc12 p0.run_Marks :: ro96 ca13 cc14 p0.run_Log :: ob103 B0_arena p0_arena ca1 cc2 ca3 cc4 :: ro2 ca1 cc2 p0_arena.cell :: ro96 ca3 cc4 p0_arena.log :: L)) _ := h
 refine end_norm0 rfl hr ?_
 replace h : Fit z (sepL (pts B0 (.cells #[pA B0_arena 0, vI p0.table_Base, vI p0.table_Frames, .slice va0_rounds p0_rounds.length vc0_rounds, vI p0.round, .slice ca17 (p0.live ++ [{ p1 with number := p0.made }]).length cc18, vI (wi (p0.made + 1)), vI p0.got, vB p0.run_Done, vI p0.run_Steps, .slice ca7 p0.run_Holders.length cc8, .slice ca9 p0.run_Reads.length cc10, .slice ca11 p0.run_Marks.length cc12, .slice ca13 p0.run_Log.length cc14] 133) :: rn135 ca17 cc18 (p0.live ++ [{ p1 with number := p0.made }]) :: ro3 ca7 cc8 p0.run_Holders :: rn31 ca9 cc10 p0.run_Reads :: ro2 ca11 cc12 p0.run_Marks :: ro96 ca13 cc14 p0.run_Log :: ob103 B0_arena p0_arena ca1 cc2 ca3 cc4 :: ro2 ca1 cc2 p0_arena.cell :: ro96 ca3 cc4 p0_arena.log :: L)) _ := h.sel 10 [0, 1, 3, 4, 5, 6, 7, 8, 9] (by kernel_rfl) (by kernel_rfl)
 replace H := ej1 H; subst H
 exact ⟨ca17, cc18, ca7, cc8, ca9, cc10, ca11, cc12, ca13, cc14, rfl, h⟩

/-- plunder/ops.Mod -/
def ops_Mod (p0 : Int) (p1 : Int) : Option (Int) :=
  (if p1 < 1 then some 0 else if p1 ≠ 0 then (if (p0.tmod p1) < 0 then some (wi ((p0.tmod p1) + p1)) else some (p0.tmod p1)) else none)

set_option maxRecDepth 100000 in
set_option maxHeartbeats 4000000 in
theorem ops_Mod_ok {z w : World} {L : List HProp} {p0 : Int} {p1 : Int} {r0 : Int} (H : ops_Mod p0 p1 = some r0) (h : Fit z (sepL (L)) w)  :
    Calls Try.prog 76 #[vI p0, vI p1] w fun e w => e = .returned (vI r0) ∧ Fit z (sepL (L)) w := by
 unfold ops_Mod at H
 refine enter Try.func76 rfl 17 rfl rfl [(0, vI p0), (1, vI p1)] ⟨rfl, rfl, trivial⟩ ?_
 intro j a hr
 refine sr ?_
 refine o1 hr (vI 0) fun a hr => ?_
 refine ln ?_
 refine wp_seq ?_
 refine sr ?_
 refine oo [6, 7] [vI p1, vB (decide (p1 < 1))] hr fun a hr => ?_
 refine ln ?_
 by_cases c1 : p1 < 1
 ·
  replace H := ifT c1 H
  refine cond_tt hr (decide_eq_true c1) ?_
  refine sr ?_
  refine o1 hr (vI 0) fun a hr => ?_
  refine ln ?_
  refine wp_ret ?_
  refine then_ret ?_
  refine end_ret1 (v := vI 0) rfl hr (by kernel_rfl) ?_
  replace H := ej1 H; subst H
  exact ⟨rfl, h⟩
 ·
  replace H := ifF c1 H
  refine cond_ff hr (decide_eq_false c1) ?_
  refine wp_skip ?_
  refine then_normal ?_
  refine sr ?_
  obtain ⟨c2, H⟩ := gd H
  refine oo [8, 9] [vI p0, vI p1] hr fun a hr => ?_
  refine opv (wn rfl) hr (vI (p0.tmod p1)) (rrem rfl (by kernel_rfl) (by kernel_rfl) c2) fun a hr => ?_
  refine o1 hr (vI (p0.tmod p1)) fun a hr => ?_
  refine ln ?_
  refine wp_seq ?_
  refine sr ?_
  refine oo [11, 12] [vI (p0.tmod p1), vB (decide ((p0.tmod p1) < 0))] hr fun a hr => ?_
  refine ln ?_
  by_cases c3 : (p0.tmod p1) < 0
  ·
   replace H := ifT c3 H
   refine cond_tt hr (decide_eq_true c3) ?_
   refine wp_region_lit ?_
   refine oo [13, 14, 15, 5] [vI (p0.tmod p1), vI p1, vI (wi ((p0.tmod p1) + p1)), vI (wi ((p0.tmod p1) + p1))] hr fun a hr => ?_
   refine ln ?_
   refine sr ?_
   refine oo [16, 4] [vI (wi ((p0.tmod p1) + p1)), vI (wi ((p0.tmod p1) + p1))] hr fun a hr => ?_
   refine ln ?_
   refine wp_ret ?_
   refine end_ret1 (v := vI (wi ((p0.tmod p1) + p1))) rfl hr (by kernel_rfl) ?_
   replace H := ej1 H; subst H
   exact ⟨rfl, h⟩
  ·
   replace H := ifF c3 H
   refine cond_ff hr (decide_eq_false c3) ?_
   refine wp_skip ?_
   refine then_normal ?_
   refine sr ?_
   refine oo [16, 4] [vI (p0.tmod p1), vI (p0.tmod p1)] hr fun a hr => ?_
   refine ln ?_
   refine wp_ret ?_
   refine end_ret1 (v := vI (p0.tmod p1)) rfl hr (by kernel_rfl) ?_
   replace H := ej1 H; subst H
   exact ⟨rfl, h⟩

/-- (plunder/frames.Table).has -/
def frames_Table__has (p0 : T_frames_Table) (p1 : Int) : Option (Bool) :=
  (if p0.Base ≥ 0 then (if p0.Frames ≥ 1 then (if p0.Frames ≤ 4096 then (if p1 ≥ 0 then some (decide (p1 < p0.Frames)) else some false) else some false) else some false) else some false)

set_option maxRecDepth 100000 in
set_option maxHeartbeats 4000000 in
theorem frames_Table__has_ok {z w : World} {L : List HProp} {p0 : T_frames_Table} {p1 : Int} {r0 : Bool} (H : frames_Table__has p0 p1 = some r0) (h : Fit z (sepL (L)) w)  :
    Calls Try.prog 80 #[ag_T_frames_Table p0, vI p1] w fun e w => e = .returned (vB r0) ∧ Fit z (sepL (L)) w := by
 unfold frames_Table__has at H
 refine enter Try.func80 rfl 28 rfl rfl [(0, ag_T_frames_Table p0), (1, vI p1)] ⟨rfl, rfl, trivial⟩ ?_
 intro j a hr
 refine sr ?_
 refine onew (wn rfl) hr h nb (ca_T_frames_Table p0) 39 fun b1 w a h hr => ?_
 refine o1 hr (vB false) fun a hr => ?_
 refine ln ?_
 refine sr ?_
 refine o1 hr (pA b1 0) fun a hr => ?_
 refine ld (wn rfl) hr (vI p0.Base) (h.cell 0 rfl) fun a hr => ?_
 refine oo [7, 8] [vB (decide (p0.Base ≥ 0)), vB (decide (p0.Base ≥ 0))] hr fun a hr => ?_
 by_cases c2 : p0.Base ≥ 0
 ·
  replace H := ifT c2 H
  refine opv (wgt hr (decide_eq_true c2)) hr (pA b1 1) (by kernel_rfl) fun a hr => ?_
  refine ld (wgt hr (decide_eq_true c2)) hr (vI p0.Frames) (h.cell 1 rfl) fun a hr => ?_
  refine opv (wgt hr (decide_eq_true c2)) hr (vB (decide (p0.Frames ≥ 1))) (by kernel_rfl) fun a hr => ?_
  refine opv (wn rfl) hr (vB (decide (p0.Frames ≥ 1))) (rp_t (b := (decide (p0.Base ≥ 0))) rfl (by kernel_rfl) (decide_eq_true c2) (by kernel_rfl)) fun a hr => ?_
  refine o1 hr (vB (decide (p0.Frames ≥ 1))) fun a hr => ?_
  by_cases c3 : p0.Frames ≥ 1
  ·
   replace H := ifT c3 H
   refine opv (wgt hr (decide_eq_true c3)) hr (pA b1 1) (by kernel_rfl) fun a hr => ?_
   refine ld (wgt hr (decide_eq_true c3)) hr (vI p0.Frames) (h.cell 1 rfl) fun a hr => ?_
   refine opv (wgt hr (decide_eq_true c3)) hr (vB (decide (p0.Frames ≤ 4096))) (by kernel_rfl) fun a hr => ?_
   refine opv (wn rfl) hr (vB (decide (p0.Frames ≤ 4096))) (rp_t (b := (decide (p0.Frames ≥ 1))) rfl (by kernel_rfl) (decide_eq_true c3) (by kernel_rfl)) fun a hr => ?_
   refine o1 hr (vB (decide (p0.Frames ≤ 4096))) fun a hr => ?_
   by_cases c4 : p0.Frames ≤ 4096
   ·
    replace H := ifT c4 H
    refine opv (wgt hr (decide_eq_true c4)) hr (vI p1) (by kernel_rfl) fun a hr => ?_
    refine opv (wgt hr (decide_eq_true c4)) hr (vB (decide (p1 ≥ 0))) (by kernel_rfl) fun a hr => ?_
    refine opv (wn rfl) hr (vB (decide (p1 ≥ 0))) (rp_t (b := (decide (p0.Frames ≤ 4096))) rfl (by kernel_rfl) (decide_eq_true c4) (by kernel_rfl)) fun a hr => ?_
    refine o1 hr (vB (decide (p1 ≥ 0))) fun a hr => ?_
    by_cases c5 : p1 ≥ 0
    ·
     replace H := ifT c5 H
     refine opv (wgt hr (decide_eq_true c5)) hr (vI p1) (by kernel_rfl) fun a hr => ?_
     refine opv (wgt hr (decide_eq_true c5)) hr (pA b1 1) (by kernel_rfl) fun a hr => ?_
     refine ld (wgt hr (decide_eq_true c5)) hr (vI p0.Frames) (h.cell 1 rfl) fun a hr => ?_
     refine opv (wgt hr (decide_eq_true c5)) hr (vB (decide (p1 < p0.Frames))) (by kernel_rfl) fun a hr => ?_
     refine opv (wn rfl) hr (vB (decide (p1 < p0.Frames))) (rp_t (b := (decide (p1 ≥ 0))) rfl (by kernel_rfl) (decide_eq_true c5) (by kernel_rfl)) fun a hr => ?_
     refine o1 hr (vB (decide (p1 < p0.Frames))) fun a hr => ?_
     refine ln ?_
     refine wp_ret ?_
     refine end_ret1 (v := vB (decide (p1 < p0.Frames))) rfl hr (by kernel_rfl) ?_
     replace h : Fit z (sepL (L)) _ := h.sel 1 [] (by kernel_rfl) (by kernel_rfl)
     replace H := ej1 H; subst H
     exact ⟨rfl, h⟩
    ·
     replace H := ifF c5 H
     refine offg (wgt hr (decide_eq_false c5)) hr fun a hr => ?_
     refine offg (wgt hr (decide_eq_false c5)) hr fun a hr => ?_
     refine offg (wgt hr (decide_eq_false c5)) hr fun a hr => ?_
     refine offg (wgt hr (decide_eq_false c5)) hr fun a hr => ?_
     refine opv (wn rfl) hr (vB false) (rp_f (b := (decide (p1 ≥ 0))) rfl (by kernel_rfl) (decide_eq_false c5) (by kernel_rfl)) fun a hr => ?_
     refine o1 hr (vB false) fun a hr => ?_
     refine ln ?_
     refine wp_ret ?_
     refine end_ret1 (v := vB false) rfl hr (by kernel_rfl) ?_
     replace h : Fit z (sepL (L)) _ := h.sel 1 [] (by kernel_rfl) (by kernel_rfl)
     replace H := ej1 H; subst H
     exact ⟨rfl, h⟩
   ·
    replace H := ifF c4 H
    refine offg (wgt hr (decide_eq_false c4)) hr fun a hr => ?_
    refine offg (wgt hr (decide_eq_false c4)) hr fun a hr => ?_
    refine opv (wn rfl) hr (vB false) (rp_f (b := (decide (p0.Frames ≤ 4096))) rfl (by kernel_rfl) (decide_eq_false c4) (by kernel_rfl)) fun a hr => ?_
    refine o1 hr (vB false) fun a hr => ?_
    refine offg (wgt hr (c := false) rfl) hr fun a hr => ?_
    refine offg (wgt hr (c := false) rfl) hr fun a hr => ?_
    refine offg (wgt hr (c := false) rfl) hr fun a hr => ?_
    refine offg (wgt hr (c := false) rfl) hr fun a hr => ?_
    refine oo [27, 4] [vB false, vB false] hr fun a hr => ?_
    refine ln ?_
    refine wp_ret ?_
    refine end_ret1 (v := vB false) rfl hr (by kernel_rfl) ?_
    replace h : Fit z (sepL (L)) _ := h.sel 1 [] (by kernel_rfl) (by kernel_rfl)
    replace H := ej1 H; subst H
    exact ⟨rfl, h⟩
  ·
   replace H := ifF c3 H
   refine offg (wgt hr (decide_eq_false c3)) hr fun a hr => ?_
   refine offg (wgt hr (decide_eq_false c3)) hr fun a hr => ?_
   refine offg (wgt hr (decide_eq_false c3)) hr fun a hr => ?_
   refine opv (wn rfl) hr (vB false) (rp_f (b := (decide (p0.Frames ≥ 1))) rfl (by kernel_rfl) (decide_eq_false c3) (by kernel_rfl)) fun a hr => ?_
   refine o1 hr (vB false) fun a hr => ?_
   refine offg (wgt hr (c := false) rfl) hr fun a hr => ?_
   refine offg (wgt hr (c := false) rfl) hr fun a hr => ?_
   refine oo [21, 22] [vB false, vB false] hr fun a hr => ?_
   refine offg (wgt hr (c := false) rfl) hr fun a hr => ?_
   refine offg (wgt hr (c := false) rfl) hr fun a hr => ?_
   refine offg (wgt hr (c := false) rfl) hr fun a hr => ?_
   refine offg (wgt hr (c := false) rfl) hr fun a hr => ?_
   refine oo [27, 4] [vB false, vB false] hr fun a hr => ?_
   refine ln ?_
   refine wp_ret ?_
   refine end_ret1 (v := vB false) rfl hr (by kernel_rfl) ?_
   replace h : Fit z (sepL (L)) _ := h.sel 1 [] (by kernel_rfl) (by kernel_rfl)
   replace H := ej1 H; subst H
   exact ⟨rfl, h⟩
 ·
  replace H := ifF c2 H
  refine offg (wgt hr (decide_eq_false c2)) hr fun a hr => ?_
  refine offg (wgt hr (decide_eq_false c2)) hr fun a hr => ?_
  refine offg (wgt hr (decide_eq_false c2)) hr fun a hr => ?_
  refine opv (wn rfl) hr (vB false) (rp_f (b := (decide (p0.Base ≥ 0))) rfl (by kernel_rfl) (decide_eq_false c2) (by kernel_rfl)) fun a hr => ?_
  refine o1 hr (vB false) fun a hr => ?_
  refine offg (wgt hr (c := false) rfl) hr fun a hr => ?_
  refine offg (wgt hr (c := false) rfl) hr fun a hr => ?_
  refine offg (wgt hr (c := false) rfl) hr fun a hr => ?_
  refine oo [17, 18] [vB false, vB false] hr fun a hr => ?_
  refine offg (wgt hr (c := false) rfl) hr fun a hr => ?_
  refine offg (wgt hr (c := false) rfl) hr fun a hr => ?_
  refine oo [21, 22] [vB false, vB false] hr fun a hr => ?_
  refine offg (wgt hr (c := false) rfl) hr fun a hr => ?_
  refine offg (wgt hr (c := false) rfl) hr fun a hr => ?_
  refine offg (wgt hr (c := false) rfl) hr fun a hr => ?_
  refine offg (wgt hr (c := false) rfl) hr fun a hr => ?_
  refine oo [27, 4] [vB false, vB false] hr fun a hr => ?_
  refine ln ?_
  refine wp_ret ?_
  refine end_ret1 (v := vB false) rfl hr (by kernel_rfl) ?_
  replace h : Fit z (sepL (L)) _ := h.sel 1 [] (by kernel_rfl) (by kernel_rfl)
  replace H := ej1 H; subst H
  exact ⟨rfl, h⟩

/-- plunder/frames.begin -/
def frames_begin (p0 : Int) (p1 : T_frames_Table) (p2 : Int) (p3 : Int) (p4 : Int) : Option (T_frames_Op) :=
  ob1 (frames_Table__has p1 p2) (fun r3 => (if r3 = true then (if p3 < 0 then some (⟨0, 0, 0, 0, 0, 0, 0, 0, 0⟩ : T_frames_Op) else (if p3 ≥ 8 then some (⟨0, 0, 0, 0, 0, 0, 0, 0, 0⟩ : T_frames_Op) else some (⟨p1.Base, p1.Frames, p2, 1, 0, 0, p0, p3, p4⟩ : T_frames_Op))) else some (⟨0, 0, 0, 0, 0, 0, 0, 0, 0⟩ : T_frames_Op)))

set_option maxRecDepth 100000 in
set_option maxHeartbeats 4000000 in
theorem frames_begin_ok {z w : World} {L : List HProp} {p0 : Int} {p1 : T_frames_Table} {p2 : Int} {p3 : Int} {p4 : Int} {r0 : T_frames_Op} (H : frames_begin p0 p1 p2 p3 p4 = some r0) (h : Fit z (sepL (L)) w)  :
    Calls Try.prog 55 #[vI p0, ag_T_frames_Table p1, vI p2, vI p3, vI p4] w fun e w => e = .returned (ag_T_frames_Op r0) ∧ Fit z (sepL (L)) w := by
 unfold frames_begin at H
 refine enter Try.func55 rfl 31 rfl rfl [(0, vI p0), (1, ag_T_frames_Table p1), (2, vI p2), (3, vI p3), (4, vI p4)] ⟨rfl, rfl, rfl, rfl, rfl, trivial⟩ ?_
 intro j a hr
 refine sr ?_
 refine onew (wn rfl) hr h nb (ca_T_frames_Table p1) 39 fun b1 w a h hr => ?_
 refine onew (wn rfl) hr h nb (#[vI 0, vI 0, vI 0, vI 0, vI 0, vI 0, vI 0, vI 0, vI 0]) 50 fun b2 w a h hr => ?_
 refine ln ?_
 refine wp_seq ?_
 refine sr ?_
 refine ldm (wn rfl) hr (ag_T_frames_Table p1) (cs := cl_T_frames_Table p1) ((h.pick 1).held 0 rfl) fun a hr => ?_
 obtain ⟨r3, e4, H⟩ := bd1 H
 refine o1 hr (vI p2) fun a hr => ?_
 have hc := frames_Table__has_ok (H := e4) (h := h)
 refine cl (wn rfl) hr hc ?_; clear hc h
 rintro _ w ⟨rfl, h⟩; refine ⟨_, rfl, fun a hr => ?_⟩
 refine oo [14, 15] [vB (!r3), vB (!r3)] hr fun a hr => ?_
 by_cases c5 : r3 = true
 ·
  replace H := ifT c5 H
  refine opv (wgt hr (x := !r3) (c := false) (by rw [show r3 = true from (c5)]; rfl)) hr (vI p3) (by kernel_rfl) fun a hr => ?_
  refine opv (wgt hr (x := !r3) (c := false) (by rw [show r3 = true from (c5)]; rfl)) hr (vB (decide (p3 < 0))) (by kernel_rfl) fun a hr => ?_
  refine opv (wn rfl) hr (vB (decide (p3 < 0))) (rp_f (b := (!r3)) rfl (by kernel_rfl) (by rw [show r3 = true from (c5)]; rfl) (by kernel_rfl)) fun a hr => ?_
  refine o1 hr (vB (decide (p3 < 0))) fun a hr => ?_
  by_cases c6 : p3 < 0
  ·
   replace H := ifT c6 H
   refine offg (wgt hr (decide_eq_true c6)) hr fun a hr => ?_
   refine offg (wgt hr (decide_eq_true c6)) hr fun a hr => ?_
   refine opv (wn rfl) hr (vB true) (rp_t (b := (decide (p3 < 0))) rfl (by kernel_rfl) (decide_eq_true c6) (by kernel_rfl)) fun a hr => ?_
   refine ln ?_
   refine cond_tt hr (b := true) rfl ?_
   refine sr ?_
   refine o1 hr (.agg #[vI 0, vI 0, vI 0, vI 0, vI 0, vI 0, vI 0, vI 0, vI 0]) fun a hr => ?_
   refine stos (wn rfl) hr h 0 ([vI 0, vI 0, vI 0, vI 0, vI 0, vI 0, vI 0, vI 0, vI 0]) (#[vI 0, vI 0, vI 0, vI 0, vI 0, vI 0, vI 0, vI 0, vI 0]) fun w h => ?_
   refine wpList_nil ?_
   replace h : Fit z (sepL (pts b2 (.cells #[vI 0, vI 0, vI 0, vI 0, vI 0, vI 0, vI 0, vI 0, vI 0] 50) :: ob39 b1 p1 :: L)) _ := h
   refine then_normal ?_
   refine wp_ret ?_
   refine then_ret ?_
   refine end_retC (cs := [vI 0, vI 0, vI 0, vI 0, vI 0, vI 0, vI 0, vI 0, vI 0]) rfl hr (by kernel_rfl) (by kernel_rfl) (by kernel_rfl) (h.held 0 rfl) ?_
   replace h : Fit z (sepL (L)) _ := h.sel 2 [] (by kernel_rfl) (by kernel_rfl)
   replace H := ej1 H; subst H
   exact ⟨rfl, h⟩
  ·
   replace H := ifF c6 H
   refine opv (wgt hr (decide_eq_false c6)) hr (vI p3) (by kernel_rfl) fun a hr => ?_
   refine opv (wgt hr (decide_eq_false c6)) hr (vB (decide (p3 ≥ 8))) (by kernel_rfl) fun a hr => ?_
   refine opv (wn rfl) hr (vB (decide (p3 ≥ 8))) (rp_f (b := (decide (p3 < 0))) rfl (by kernel_rfl) (decide_eq_false c6) (by kernel_rfl)) fun a hr => ?_
   refine ln ?_
   by_cases c7 : p3 ≥ 8
   ·
    replace H := ifT c7 H
    refine cond_tt hr (decide_eq_true c7) ?_
    refine sr ?_
    refine o1 hr (.agg #[vI 0, vI 0, vI 0, vI 0, vI 0, vI 0, vI 0, vI 0, vI 0]) fun a hr => ?_
    refine stos (wn rfl) hr h 0 ([vI 0, vI 0, vI 0, vI 0, vI 0, vI 0, vI 0, vI 0, vI 0]) (#[vI 0, vI 0, vI 0, vI 0, vI 0, vI 0, vI 0, vI 0, vI 0]) fun w h => ?_
    refine wpList_nil ?_
    replace h : Fit z (sepL (pts b2 (.cells #[vI 0, vI 0, vI 0, vI 0, vI 0, vI 0, vI 0, vI 0, vI 0] 50) :: ob39 b1 p1 :: L)) _ := h
    refine then_normal ?_
    refine wp_ret ?_
    refine then_ret ?_
    refine end_retC (cs := [vI 0, vI 0, vI 0, vI 0, vI 0, vI 0, vI 0, vI 0, vI 0]) rfl hr (by kernel_rfl) (by kernel_rfl) (by kernel_rfl) (h.held 0 rfl) ?_
    replace h : Fit z (sepL (L)) _ := h.sel 2 [] (by kernel_rfl) (by kernel_rfl)
    replace H := ej1 H; subst H
    exact ⟨rfl, h⟩
   ·
    replace H := ifF c7 H
    refine cond_ff hr (decide_eq_false c7) ?_
    refine wp_skip ?_
    refine then_normal ?_
    refine sr ?_
    refine ldm (wn rfl) hr (ag_T_frames_Table p1) (cs := cl_T_frames_Table p1) ((h.pick 1).held 0 rfl) fun a hr => ?_
    refine oo [25, 26, 27, 28, 29, 30] [vI p2, .agg #[vI p1.Base, vI p1.Frames, vI p2, vI 1, vI 0, vI 0], vI p0, vI p3, vI p4, .agg #[vI p1.Base, vI p1.Frames, vI p2, vI 1, vI 0, vI 0, vI p0, vI p3, vI p4]] hr fun a hr => ?_
    refine stos (wn rfl) hr h 0 ([vI p1.Base, vI p1.Frames, vI p2, vI 1, vI 0, vI 0, vI p0, vI p3, vI p4]) (#[vI p1.Base, vI p1.Frames, vI p2, vI 1, vI 0, vI 0, vI p0, vI p3, vI p4]) fun w h => ?_
    refine wpList_nil ?_
    replace h : Fit z (sepL (pts b2 (.cells #[vI p1.Base, vI p1.Frames, vI p2, vI 1, vI 0, vI 0, vI p0, vI p3, vI p4] 50) :: ob39 b1 p1 :: L)) _ := h
    refine then_normal ?_
    refine wp_ret ?_
    refine end_retC (cs := [vI p1.Base, vI p1.Frames, vI p2, vI 1, vI 0, vI 0, vI p0, vI p3, vI p4]) rfl hr (by kernel_rfl) (by kernel_rfl) (by kernel_rfl) (h.held 0 rfl) ?_
    replace h : Fit z (sepL (L)) _ := h.sel 2 [] (by kernel_rfl) (by kernel_rfl)
    replace H := ej1 H; subst H
    exact ⟨rfl, h⟩
 ·
  replace H := ifF c5 H
  refine offg (wgt hr (x := !r3) (c := true) (by rw [show r3 = false from (bF c5)]; rfl)) hr fun a hr => ?_
  refine offg (wgt hr (x := !r3) (c := true) (by rw [show r3 = false from (bF c5)]; rfl)) hr fun a hr => ?_
  refine opv (wn rfl) hr (vB true) (rp_t (b := (!r3)) rfl (by kernel_rfl) (by rw [show r3 = false from (bF c5)]; rfl) (by kernel_rfl)) fun a hr => ?_
  refine o1 hr (vB true) fun a hr => ?_
  refine offg (wgt hr (c := true) rfl) hr fun a hr => ?_
  refine offg (wgt hr (c := true) rfl) hr fun a hr => ?_
  refine o1 hr (vB true) fun a hr => ?_
  refine ln ?_
  refine cond_tt hr (b := true) rfl ?_
  refine sr ?_
  refine o1 hr (.agg #[vI 0, vI 0, vI 0, vI 0, vI 0, vI 0, vI 0, vI 0, vI 0]) fun a hr => ?_
  refine stos (wn rfl) hr h 0 ([vI 0, vI 0, vI 0, vI 0, vI 0, vI 0, vI 0, vI 0, vI 0]) (#[vI 0, vI 0, vI 0, vI 0, vI 0, vI 0, vI 0, vI 0, vI 0]) fun w h => ?_
  refine wpList_nil ?_
  replace h : Fit z (sepL (pts b2 (.cells #[vI 0, vI 0, vI 0, vI 0, vI 0, vI 0, vI 0, vI 0, vI 0] 50) :: ob39 b1 p1 :: L)) _ := h
  refine then_normal ?_
  refine wp_ret ?_
  refine then_ret ?_
  refine end_retC (cs := [vI 0, vI 0, vI 0, vI 0, vI 0, vI 0, vI 0, vI 0, vI 0]) rfl hr (by kernel_rfl) (by kernel_rfl) (by kernel_rfl) (h.held 0 rfl) ?_
  replace h : Fit z (sepL (L)) _ := h.sel 2 [] (by kernel_rfl) (by kernel_rfl)
  replace H := ej1 H; subst H
  exact ⟨rfl, h⟩

/-- plunder/frames.Alloc -/
def frames_Alloc (p0 : T_frames_Table) : Option (T_frames_Op) :=
  ob1 (frames_begin 0 p0 0 0 0) (fun r3 => some r3)

set_option maxRecDepth 100000 in
set_option maxHeartbeats 4000000 in
theorem frames_Alloc_ok {z w : World} {L : List HProp} {p0 : T_frames_Table} {r0 : T_frames_Op} (H : frames_Alloc p0 = some r0) (h : Fit z (sepL (L)) w)  :
    Calls Try.prog 27 #[ag_T_frames_Table p0] w fun e w => e = .returned (ag_T_frames_Op r0) ∧ Fit z (sepL (L)) w := by
 unfold frames_Alloc at H
 refine enter Try.func27 rfl 5 rfl rfl [(0, ag_T_frames_Table p0)] ⟨rfl, trivial⟩ ?_
 intro j a hr
 refine sr ?_
 refine onew (wn rfl) hr h nb (ca_T_frames_Table p0) 39 fun b1 w a h hr => ?_
 refine onew (wn rfl) hr h nb (#[vI 0, vI 0, vI 0, vI 0, vI 0, vI 0, vI 0, vI 0, vI 0]) 50 fun b2 w a h hr => ?_
 refine ln ?_
 refine sr ?_
 refine ldm (wn rfl) hr (ag_T_frames_Table p0) (cs := cl_T_frames_Table p0) ((h.pick 1).held 0 rfl) fun a hr => ?_
 obtain ⟨r3, e4, H⟩ := bd1 H
 have hc := frames_begin_ok (H := e4) (h := h)
 refine cl (wn rfl) hr hc ?_; clear hc h
 rintro _ w ⟨rfl, h⟩; refine ⟨_, rfl, fun a hr => ?_⟩
 refine stos (wn rfl) hr h 0 (cl_T_frames_Op r3) (ca_T_frames_Op r3) fun w h => ?_
 refine wpList_nil ?_
 replace h : Fit z (sepL (ob50 b2 r3 :: ob39 b1 p0 :: L)) _ := h
 refine then_normal ?_
 refine wp_ret ?_
 refine end_retC (cs := cl_T_frames_Op r3) rfl hr (by kernel_rfl) (by kernel_rfl) (by kernel_rfl) (h.held 0 rfl) ?_
 replace h : Fit z (sepL (L)) _ := h.sel 2 [] (by kernel_rfl) (by kernel_rfl)
 replace H := ej1 H; subst H
 exact ⟨rfl, h⟩

/-- plunder/frames.Start -/
def frames_Start (p0 : T_frames_Table) (p1 : Int) : Option (T_frames_Op) :=
  ob1 (frames_begin 4 p0 p1 0 0) (fun r3 => some r3)

set_option maxRecDepth 100000 in
set_option maxHeartbeats 4000000 in
theorem frames_Start_ok {z w : World} {L : List HProp} {p0 : T_frames_Table} {p1 : Int} {r0 : T_frames_Op} (H : frames_Start p0 p1 = some r0) (h : Fit z (sepL (L)) w)  :
    Calls Try.prog 64 #[ag_T_frames_Table p0, vI p1] w fun e w => e = .returned (ag_T_frames_Op r0) ∧ Fit z (sepL (L)) w := by
 unfold frames_Start at H
 refine enter Try.func64 rfl 8 rfl rfl [(0, ag_T_frames_Table p0), (1, vI p1)] ⟨rfl, rfl, trivial⟩ ?_
 intro j a hr
 refine sr ?_
 refine onew (wn rfl) hr h nb (ca_T_frames_Table p0) 39 fun b1 w a h hr => ?_
 refine onew (wn rfl) hr h nb (#[vI 0, vI 0, vI 0, vI 0, vI 0, vI 0, vI 0, vI 0, vI 0]) 50 fun b2 w a h hr => ?_
 refine ln ?_
 refine sr ?_
 refine ldm (wn rfl) hr (ag_T_frames_Table p0) (cs := cl_T_frames_Table p0) ((h.pick 1).held 0 rfl) fun a hr => ?_
 obtain ⟨r3, e4, H⟩ := bd1 H
 refine o1 hr (vI p1) fun a hr => ?_
 have hc := frames_begin_ok (H := e4) (h := h)
 refine cl (wn rfl) hr hc ?_; clear hc h
 rintro _ w ⟨rfl, h⟩; refine ⟨_, rfl, fun a hr => ?_⟩
 refine stos (wn rfl) hr h 0 (cl_T_frames_Op r3) (ca_T_frames_Op r3) fun w h => ?_
 refine wpList_nil ?_
 replace h : Fit z (sepL (ob50 b2 r3 :: ob39 b1 p0 :: L)) _ := h
 refine then_normal ?_
 refine wp_ret ?_
 refine end_retC (cs := cl_T_frames_Op r3) rfl hr (by kernel_rfl) (by kernel_rfl) (by kernel_rfl) (h.held 0 rfl) ?_
 replace h : Fit z (sepL (L)) _ := h.sel 2 [] (by kernel_rfl) (by kernel_rfl)
 replace H := ej1 H; subst H
 exact ⟨rfl, h⟩

/-- plunder/frames.Fork -/
def frames_Fork (p0 : T_frames_Table) (p1 : Int) : Option (T_frames_Op) :=
  ob1 (frames_begin 1 p0 p1 0 0) (fun r3 => some r3)

set_option maxRecDepth 100000 in
set_option maxHeartbeats 4000000 in
theorem frames_Fork_ok {z w : World} {L : List HProp} {p0 : T_frames_Table} {p1 : Int} {r0 : T_frames_Op} (H : frames_Fork p0 p1 = some r0) (h : Fit z (sepL (L)) w)  :
    Calls Try.prog 30 #[ag_T_frames_Table p0, vI p1] w fun e w => e = .returned (ag_T_frames_Op r0) ∧ Fit z (sepL (L)) w := by
 unfold frames_Fork at H
 refine enter Try.func30 rfl 8 rfl rfl [(0, ag_T_frames_Table p0), (1, vI p1)] ⟨rfl, rfl, trivial⟩ ?_
 intro j a hr
 refine sr ?_
 refine onew (wn rfl) hr h nb (ca_T_frames_Table p0) 39 fun b1 w a h hr => ?_
 refine onew (wn rfl) hr h nb (#[vI 0, vI 0, vI 0, vI 0, vI 0, vI 0, vI 0, vI 0, vI 0]) 50 fun b2 w a h hr => ?_
 refine ln ?_
 refine sr ?_
 refine ldm (wn rfl) hr (ag_T_frames_Table p0) (cs := cl_T_frames_Table p0) ((h.pick 1).held 0 rfl) fun a hr => ?_
 obtain ⟨r3, e4, H⟩ := bd1 H
 refine o1 hr (vI p1) fun a hr => ?_
 have hc := frames_begin_ok (H := e4) (h := h)
 refine cl (wn rfl) hr hc ?_; clear hc h
 rintro _ w ⟨rfl, h⟩; refine ⟨_, rfl, fun a hr => ?_⟩
 refine stos (wn rfl) hr h 0 (cl_T_frames_Op r3) (ca_T_frames_Op r3) fun w h => ?_
 refine wpList_nil ?_
 replace h : Fit z (sepL (ob50 b2 r3 :: ob39 b1 p0 :: L)) _ := h
 refine then_normal ?_
 refine wp_ret ?_
 refine end_retC (cs := cl_T_frames_Op r3) rfl hr (by kernel_rfl) (by kernel_rfl) (by kernel_rfl) (h.held 0 rfl) ?_
 replace h : Fit z (sepL (L)) _ := h.sel 2 [] (by kernel_rfl) (by kernel_rfl)
 replace H := ej1 H; subst H
 exact ⟨rfl, h⟩

/-- plunder/frames.Sync -/
def frames_Sync (p0 : T_frames_Table) (p1 : Int) : Option (T_frames_Op) :=
  ob1 (frames_begin 3 p0 p1 0 0) (fun r3 => some r3)

set_option maxRecDepth 100000 in
set_option maxHeartbeats 4000000 in
theorem frames_Sync_ok {z w : World} {L : List HProp} {p0 : T_frames_Table} {p1 : Int} {r0 : T_frames_Op} (H : frames_Sync p0 p1 = some r0) (h : Fit z (sepL (L)) w)  :
    Calls Try.prog 31 #[ag_T_frames_Table p0, vI p1] w fun e w => e = .returned (ag_T_frames_Op r0) ∧ Fit z (sepL (L)) w := by
 unfold frames_Sync at H
 refine enter Try.func31 rfl 8 rfl rfl [(0, ag_T_frames_Table p0), (1, vI p1)] ⟨rfl, rfl, trivial⟩ ?_
 intro j a hr
 refine sr ?_
 refine onew (wn rfl) hr h nb (ca_T_frames_Table p0) 39 fun b1 w a h hr => ?_
 refine onew (wn rfl) hr h nb (#[vI 0, vI 0, vI 0, vI 0, vI 0, vI 0, vI 0, vI 0, vI 0]) 50 fun b2 w a h hr => ?_
 refine ln ?_
 refine sr ?_
 refine ldm (wn rfl) hr (ag_T_frames_Table p0) (cs := cl_T_frames_Table p0) ((h.pick 1).held 0 rfl) fun a hr => ?_
 obtain ⟨r3, e4, H⟩ := bd1 H
 refine o1 hr (vI p1) fun a hr => ?_
 have hc := frames_begin_ok (H := e4) (h := h)
 refine cl (wn rfl) hr hc ?_; clear hc h
 rintro _ w ⟨rfl, h⟩; refine ⟨_, rfl, fun a hr => ?_⟩
 refine stos (wn rfl) hr h 0 (cl_T_frames_Op r3) (ca_T_frames_Op r3) fun w h => ?_
 refine wpList_nil ?_
 replace h : Fit z (sepL (ob50 b2 r3 :: ob39 b1 p0 :: L)) _ := h
 refine then_normal ?_
 refine wp_ret ?_
 refine end_retC (cs := cl_T_frames_Op r3) rfl hr (by kernel_rfl) (by kernel_rfl) (by kernel_rfl) (h.held 0 rfl) ?_
 replace h : Fit z (sepL (L)) _ := h.sel 2 [] (by kernel_rfl) (by kernel_rfl)
 replace H := ej1 H; subst H
 exact ⟨rfl, h⟩

/-- plunder/frames.Finish -/
def frames_Finish (p0 : T_frames_Table) (p1 : Int) (p2 : Int) (p3 : Int) : Option (T_frames_Op) :=
  ob1 (frames_begin 2 p0 p1 p2 p3) (fun r3 => some r3)

set_option maxRecDepth 100000 in
set_option maxHeartbeats 4000000 in
theorem frames_Finish_ok {z w : World} {L : List HProp} {p0 : T_frames_Table} {p1 : Int} {p2 : Int} {p3 : Int} {r0 : T_frames_Op} (H : frames_Finish p0 p1 p2 p3 = some r0) (h : Fit z (sepL (L)) w)  :
    Calls Try.prog 32 #[ag_T_frames_Table p0, vI p1, vI p2, vI p3] w fun e w => e = .returned (ag_T_frames_Op r0) ∧ Fit z (sepL (L)) w := by
 unfold frames_Finish at H
 refine enter Try.func32 rfl 14 rfl rfl [(0, ag_T_frames_Table p0), (1, vI p1), (2, vI p2), (3, vI p3)] ⟨rfl, rfl, rfl, rfl, trivial⟩ ?_
 intro j a hr
 refine sr ?_
 refine onew (wn rfl) hr h nb (ca_T_frames_Table p0) 39 fun b1 w a h hr => ?_
 refine onew (wn rfl) hr h nb (#[vI 0, vI 0, vI 0, vI 0, vI 0, vI 0, vI 0, vI 0, vI 0]) 50 fun b2 w a h hr => ?_
 refine ln ?_
 refine sr ?_
 refine ldm (wn rfl) hr (ag_T_frames_Table p0) (cs := cl_T_frames_Table p0) ((h.pick 1).held 0 rfl) fun a hr => ?_
 obtain ⟨r3, e4, H⟩ := bd1 H
 refine oo [10, 11, 12] [vI p1, vI p2, vI p3] hr fun a hr => ?_
 have hc := frames_begin_ok (H := e4) (h := h)
 refine cl (wn rfl) hr hc ?_; clear hc h
 rintro _ w ⟨rfl, h⟩; refine ⟨_, rfl, fun a hr => ?_⟩
 refine stos (wn rfl) hr h 0 (cl_T_frames_Op r3) (ca_T_frames_Op r3) fun w h => ?_
 refine wpList_nil ?_
 replace h : Fit z (sepL (ob50 b2 r3 :: ob39 b1 p0 :: L)) _ := h
 refine then_normal ?_
 refine wp_ret ?_
 refine end_retC (cs := cl_T_frames_Op r3) rfl hr (by kernel_rfl) (by kernel_rfl) (by kernel_rfl) (h.held 0 rfl) ?_
 replace h : Fit z (sepL (L)) _ := h.sel 2 [] (by kernel_rfl) (by kernel_rfl)
 replace H := ej1 H; subst H
 exact ⟨rfl, h⟩

/-- plunder/frames.Fetch -/
def frames_Fetch (p0 : T_frames_Table) (p1 : Int) (p2 : Int) : Option (T_frames_Op) :=
  ob1 (frames_begin 5 p0 p1 p2 0) (fun r3 => some r3)

set_option maxRecDepth 100000 in
set_option maxHeartbeats 4000000 in
theorem frames_Fetch_ok {z w : World} {L : List HProp} {p0 : T_frames_Table} {p1 : Int} {p2 : Int} {r0 : T_frames_Op} (H : frames_Fetch p0 p1 p2 = some r0) (h : Fit z (sepL (L)) w)  :
    Calls Try.prog 33 #[ag_T_frames_Table p0, vI p1, vI p2] w fun e w => e = .returned (ag_T_frames_Op r0) ∧ Fit z (sepL (L)) w := by
 unfold frames_Fetch at H
 refine enter Try.func33 rfl 11 rfl rfl [(0, ag_T_frames_Table p0), (1, vI p1), (2, vI p2)] ⟨rfl, rfl, rfl, trivial⟩ ?_
 intro j a hr
 refine sr ?_
 refine onew (wn rfl) hr h nb (ca_T_frames_Table p0) 39 fun b1 w a h hr => ?_
 refine onew (wn rfl) hr h nb (#[vI 0, vI 0, vI 0, vI 0, vI 0, vI 0, vI 0, vI 0, vI 0]) 50 fun b2 w a h hr => ?_
 refine ln ?_
 refine sr ?_
 refine ldm (wn rfl) hr (ag_T_frames_Table p0) (cs := cl_T_frames_Table p0) ((h.pick 1).held 0 rfl) fun a hr => ?_
 obtain ⟨r3, e4, H⟩ := bd1 H
 refine oo [8, 9] [vI p1, vI p2] hr fun a hr => ?_
 have hc := frames_begin_ok (H := e4) (h := h)
 refine cl (wn rfl) hr hc ?_; clear hc h
 rintro _ w ⟨rfl, h⟩; refine ⟨_, rfl, fun a hr => ?_⟩
 refine stos (wn rfl) hr h 0 (cl_T_frames_Op r3) (ca_T_frames_Op r3) fun w h => ?_
 refine wpList_nil ?_
 replace h : Fit z (sepL (ob50 b2 r3 :: ob39 b1 p0 :: L)) _ := h
 refine then_normal ?_
 refine wp_ret ?_
 refine end_retC (cs := cl_T_frames_Op r3) rfl hr (by kernel_rfl) (by kernel_rfl) (by kernel_rfl) (h.held 0 rfl) ?_
 replace h : Fit z (sepL (L)) _ := h.sel 2 [] (by kernel_rfl) (by kernel_rfl)
 replace H := ej1 H; subst H
 exact ⟨rfl, h⟩

/-- (*plunder/frames.join).begin -/
def frames_join_begin (p0 : T_frames_join) (p0_arena : T_cells_Arena) (p0_rounds : List Int) (p1 : T_frames_actor) : Option (T_frames_Op) :=
  jn0 (ob1 ((if p1.about = 0 then some (p1.about == 0) else some (p1.about == 2))) (fun g18 => (if g18 = true then ob1 (frames_Alloc (⟨p0.table_Base, p0.table_Frames⟩ : T_frames_Table)) (fun r23 => some (.inr r23)) else (if p1.about = 1 then ob1 (frames_Start (⟨p0.table_Base, p0.table_Frames⟩ : T_frames_Table) p1.frame) (fun r26 => some (.inr r26)) else (if p1.about = 3 then ob1 (frames_Fork (⟨p0.table_Base, p0.table_Frames⟩ : T_frames_Table) 0) (fun r29 => some (.inr r29)) else (if p1.about = 4 then ob1 (frames_Sync (⟨p0.table_Base, p0.table_Frames⟩ : T_frames_Table) 0) (fun r32 => some (.inr r32)) else (if p1.about = 5 then ob1 (frames_Finish (⟨p0.table_Base, p0.table_Frames⟩ : T_frames_Table) 0 p1.slot p1.value) (fun r35 => some (.inr r35)) else some (.inl ())))))))) (ob1 (frames_Fetch (⟨p0.table_Base, p0.table_Frames⟩ : T_frames_Table) 0 p1.at_) (fun r37 => some r37))

set_option maxRecDepth 100000 in
set_option maxHeartbeats 4000000 in
theorem frames_join_begin_ok {z w : World} {L : List HProp} {p0 : T_frames_join} {p0_arena : T_cells_Arena} {p0_rounds : List Int} {p1 : T_frames_actor} {B0 : Nat} {B0_arena : Nat} {ca1 : Option Addr} {cc2 : Nat} {ca3 : Option Addr} {cc4 : Nat} {va0_rounds : Option Addr} {vc0_rounds : Nat} {ix0_live : Nat} {cs0_live : List Value} {ca5 : Option Addr} {cc6 : Nat} {ca7 : Option Addr} {cc8 : Nat} {ca9 : Option Addr} {cc10 : Nat} {ca11 : Option Addr} {cc12 : Nat} {ca13 : Option Addr} {cc14 : Nat} {B1 : Nat} {r0 : T_frames_Op} (H : frames_join_begin p0 p0_arena p0_rounds p1 = some r0) (h : Fit z (sepL (ob133 B0 p0 (pA B0_arena 0) (.slice va0_rounds p0_rounds.length vc0_rounds) ca5 cc6 ca7 cc8 ca9 cc10 ca11 cc12 ca13 cc14 :: rowH 135 1 own_ptr135 (.slice ca5 p0.live.length cc6) p0.live ix0_live cs0_live :: ro3 ca7 cc8 p0.run_Holders :: rn31 ca9 cc10 p0.run_Reads :: ro2 ca11 cc12 p0.run_Marks :: ro96 ca13 cc14 p0.run_Log :: ob103 B0_arena p0_arena ca1 cc2 ca3 cc4 :: ro2 ca1 cc2 p0_arena.cell :: ro96 ca3 cc4 p0_arena.log :: ob137 B1 p1 :: L)) w) (hv0_rounds : RdRow L 1 encZ_i64 va0_rounds p0_rounds) :
    Calls Try.prog 96 #[pA B0 0, pA B1 0] w fun e w => e = .returned (ag_T_frames_Op r0) ∧ Fit z (sepL (ob133 B0 p0 (pA B0_arena 0) (.slice va0_rounds p0_rounds.length vc0_rounds) ca5 cc6 ca7 cc8 ca9 cc10 ca11 cc12 ca13 cc14 :: rowH 135 1 own_ptr135 (.slice ca5 p0.live.length cc6) p0.live ix0_live cs0_live :: ro3 ca7 cc8 p0.run_Holders :: rn31 ca9 cc10 p0.run_Reads :: ro2 ca11 cc12 p0.run_Marks :: ro96 ca13 cc14 p0.run_Log :: ob103 B0_arena p0_arena ca1 cc2 ca3 cc4 :: ro2 ca1 cc2 p0_arena.cell :: ro96 ca3 cc4 p0_arena.log :: ob137 B1 p1 :: L)) w := by
 unfold frames_join_begin at H
 refine enter Try.func96 rfl 66 rfl rfl [(0, pA B0 0), (1, pA B1 0)] ⟨rfl, rfl, trivial⟩ ?_
 intro j a hr
 refine sr ?_
 refine onew (wn rfl) hr h nb (#[vI 0, vI 0, vI 0, vI 0, vI 0, vI 0, vI 0, vI 0, vI 0]) 50 fun b15 w a h hr => ?_
 refine ln ?_
 obtain ⟨o17, H, hK16⟩ := jd0 H
 refine cut_rule (β := Unit) (fun _ a w => .inl () = o17 ∧ ∃ j, Rep 66 (lk [(0, pA B0 0), (1, pA B1 0), (4, pA b15 0)] j) a ∧ Fit z (sepL (ob133 B0 p0 (pA B0_arena 0) (.slice va0_rounds p0_rounds.length vc0_rounds) ca5 cc6 ca7 cc8 ca9 cc10 ca11 cc12 ca13 cc14 :: ob103 B0_arena p0_arena ca1 cc2 ca3 cc4 :: ro2 ca1 cc2 p0_arena.cell :: ro96 ca3 cc4 p0_arena.log :: rowH 135 1 own_ptr135 (.slice ca5 p0.live.length cc6) p0.live ix0_live cs0_live :: ro3 ca7 cc8 p0.run_Holders :: rn31 ca9 cc10 p0.run_Reads :: ro2 ca11 cc12 p0.run_Marks :: ro96 ca13 cc14 p0.run_Log :: ob137 B1 p1 :: pts b15 (.cells #[vI 0, vI 0, vI 0, vI 0, vI 0, vI 0, vI 0, vI 0, vI 0] 50) :: L)) w) ?_ ?_
 ·
  refine sr ?_
  refine oo [5, 6, 7] [pA B1 0, pA B1 0, pA B1 1] hr fun a hr => ?_
  refine ld (wn rfl) hr (vI p1.about) ((h.pick 10).cell 1 rfl) fun a hr => ?_
  refine ln ?_
  refine wp_block ?_
  obtain ⟨o20, H, hK19⟩ := kd1 H
  refine cut_rule (β := Unit) (fun _ a w => ∃ g18 : Bool, g18 = o20 ∧ ∃ j, Rep 66 (lk [(0, pA B0 0), (1, pA B1 0), (4, pA b15 0), (8, vI p1.about), (9, vB g18)] j) a ∧ Fit z (sepL (ob133 B0 p0 (pA B0_arena 0) (.slice va0_rounds p0_rounds.length vc0_rounds) ca5 cc6 ca7 cc8 ca9 cc10 ca11 cc12 ca13 cc14 :: ob103 B0_arena p0_arena ca1 cc2 ca3 cc4 :: ro2 ca1 cc2 p0_arena.cell :: ro96 ca3 cc4 p0_arena.log :: rowH 135 1 own_ptr135 (.slice ca5 p0.live.length cc6) p0.live ix0_live cs0_live :: ro3 ca7 cc8 p0.run_Holders :: rn31 ca9 cc10 p0.run_Reads :: ro2 ca11 cc12 p0.run_Marks :: ro96 ca13 cc14 p0.run_Log :: ob137 B1 p1 :: pts b15 (.cells #[vI 0, vI 0, vI 0, vI 0, vI 0, vI 0, vI 0, vI 0, vI 0] 50) :: L)) w) ?_ ?_
  ·
   refine sr ?_
   refine oo [10, 9] [vB (p1.about == 0), vB (p1.about == 0)] hr fun a hr => ?_
   refine ln ?_
   by_cases c21 : p1.about = 0
   ·
    replace H := ifT c21 H
    refine cond_tt hr (beq_iff_eq.mpr c21) ?_
    refine wp_skip ?_
    refine then_normal ?_
    replace hr := hr.fold2 [(0, pA B0 0), (1, pA B1 0), (4, pA b15 0), (8, vI p1.about), (9, vB (p1.about == 0))] (by kernel_rfl); obtain ⟨j, hr⟩ := hr
    replace h : Fit z (sepL (ob133 B0 p0 (pA B0_arena 0) (.slice va0_rounds p0_rounds.length vc0_rounds) ca5 cc6 ca7 cc8 ca9 cc10 ca11 cc12 ca13 cc14 :: ob103 B0_arena p0_arena ca1 cc2 ca3 cc4 :: ro2 ca1 cc2 p0_arena.cell :: ro96 ca3 cc4 p0_arena.log :: rowH 135 1 own_ptr135 (.slice ca5 p0.live.length cc6) p0.live ix0_live cs0_live :: ro3 ca7 cc8 p0.run_Holders :: rn31 ca9 cc10 p0.run_Reads :: ro2 ca11 cc12 p0.run_Marks :: ro96 ca13 cc14 p0.run_Log :: ob137 B1 p1 :: pts b15 (.cells #[vI 0, vI 0, vI 0, vI 0, vI 0, vI 0, vI 0, vI 0, vI 0] 50) :: L)) _ := h.sel 11 [1, 7, 8, 9, 2, 3, 4, 5, 6, 10, 0] (by kernel_rfl) (by kernel_rfl)
    exact ⟨(), (p1.about == 0), sinj H, j, hr, h⟩
   ·
    replace H := ifF c21 H
    refine cond_ff hr (beq_eq_false_iff_ne.mpr c21) ?_
    refine wp_region_lit ?_
    refine oo [11, 9] [vB (p1.about == 2), vB (p1.about == 2)] hr fun a hr => ?_
    refine ln ?_
    replace hr := hr.fold2 [(0, pA B0 0), (1, pA B1 0), (4, pA b15 0), (8, vI p1.about), (9, vB (p1.about == 2))] (by kernel_rfl); obtain ⟨j, hr⟩ := hr
    replace h : Fit z (sepL (ob133 B0 p0 (pA B0_arena 0) (.slice va0_rounds p0_rounds.length vc0_rounds) ca5 cc6 ca7 cc8 ca9 cc10 ca11 cc12 ca13 cc14 :: ob103 B0_arena p0_arena ca1 cc2 ca3 cc4 :: ro2 ca1 cc2 p0_arena.cell :: ro96 ca3 cc4 p0_arena.log :: rowH 135 1 own_ptr135 (.slice ca5 p0.live.length cc6) p0.live ix0_live cs0_live :: ro3 ca7 cc8 p0.run_Holders :: rn31 ca9 cc10 p0.run_Reads :: ro2 ca11 cc12 p0.run_Marks :: ro96 ca13 cc14 p0.run_Log :: ob137 B1 p1 :: pts b15 (.cells #[vI 0, vI 0, vI 0, vI 0, vI 0, vI 0, vI 0, vI 0, vI 0] 50) :: L)) _ := h.sel 11 [1, 7, 8, 9, 2, 3, 4, 5, 6, 10, 0] (by kernel_rfl) (by kernel_rfl)
    exact ⟨(), (p1.about == 2), sinj H, j, hr, h⟩
  clear h hr a; rintro _ a w ⟨g18, rfl, j, hr, h⟩
  replace H := kk1 hK19
  by_cases c22 : g18 = true
  ·
   replace H := ifT c22 H
   refine cond_tt hr (c22) ?_
   refine sr ?_
   refine oo [12, 13, 14] [pA B0 0, pA B0 0, pA B0 1] hr fun a hr => ?_
   refine ldm (wn rfl) hr (.agg #[vI p0.table_Base, vI p0.table_Frames]) (cs := [vI p0.table_Base, vI p0.table_Frames]) (h.held 1 rfl) fun a hr => ?_
   obtain ⟨r23, e24, H⟩ := bd1 H
   have hc := frames_Alloc_ok (H := e24) (h := h)
   refine cl (wn rfl) hr hc ?_; clear hc h
   rintro _ w ⟨rfl, h⟩; refine ⟨_, rfl, fun a hr => ?_⟩
   replace h : Fit z (sepL (pts b15 (.cells #[vI 0, vI 0, vI 0, vI 0, vI 0, vI 0, vI 0, vI 0, vI 0] 50) :: ob133 B0 p0 (pA B0_arena 0) (.slice va0_rounds p0_rounds.length vc0_rounds) ca5 cc6 ca7 cc8 ca9 cc10 ca11 cc12 ca13 cc14 :: ob103 B0_arena p0_arena ca1 cc2 ca3 cc4 :: ro2 ca1 cc2 p0_arena.cell :: ro96 ca3 cc4 p0_arena.log :: rowH 135 1 own_ptr135 (.slice ca5 p0.live.length cc6) p0.live ix0_live cs0_live :: ro3 ca7 cc8 p0.run_Holders :: rn31 ca9 cc10 p0.run_Reads :: ro2 ca11 cc12 p0.run_Marks :: ro96 ca13 cc14 p0.run_Log :: ob137 B1 p1 :: L)) _ := h.sel 11 [10, 0, 1, 2, 3, 4, 5, 6, 7, 8, 9] (by kernel_rfl) (by kernel_rfl)
   refine stos (wn rfl) hr h 0 (cl_T_frames_Op r23) (ca_T_frames_Op r23) fun w h => ?_
   refine wpList_nil ?_
   replace h : Fit z (sepL (ob50 b15 r23 :: ob133 B0 p0 (pA B0_arena 0) (.slice va0_rounds p0_rounds.length vc0_rounds) ca5 cc6 ca7 cc8 ca9 cc10 ca11 cc12 ca13 cc14 :: ob103 B0_arena p0_arena ca1 cc2 ca3 cc4 :: ro2 ca1 cc2 p0_arena.cell :: ro96 ca3 cc4 p0_arena.log :: rowH 135 1 own_ptr135 (.slice ca5 p0.live.length cc6) p0.live ix0_live cs0_live :: ro3 ca7 cc8 p0.run_Holders :: rn31 ca9 cc10 p0.run_Reads :: ro2 ca11 cc12 p0.run_Marks :: ro96 ca13 cc14 p0.run_Log :: ob137 B1 p1 :: L)) _ := h
   refine then_normal ?_
   refine wp_ret ?_
   refine blk_ret ?_
   refine then_ret ?_
   refine end_retC (cs := cl_T_frames_Op r23) rfl hr (by kernel_rfl) (by kernel_rfl) (by kernel_rfl) (h.held 0 rfl) ?_
   replace H := jx0 H hK16
   replace h : Fit z (sepL (ob133 B0 p0 (pA B0_arena 0) (.slice va0_rounds p0_rounds.length vc0_rounds) ca5 cc6 ca7 cc8 ca9 cc10 ca11 cc12 ca13 cc14 :: rowH 135 1 own_ptr135 (.slice ca5 p0.live.length cc6) p0.live ix0_live cs0_live :: ro3 ca7 cc8 p0.run_Holders :: rn31 ca9 cc10 p0.run_Reads :: ro2 ca11 cc12 p0.run_Marks :: ro96 ca13 cc14 p0.run_Log :: ob103 B0_arena p0_arena ca1 cc2 ca3 cc4 :: ro2 ca1 cc2 p0_arena.cell :: ro96 ca3 cc4 p0_arena.log :: ob137 B1 p1 :: L)) _ := h.sel 11 [1, 5, 6, 7, 8, 9, 2, 3, 4, 10] (by kernel_rfl) (by kernel_rfl)
   replace H := ej1 H; subst H
   exact ⟨rfl, h⟩
  ·
   replace H := ifF c22 H
   refine cond_ff hr (bF c22) ?_
   refine sr ?_
   refine oo [18, 17] [vB (p1.about == 1), vB (p1.about == 1)] hr fun a hr => ?_
   refine ln ?_
   by_cases c25 : p1.about = 1
   ·
    replace H := ifT c25 H
    refine cond_tt hr (beq_iff_eq.mpr c25) ?_
    refine wp_seq ?_
    obtain ⟨r26, e27, H⟩ := bd1 H
    refine reg_E (fun w => heldC w B0 1 ([vI p0.table_Base, vI p0.table_Frames]) ∧ heldC w B1 12 ([vI p1.frame]) ∧ True) [1, 2, 5, 6] h (by kernel_rfl) ?_; intro w h
    change wpAnyE _ _ _ _ _ _ 10 (Array.replicate 10 false) a w
    have hgo : ∀ w w', CellsGo w w' → (heldC w B0 1 ([vI p0.table_Base, vI p0.table_Frames]) ∧ heldC w B1 12 ([vI p1.frame]) ∧ True) → heldC w' B0 1 ([vI p0.table_Base, vI p0.table_Frames]) ∧ heldC w' B1 12 ([vI p1.frame]) ∧ True := fun w w' g hD => ⟨heldC_go _ _ _ _ _ g hD.1, heldC_go _ _ _ _ _ g hD.2.1, trivial⟩
    refine evs 9 0 rfl (wn rfl) hr (pA B0 0) fun a hr => ?_
    refine evDs hgo ⟨(h.held 1 rfl), ⟨(h.pick 9).cell 12 rfl, trivial⟩, trivial⟩ 8 1 rfl (wn rfl) hr (pA B0 0) fun a hr => ?_
    refine evDs hgo ⟨(h.held 1 rfl), ⟨(h.pick 9).cell 12 rfl, trivial⟩, trivial⟩ 7 2 rfl (wn rfl) hr (pA B0 1) fun a hr => ?_
    refine evs 6 4 rfl (wn rfl) hr (pA B1 0) fun a hr => ?_
    refine evDs hgo ⟨(h.held 1 rfl), ⟨(h.pick 9).cell 12 rfl, trivial⟩, trivial⟩ 5 5 rfl (wn rfl) hr (pA B1 0) fun a hr => ?_
    refine evDs hgo ⟨(h.held 1 rfl), ⟨(h.pick 9).cell 12 rfl, trivial⟩, trivial⟩ 4 6 rfl (wn rfl) hr (pA B1 12) fun a hr => ?_
    refine el [1, 2, 5, 6] (b := B0) (off := 1) (cs := [vI p0.table_Base, vI p0.table_Frames]) (fun _ hk => ⟨hk, fun w hD => hD.1⟩) 3 3 rfl (by kernel_rfl) (wn rfl) hr (.agg #[vI p0.table_Base, vI p0.table_Frames]) (h.held 1 rfl) (fun w hc => rlm (cs := [vI p0.table_Base, vI p0.table_Frames]) rfl (by kernel_rfl) (by kernel_rfl) (by kernel_rfl) hc) fun a hr => ?_
    refine el [1, 2, 5, 6] (b := B1) (off := 12) (cs := [vI p1.frame]) (fun _ hk => ⟨hk, fun w hD => hD.2.1⟩) 2 7 rfl (by kernel_rfl) (wn rfl) hr (vI p1.frame) ⟨(h.pick 9).cell 12 rfl, trivial⟩ (fun w hc => rl rfl (by kernel_rfl) (by kernel_rfl) hc.1) fun a hr => ?_
    refine e_one (fuel := 1) (i := 8) (by kernel_rfl) rfl ?_
    have hc := frames_Start_ok (H := e27) (h := h)
    refine cl (wn rfl) hr hc ?_; clear hc h
    rintro _ w ⟨rfl, h⟩; refine ⟨_, rfl, fun a hr => ?_⟩
    refine wpList_nil ?_; refine then_normal ?_
    refine ⟨fun hE => absurd hE (by decide), ?_⟩
    refine e_one (fuel := 0) (i := 9) (by kernel_rfl) rfl ?_
    replace h : Fit z (sepL (pts b15 (.cells #[vI 0, vI 0, vI 0, vI 0, vI 0, vI 0, vI 0, vI 0, vI 0] 50) :: ob133 B0 p0 (pA B0_arena 0) (.slice va0_rounds p0_rounds.length vc0_rounds) ca5 cc6 ca7 cc8 ca9 cc10 ca11 cc12 ca13 cc14 :: ob103 B0_arena p0_arena ca1 cc2 ca3 cc4 :: ro2 ca1 cc2 p0_arena.cell :: ro96 ca3 cc4 p0_arena.log :: rowH 135 1 own_ptr135 (.slice ca5 p0.live.length cc6) p0.live ix0_live cs0_live :: ro3 ca7 cc8 p0.run_Holders :: rn31 ca9 cc10 p0.run_Reads :: ro2 ca11 cc12 p0.run_Marks :: ro96 ca13 cc14 p0.run_Log :: ob137 B1 p1 :: L)) _ := h.sel 11 [10, 0, 1, 2, 3, 4, 5, 6, 7, 8, 9] (by kernel_rfl) (by kernel_rfl)
    refine stos (wn rfl) hr h 0 (cl_T_frames_Op r26) (ca_T_frames_Op r26) fun w h => ?_
    refine wpList_nil ?_; refine then_normal ?_
    replace h : Fit z (sepL (ob50 b15 r26 :: ob133 B0 p0 (pA B0_arena 0) (.slice va0_rounds p0_rounds.length vc0_rounds) ca5 cc6 ca7 cc8 ca9 cc10 ca11 cc12 ca13 cc14 :: ob103 B0_arena p0_arena ca1 cc2 ca3 cc4 :: ro2 ca1 cc2 p0_arena.cell :: ro96 ca3 cc4 p0_arena.log :: rowH 135 1 own_ptr135 (.slice ca5 p0.live.length cc6) p0.live ix0_live cs0_live :: ro3 ca7 cc8 p0.run_Holders :: rn31 ca9 cc10 p0.run_Reads :: ro2 ca11 cc12 p0.run_Marks :: ro96 ca13 cc14 p0.run_Log :: ob137 B1 p1 :: L)) _ := h
    refine ⟨fun hE => absurd hE (by decide), ?_⟩
    refine e_end (by kernel_rfl) ?_
    refine then_normal ?_
    refine wp_ret ?_
    refine blk_ret ?_
    refine then_ret ?_
    refine end_retC (cs := cl_T_frames_Op r26) rfl hr (by kernel_rfl) (by kernel_rfl) (by kernel_rfl) (h.held 0 rfl) ?_
    replace H := jx0 H hK16
    replace h : Fit z (sepL (ob133 B0 p0 (pA B0_arena 0) (.slice va0_rounds p0_rounds.length vc0_rounds) ca5 cc6 ca7 cc8 ca9 cc10 ca11 cc12 ca13 cc14 :: rowH 135 1 own_ptr135 (.slice ca5 p0.live.length cc6) p0.live ix0_live cs0_live :: ro3 ca7 cc8 p0.run_Holders :: rn31 ca9 cc10 p0.run_Reads :: ro2 ca11 cc12 p0.run_Marks :: ro96 ca13 cc14 p0.run_Log :: ob103 B0_arena p0_arena ca1 cc2 ca3 cc4 :: ro2 ca1 cc2 p0_arena.cell :: ro96 ca3 cc4 p0_arena.log :: ob137 B1 p1 :: L)) _ := h.sel 11 [1, 5, 6, 7, 8, 9, 2, 3, 4, 10] (by kernel_rfl) (by kernel_rfl)
    replace H := ej1 H; subst H
    exact ⟨rfl, h⟩
   ·
    replace H := ifF c25 H
    refine cond_ff hr (beq_eq_false_iff_ne.mpr c25) ?_
    refine sr ?_
    refine oo [29, 28] [vB (p1.about == 3), vB (p1.about == 3)] hr fun a hr => ?_
    refine ln ?_
    by_cases c28 : p1.about = 3
    ·
     replace H := ifT c28 H
     refine cond_tt hr (beq_iff_eq.mpr c28) ?_
     refine sr ?_
     refine oo [30, 31, 32] [pA B0 0, pA B0 0, pA B0 1] hr fun a hr => ?_
     refine ldm (wn rfl) hr (.agg #[vI p0.table_Base, vI p0.table_Frames]) (cs := [vI p0.table_Base, vI p0.table_Frames]) (h.held 1 rfl) fun a hr => ?_
     obtain ⟨r29, e30, H⟩ := bd1 H
     have hc := frames_Fork_ok (H := e30) (h := h)
     refine cl (wn rfl) hr hc ?_; clear hc h
     rintro _ w ⟨rfl, h⟩; refine ⟨_, rfl, fun a hr => ?_⟩
     replace h : Fit z (sepL (pts b15 (.cells #[vI 0, vI 0, vI 0, vI 0, vI 0, vI 0, vI 0, vI 0, vI 0] 50) :: ob133 B0 p0 (pA B0_arena 0) (.slice va0_rounds p0_rounds.length vc0_rounds) ca5 cc6 ca7 cc8 ca9 cc10 ca11 cc12 ca13 cc14 :: ob103 B0_arena p0_arena ca1 cc2 ca3 cc4 :: ro2 ca1 cc2 p0_arena.cell :: ro96 ca3 cc4 p0_arena.log :: rowH 135 1 own_ptr135 (.slice ca5 p0.live.length cc6) p0.live ix0_live cs0_live :: ro3 ca7 cc8 p0.run_Holders :: rn31 ca9 cc10 p0.run_Reads :: ro2 ca11 cc12 p0.run_Marks :: ro96 ca13 cc14 p0.run_Log :: ob137 B1 p1 :: L)) _ := h.sel 11 [10, 0, 1, 2, 3, 4, 5, 6, 7, 8, 9] (by kernel_rfl) (by kernel_rfl)
     refine stos (wn rfl) hr h 0 (cl_T_frames_Op r29) (ca_T_frames_Op r29) fun w h => ?_
     refine wpList_nil ?_
     replace h : Fit z (sepL (ob50 b15 r29 :: ob133 B0 p0 (pA B0_arena 0) (.slice va0_rounds p0_rounds.length vc0_rounds) ca5 cc6 ca7 cc8 ca9 cc10 ca11 cc12 ca13 cc14 :: ob103 B0_arena p0_arena ca1 cc2 ca3 cc4 :: ro2 ca1 cc2 p0_arena.cell :: ro96 ca3 cc4 p0_arena.log :: rowH 135 1 own_ptr135 (.slice ca5 p0.live.length cc6) p0.live ix0_live cs0_live :: ro3 ca7 cc8 p0.run_Holders :: rn31 ca9 cc10 p0.run_Reads :: ro2 ca11 cc12 p0.run_Marks :: ro96 ca13 cc14 p0.run_Log :: ob137 B1 p1 :: L)) _ := h
     refine then_normal ?_
     refine wp_ret ?_
     refine blk_ret ?_
     refine then_ret ?_
     refine end_retC (cs := cl_T_frames_Op r29) rfl hr (by kernel_rfl) (by kernel_rfl) (by kernel_rfl) (h.held 0 rfl) ?_
     replace H := jx0 H hK16
     replace h : Fit z (sepL (ob133 B0 p0 (pA B0_arena 0) (.slice va0_rounds p0_rounds.length vc0_rounds) ca5 cc6 ca7 cc8 ca9 cc10 ca11 cc12 ca13 cc14 :: rowH 135 1 own_ptr135 (.slice ca5 p0.live.length cc6) p0.live ix0_live cs0_live :: ro3 ca7 cc8 p0.run_Holders :: rn31 ca9 cc10 p0.run_Reads :: ro2 ca11 cc12 p0.run_Marks :: ro96 ca13 cc14 p0.run_Log :: ob103 B0_arena p0_arena ca1 cc2 ca3 cc4 :: ro2 ca1 cc2 p0_arena.cell :: ro96 ca3 cc4 p0_arena.log :: ob137 B1 p1 :: L)) _ := h.sel 11 [1, 5, 6, 7, 8, 9, 2, 3, 4, 10] (by kernel_rfl) (by kernel_rfl)
     replace H := ej1 H; subst H
     exact ⟨rfl, h⟩
    ·
     replace H := ifF c28 H
     refine cond_ff hr (beq_eq_false_iff_ne.mpr c28) ?_
     refine sr ?_
     refine oo [36, 35] [vB (p1.about == 4), vB (p1.about == 4)] hr fun a hr => ?_
     refine ln ?_
     by_cases c31 : p1.about = 4
     ·
      replace H := ifT c31 H
      refine cond_tt hr (beq_iff_eq.mpr c31) ?_
      refine sr ?_
      refine oo [37, 38, 39] [pA B0 0, pA B0 0, pA B0 1] hr fun a hr => ?_
      refine ldm (wn rfl) hr (.agg #[vI p0.table_Base, vI p0.table_Frames]) (cs := [vI p0.table_Base, vI p0.table_Frames]) (h.held 1 rfl) fun a hr => ?_
      obtain ⟨r32, e33, H⟩ := bd1 H
      have hc := frames_Sync_ok (H := e33) (h := h)
      refine cl (wn rfl) hr hc ?_; clear hc h
      rintro _ w ⟨rfl, h⟩; refine ⟨_, rfl, fun a hr => ?_⟩
      replace h : Fit z (sepL (pts b15 (.cells #[vI 0, vI 0, vI 0, vI 0, vI 0, vI 0, vI 0, vI 0, vI 0] 50) :: ob133 B0 p0 (pA B0_arena 0) (.slice va0_rounds p0_rounds.length vc0_rounds) ca5 cc6 ca7 cc8 ca9 cc10 ca11 cc12 ca13 cc14 :: ob103 B0_arena p0_arena ca1 cc2 ca3 cc4 :: ro2 ca1 cc2 p0_arena.cell :: ro96 ca3 cc4 p0_arena.log :: rowH 135 1 own_ptr135 (.slice ca5 p0.live.length cc6) p0.live ix0_live cs0_live :: ro3 ca7 cc8 p0.run_Holders :: rn31 ca9 cc10 p0.run_Reads :: ro2 ca11 cc12 p0.run_Marks :: ro96 ca13 cc14 p0.run_Log :: ob137 B1 p1 :: L)) _ := h.sel 11 [10, 0, 1, 2, 3, 4, 5, 6, 7, 8, 9] (by kernel_rfl) (by kernel_rfl)
      refine stos (wn rfl) hr h 0 (cl_T_frames_Op r32) (ca_T_frames_Op r32) fun w h => ?_
      refine wpList_nil ?_
      replace h : Fit z (sepL (ob50 b15 r32 :: ob133 B0 p0 (pA B0_arena 0) (.slice va0_rounds p0_rounds.length vc0_rounds) ca5 cc6 ca7 cc8 ca9 cc10 ca11 cc12 ca13 cc14 :: ob103 B0_arena p0_arena ca1 cc2 ca3 cc4 :: ro2 ca1 cc2 p0_arena.cell :: ro96 ca3 cc4 p0_arena.log :: rowH 135 1 own_ptr135 (.slice ca5 p0.live.length cc6) p0.live ix0_live cs0_live :: ro3 ca7 cc8 p0.run_Holders :: rn31 ca9 cc10 p0.run_Reads :: ro2 ca11 cc12 p0.run_Marks :: ro96 ca13 cc14 p0.run_Log :: ob137 B1 p1 :: L)) _ := h
      refine then_normal ?_
      refine wp_ret ?_
      refine blk_ret ?_
      refine then_ret ?_
      refine end_retC (cs := cl_T_frames_Op r32) rfl hr (by kernel_rfl) (by kernel_rfl) (by kernel_rfl) (h.held 0 rfl) ?_
      replace H := jx0 H hK16
      replace h : Fit z (sepL (ob133 B0 p0 (pA B0_arena 0) (.slice va0_rounds p0_rounds.length vc0_rounds) ca5 cc6 ca7 cc8 ca9 cc10 ca11 cc12 ca13 cc14 :: rowH 135 1 own_ptr135 (.slice ca5 p0.live.length cc6) p0.live ix0_live cs0_live :: ro3 ca7 cc8 p0.run_Holders :: rn31 ca9 cc10 p0.run_Reads :: ro2 ca11 cc12 p0.run_Marks :: ro96 ca13 cc14 p0.run_Log :: ob103 B0_arena p0_arena ca1 cc2 ca3 cc4 :: ro2 ca1 cc2 p0_arena.cell :: ro96 ca3 cc4 p0_arena.log :: ob137 B1 p1 :: L)) _ := h.sel 11 [1, 5, 6, 7, 8, 9, 2, 3, 4, 10] (by kernel_rfl) (by kernel_rfl)
      replace H := ej1 H; subst H
      exact ⟨rfl, h⟩
     ·
      replace H := ifF c31 H
      refine cond_ff hr (beq_eq_false_iff_ne.mpr c31) ?_
      refine sr ?_
      refine oo [43, 42] [vB (p1.about == 5), vB (p1.about == 5)] hr fun a hr => ?_
      refine ln ?_
      by_cases c34 : p1.about = 5
      ·
       replace H := ifT c34 H
       refine cond_tt hr (beq_iff_eq.mpr c34) ?_
       refine wp_seq ?_
       obtain ⟨r35, e36, H⟩ := bd1 H
       refine reg_E (fun w => heldC w B0 1 ([vI p0.table_Base, vI p0.table_Frames]) ∧ heldC w B1 13 ([vI p1.slot]) ∧ heldC w B1 14 ([vI p1.value]) ∧ True) [1, 2, 5, 6, 9, 10] h (by kernel_rfl) ?_; intro w h
       change wpAnyE _ _ _ _ _ _ 14 (Array.replicate 14 false) a w
       have hgo : ∀ w w', CellsGo w w' → (heldC w B0 1 ([vI p0.table_Base, vI p0.table_Frames]) ∧ heldC w B1 13 ([vI p1.slot]) ∧ heldC w B1 14 ([vI p1.value]) ∧ True) → heldC w' B0 1 ([vI p0.table_Base, vI p0.table_Frames]) ∧ heldC w' B1 13 ([vI p1.slot]) ∧ heldC w' B1 14 ([vI p1.value]) ∧ True := fun w w' g hD => ⟨heldC_go _ _ _ _ _ g hD.1, heldC_go _ _ _ _ _ g hD.2.1, heldC_go _ _ _ _ _ g hD.2.2.1, trivial⟩
       refine evs 13 0 rfl (wn rfl) hr (pA B0 0) fun a hr => ?_
       refine evDs hgo ⟨(h.held 1 rfl), ⟨(h.pick 9).cell 13 rfl, trivial⟩, ⟨(h.pick 9).cell 14 rfl, trivial⟩, trivial⟩ 12 1 rfl (wn rfl) hr (pA B0 0) fun a hr => ?_
       refine evDs hgo ⟨(h.held 1 rfl), ⟨(h.pick 9).cell 13 rfl, trivial⟩, ⟨(h.pick 9).cell 14 rfl, trivial⟩, trivial⟩ 11 2 rfl (wn rfl) hr (pA B0 1) fun a hr => ?_
       refine evs 10 4 rfl (wn rfl) hr (pA B1 0) fun a hr => ?_
       refine evDs hgo ⟨(h.held 1 rfl), ⟨(h.pick 9).cell 13 rfl, trivial⟩, ⟨(h.pick 9).cell 14 rfl, trivial⟩, trivial⟩ 9 5 rfl (wn rfl) hr (pA B1 0) fun a hr => ?_
       refine evDs hgo ⟨(h.held 1 rfl), ⟨(h.pick 9).cell 13 rfl, trivial⟩, ⟨(h.pick 9).cell 14 rfl, trivial⟩, trivial⟩ 8 6 rfl (wn rfl) hr (pA B1 13) fun a hr => ?_
       refine evs 7 8 rfl (wn rfl) hr (pA B1 0) fun a hr => ?_
       refine evDs hgo ⟨(h.held 1 rfl), ⟨(h.pick 9).cell 13 rfl, trivial⟩, ⟨(h.pick 9).cell 14 rfl, trivial⟩, trivial⟩ 6 9 rfl (wn rfl) hr (pA B1 0) fun a hr => ?_
       refine evDs hgo ⟨(h.held 1 rfl), ⟨(h.pick 9).cell 13 rfl, trivial⟩, ⟨(h.pick 9).cell 14 rfl, trivial⟩, trivial⟩ 5 10 rfl (wn rfl) hr (pA B1 14) fun a hr => ?_
       refine el [1, 2, 5, 6, 9, 10] (b := B0) (off := 1) (cs := [vI p0.table_Base, vI p0.table_Frames]) (fun _ hk => ⟨hk, fun w hD => hD.1⟩) 4 3 rfl (by kernel_rfl) (wn rfl) hr (.agg #[vI p0.table_Base, vI p0.table_Frames]) (h.held 1 rfl) (fun w hc => rlm (cs := [vI p0.table_Base, vI p0.table_Frames]) rfl (by kernel_rfl) (by kernel_rfl) (by kernel_rfl) hc) fun a hr => ?_
       refine el [1, 2, 5, 6, 9, 10] (b := B1) (off := 13) (cs := [vI p1.slot]) (fun _ hk => ⟨hk, fun w hD => hD.2.1⟩) 3 7 rfl (by kernel_rfl) (wn rfl) hr (vI p1.slot) ⟨(h.pick 9).cell 13 rfl, trivial⟩ (fun w hc => rl rfl (by kernel_rfl) (by kernel_rfl) hc.1) fun a hr => ?_
       refine el [1, 2, 5, 6, 9, 10] (b := B1) (off := 14) (cs := [vI p1.value]) (fun _ hk => ⟨hk, fun w hD => hD.2.2.1⟩) 2 11 rfl (by kernel_rfl) (wn rfl) hr (vI p1.value) ⟨(h.pick 9).cell 14 rfl, trivial⟩ (fun w hc => rl rfl (by kernel_rfl) (by kernel_rfl) hc.1) fun a hr => ?_
       refine e_one (fuel := 1) (i := 12) (by kernel_rfl) rfl ?_
       have hc := frames_Finish_ok (H := e36) (h := h)
       refine cl (wn rfl) hr hc ?_; clear hc h
       rintro _ w ⟨rfl, h⟩; refine ⟨_, rfl, fun a hr => ?_⟩
       refine wpList_nil ?_; refine then_normal ?_
       refine ⟨fun hE => absurd hE (by decide), ?_⟩
       refine e_one (fuel := 0) (i := 13) (by kernel_rfl) rfl ?_
       replace h : Fit z (sepL (pts b15 (.cells #[vI 0, vI 0, vI 0, vI 0, vI 0, vI 0, vI 0, vI 0, vI 0] 50) :: ob133 B0 p0 (pA B0_arena 0) (.slice va0_rounds p0_rounds.length vc0_rounds) ca5 cc6 ca7 cc8 ca9 cc10 ca11 cc12 ca13 cc14 :: ob103 B0_arena p0_arena ca1 cc2 ca3 cc4 :: ro2 ca1 cc2 p0_arena.cell :: ro96 ca3 cc4 p0_arena.log :: rowH 135 1 own_ptr135 (.slice ca5 p0.live.length cc6) p0.live ix0_live cs0_live :: ro3 ca7 cc8 p0.run_Holders :: rn31 ca9 cc10 p0.run_Reads :: ro2 ca11 cc12 p0.run_Marks :: ro96 ca13 cc14 p0.run_Log :: ob137 B1 p1 :: L)) _ := h.sel 11 [10, 0, 1, 2, 3, 4, 5, 6, 7, 8, 9] (by kernel_rfl) (by kernel_rfl)
       refine stos (wn rfl) hr h 0 (cl_T_frames_Op r35) (ca_T_frames_Op r35) fun w h => ?_
       refine wpList_nil ?_; refine then_normal ?_
       replace h : Fit z (sepL (ob50 b15 r35 :: ob133 B0 p0 (pA B0_arena 0) (.slice va0_rounds p0_rounds.length vc0_rounds) ca5 cc6 ca7 cc8 ca9 cc10 ca11 cc12 ca13 cc14 :: ob103 B0_arena p0_arena ca1 cc2 ca3 cc4 :: ro2 ca1 cc2 p0_arena.cell :: ro96 ca3 cc4 p0_arena.log :: rowH 135 1 own_ptr135 (.slice ca5 p0.live.length cc6) p0.live ix0_live cs0_live :: ro3 ca7 cc8 p0.run_Holders :: rn31 ca9 cc10 p0.run_Reads :: ro2 ca11 cc12 p0.run_Marks :: ro96 ca13 cc14 p0.run_Log :: ob137 B1 p1 :: L)) _ := h
       refine ⟨fun hE => absurd hE (by decide), ?_⟩
       refine e_end (by kernel_rfl) ?_
       refine then_normal ?_
       refine wp_ret ?_
       refine blk_ret ?_
       refine then_ret ?_
       refine end_retC (cs := cl_T_frames_Op r35) rfl hr (by kernel_rfl) (by kernel_rfl) (by kernel_rfl) (h.held 0 rfl) ?_
       replace H := jx0 H hK16
       replace h : Fit z (sepL (ob133 B0 p0 (pA B0_arena 0) (.slice va0_rounds p0_rounds.length vc0_rounds) ca5 cc6 ca7 cc8 ca9 cc10 ca11 cc12 ca13 cc14 :: rowH 135 1 own_ptr135 (.slice ca5 p0.live.length cc6) p0.live ix0_live cs0_live :: ro3 ca7 cc8 p0.run_Holders :: rn31 ca9 cc10 p0.run_Reads :: ro2 ca11 cc12 p0.run_Marks :: ro96 ca13 cc14 p0.run_Log :: ob103 B0_arena p0_arena ca1 cc2 ca3 cc4 :: ro2 ca1 cc2 p0_arena.cell :: ro96 ca3 cc4 p0_arena.log :: ob137 B1 p1 :: L)) _ := h.sel 11 [1, 5, 6, 7, 8, 9, 2, 3, 4, 10] (by kernel_rfl) (by kernel_rfl)
       replace H := ej1 H; subst H
       exact ⟨rfl, h⟩
      ·
       replace H := ifF c34 H
       refine cond_ff hr (beq_eq_false_iff_ne.mpr c34) ?_
       refine wp_skip ?_
       refine blk_normal ?_
       refine then_normal ?_
       replace hr := hr.fold2 [(0, pA B0 0), (1, pA B1 0), (4, pA b15 0)] (by kernel_rfl); obtain ⟨j, hr⟩ := hr
       exact ⟨(), sinj H, j, hr, h⟩
 clear h hr a; rintro _ a w ⟨rfl, j, hr, h⟩
 replace H := jk0 hK16
 refine wp_seq ?_
 obtain ⟨r37, e38, H⟩ := bd1 H
 refine reg_E (fun w => heldC w B0 1 ([vI p0.table_Base, vI p0.table_Frames]) ∧ heldC w B1 15 ([vI p1.at_]) ∧ True) [1, 2, 5, 6] h (by kernel_rfl) ?_; intro w h
 change wpAnyE _ _ _ _ _ _ 10 (Array.replicate 10 false) a w
 have hgo : ∀ w w', CellsGo w w' → (heldC w B0 1 ([vI p0.table_Base, vI p0.table_Frames]) ∧ heldC w B1 15 ([vI p1.at_]) ∧ True) → heldC w' B0 1 ([vI p0.table_Base, vI p0.table_Frames]) ∧ heldC w' B1 15 ([vI p1.at_]) ∧ True := fun w w' g hD => ⟨heldC_go _ _ _ _ _ g hD.1, heldC_go _ _ _ _ _ g hD.2.1, trivial⟩
 refine evs 9 0 rfl (wn rfl) hr (pA B0 0) fun a hr => ?_
 refine evDs hgo ⟨(h.held 1 rfl), ⟨(h.pick 9).cell 15 rfl, trivial⟩, trivial⟩ 8 1 rfl (wn rfl) hr (pA B0 0) fun a hr => ?_
 refine evDs hgo ⟨(h.held 1 rfl), ⟨(h.pick 9).cell 15 rfl, trivial⟩, trivial⟩ 7 2 rfl (wn rfl) hr (pA B0 1) fun a hr => ?_
 refine evs 6 4 rfl (wn rfl) hr (pA B1 0) fun a hr => ?_
 refine evDs hgo ⟨(h.held 1 rfl), ⟨(h.pick 9).cell 15 rfl, trivial⟩, trivial⟩ 5 5 rfl (wn rfl) hr (pA B1 0) fun a hr => ?_
 refine evDs hgo ⟨(h.held 1 rfl), ⟨(h.pick 9).cell 15 rfl, trivial⟩, trivial⟩ 4 6 rfl (wn rfl) hr (pA B1 15) fun a hr => ?_
 refine el [1, 2, 5, 6] (b := B0) (off := 1) (cs := [vI p0.table_Base, vI p0.table_Frames]) (fun _ hk => ⟨hk, fun w hD => hD.1⟩) 3 3 rfl (by kernel_rfl) (wn rfl) hr (.agg #[vI p0.table_Base, vI p0.table_Frames]) (h.held 1 rfl) (fun w hc => rlm (cs := [vI p0.table_Base, vI p0.table_Frames]) rfl (by kernel_rfl) (by kernel_rfl) (by kernel_rfl) hc) fun a hr => ?_
 refine el [1, 2, 5, 6] (b := B1) (off := 15) (cs := [vI p1.at_]) (fun _ hk => ⟨hk, fun w hD => hD.2.1⟩) 2 7 rfl (by kernel_rfl) (wn rfl) hr (vI p1.at_) ⟨(h.pick 9).cell 15 rfl, trivial⟩ (fun w hc => rl rfl (by kernel_rfl) (by kernel_rfl) hc.1) fun a hr => ?_
 refine e_one (fuel := 1) (i := 8) (by kernel_rfl) rfl ?_
 have hc := frames_Fetch_ok (H := e38) (h := h)
 refine cl (wn rfl) hr hc ?_; clear hc h
 rintro _ w ⟨rfl, h⟩; refine ⟨_, rfl, fun a hr => ?_⟩
 refine wpList_nil ?_; refine then_normal ?_
 refine ⟨fun hE => absurd hE (by decide), ?_⟩
 refine e_one (fuel := 0) (i := 9) (by kernel_rfl) rfl ?_
 replace h : Fit z (sepL (pts b15 (.cells #[vI 0, vI 0, vI 0, vI 0, vI 0, vI 0, vI 0, vI 0, vI 0] 50) :: ob133 B0 p0 (pA B0_arena 0) (.slice va0_rounds p0_rounds.length vc0_rounds) ca5 cc6 ca7 cc8 ca9 cc10 ca11 cc12 ca13 cc14 :: ob103 B0_arena p0_arena ca1 cc2 ca3 cc4 :: ro2 ca1 cc2 p0_arena.cell :: ro96 ca3 cc4 p0_arena.log :: rowH 135 1 own_ptr135 (.slice ca5 p0.live.length cc6) p0.live ix0_live cs0_live :: ro3 ca7 cc8 p0.run_Holders :: rn31 ca9 cc10 p0.run_Reads :: ro2 ca11 cc12 p0.run_Marks :: ro96 ca13 cc14 p0.run_Log :: ob137 B1 p1 :: L)) _ := h.sel 11 [10, 0, 1, 2, 3, 4, 5, 6, 7, 8, 9] (by kernel_rfl) (by kernel_rfl)
 refine stos (wn rfl) hr h 0 (cl_T_frames_Op r37) (ca_T_frames_Op r37) fun w h => ?_
 refine wpList_nil ?_; refine then_normal ?_
 replace h : Fit z (sepL (ob50 b15 r37 :: ob133 B0 p0 (pA B0_arena 0) (.slice va0_rounds p0_rounds.length vc0_rounds) ca5 cc6 ca7 cc8 ca9 cc10 ca11 cc12 ca13 cc14 :: ob103 B0_arena p0_arena ca1 cc2 ca3 cc4 :: ro2 ca1 cc2 p0_arena.cell :: ro96 ca3 cc4 p0_arena.log :: rowH 135 1 own_ptr135 (.slice ca5 p0.live.length cc6) p0.live ix0_live cs0_live :: ro3 ca7 cc8 p0.run_Holders :: rn31 ca9 cc10 p0.run_Reads :: ro2 ca11 cc12 p0.run_Marks :: ro96 ca13 cc14 p0.run_Log :: ob137 B1 p1 :: L)) _ := h
 refine ⟨fun hE => absurd hE (by decide), ?_⟩
 refine e_end (by kernel_rfl) ?_
 refine then_normal ?_
 refine wp_ret ?_
 refine end_retC (cs := cl_T_frames_Op r37) rfl hr (by kernel_rfl) (by kernel_rfl) (by kernel_rfl) (h.held 0 rfl) ?_
 replace h : Fit z (sepL (ob133 B0 p0 (pA B0_arena 0) (.slice va0_rounds p0_rounds.length vc0_rounds) ca5 cc6 ca7 cc8 ca9 cc10 ca11 cc12 ca13 cc14 :: rowH 135 1 own_ptr135 (.slice ca5 p0.live.length cc6) p0.live ix0_live cs0_live :: ro3 ca7 cc8 p0.run_Holders :: rn31 ca9 cc10 p0.run_Reads :: ro2 ca11 cc12 p0.run_Marks :: ro96 ca13 cc14 p0.run_Log :: ob103 B0_arena p0_arena ca1 cc2 ca3 cc4 :: ro2 ca1 cc2 p0_arena.cell :: ro96 ca3 cc4 p0_arena.log :: ob137 B1 p1 :: L)) _ := h.sel 11 [1, 5, 6, 7, 8, 9, 2, 3, 4, 10] (by kernel_rfl) (by kernel_rfl)
 replace H := ej1 H; subst H
 exact ⟨rfl, h⟩

/-- (*plunder/cells.Arena).Who -/
def cells_Arena_Who (p0 : T_cells_Arena) (p1 : Int) : Option (T_cells_Arena) :=
  some ({ p0 with actor := p1 })

set_option maxRecDepth 100000 in
set_option maxHeartbeats 4000000 in
theorem cells_Arena_Who_ok {z w : World} {L : List HProp} {p0 : T_cells_Arena} {p1 : Int} {B0 : Nat} {ca1 : Option Addr} {cc2 : Nat} {ca3 : Option Addr} {cc4 : Nat} {q0 : T_cells_Arena} (H : cells_Arena_Who p0 p1 = some q0) (h : Fit z (sepL (ob103 B0 p0 ca1 cc2 ca3 cc4 :: ro2 ca1 cc2 p0.cell :: ro96 ca3 cc4 p0.log :: L)) w)  :
    Calls Try.prog 39 #[pA B0 0, vI p1] w fun e w => ∃ caq0_1 : Option Addr, ∃ ccq0_2 : Nat, ∃ caq0_3 : Option Addr, ∃ ccq0_4 : Nat, e = .returned (.tuple #[]) ∧ Fit z (sepL (ob103 B0 q0 caq0_1 ccq0_2 caq0_3 ccq0_4 :: ro2 caq0_1 ccq0_2 q0.cell :: ro96 caq0_3 ccq0_4 q0.log :: L)) w := by
 unfold cells_Arena_Who at H
 refine enter Try.func39 rfl 10 rfl rfl [(0, pA B0 0), (1, vI p1)] ⟨rfl, rfl, trivial⟩ ?_
 intro j a hr
 refine sr ?_
 refine oo [4, 5] [pA B0 0, vB true] hr fun a hr => ?_
 refine ln ?_
 refine cond_tt hr (b := true) rfl ?_
 refine wp_region_lit ?_
 refine oo [6, 7, 8, 9] [pA B0 0, vI p1, pA B0 0, pA B0 4] hr fun a hr => ?_
 refine sto (wn rfl) hr h 4 (vI p1) fun w h => ?_
 refine wpList_nil ?_
 replace h : Fit z (sepL (pts B0 (.cells #[vI p0.ledger_size, vI p0.ledger_mark, .slice ca1 p0.cell.length cc2, .slice ca3 p0.log.length cc4, vI p1, vB p0.watched] 103) :: ro2 ca1 cc2 p0.cell :: ro96 ca3 cc4 p0.log :: L)) _ := h
 refine end_norm0 rfl hr ?_
 replace H := ej1 H; subst H
 exact ⟨ca1, cc2, ca3, cc4, rfl, h⟩

/-- (plunder/frames.Table).next -/
def frames_Table__next (p0 : T_frames_Table) : Option (Int) :=
  some p0.Base

set_option maxRecDepth 100000 in
set_option maxHeartbeats 4000000 in
theorem frames_Table__next_ok {z w : World} {L : List HProp} {p0 : T_frames_Table} {r0 : Int} (H : frames_Table__next p0 = some r0) (h : Fit z (sepL (L)) w)  :
    Calls Try.prog 98 #[ag_T_frames_Table p0] w fun e w => e = .returned (vI r0) ∧ Fit z (sepL (L)) w := by
 unfold frames_Table__next at H
 refine enter Try.func98 rfl 5 rfl rfl [(0, ag_T_frames_Table p0)] ⟨rfl, trivial⟩ ?_
 intro j a hr
 refine sr ?_
 refine onew (wn rfl) hr h nb (ca_T_frames_Table p0) 39 fun b1 w a h hr => ?_
 refine o1 hr (vI 0) fun a hr => ?_
 refine ln ?_
 refine sr ?_
 refine o1 hr (pA b1 0) fun a hr => ?_
 refine ld (wn rfl) hr (vI p0.Base) (h.cell 0 rfl) fun a hr => ?_
 refine o1 hr (vI p0.Base) fun a hr => ?_
 refine ln ?_
 refine wp_ret ?_
 refine end_ret1 (v := vI p0.Base) rfl hr (by kernel_rfl) ?_
 replace h : Fit z (sepL (L)) _ := h.sel 1 [] (by kernel_rfl) (by kernel_rfl)
 replace H := ej1 H; subst H
 exact ⟨rfl, h⟩

/-- (*plunder/cells.Arena).Add -/
def cells_Arena_Add (p0 : T_cells_Arena) (p1 : Int) (p2 : Int) : Option (Int × Int × T_cells_Arena) :=
  ob1 (cells_Arena_outside p0 p1) (fun r5 => (if r5 = true then some (0, 20, p0) else if inr_ p1 p0.cell.length then if inr_ p1 (p0.cell.set p1.toNat (wi ((at_ p0.cell p1.toNat) + p2))).length then ob1 (cells_Arena_note ({ p0 with cell := p0.cell.set p1.toNat (wi ((at_ p0.cell p1.toNat) + p2)) }) 3 p1 p2 (wi ((at_ p0.cell p1.toNat) + p2)) true) (fun S11 => if inr_ p1 S11.cell.length then some ((at_ S11.cell p1.toNat), 0, S11) else none) else none else none))

set_option maxRecDepth 100000 in
set_option maxHeartbeats 4000000 in
theorem cells_Arena_Add_ok {z w : World} {L : List HProp} {p0 : T_cells_Arena} {p1 : Int} {p2 : Int} {B0 : Nat} {ca1 : Option Addr} {cc2 : Nat} {ca3 : Option Addr} {cc4 : Nat} {r0 : Int} {r1 : Int} {q0 : T_cells_Arena} (H : cells_Arena_Add p0 p1 p2 = some (r0, r1, q0)) (h : Fit z (sepL (ob103 B0 p0 ca1 cc2 ca3 cc4 :: ro2 ca1 cc2 p0.cell :: ro96 ca3 cc4 p0.log :: L)) w)  :
    Calls Try.prog 122 #[pA B0 0, vI p1, vI p2] w fun e w => ∃ caq0_1 : Option Addr, ∃ ccq0_2 : Nat, ∃ caq0_3 : Option Addr, ∃ ccq0_4 : Nat, e = .returned (.tuple #[vI r0, vI r1]) ∧ Fit z (sepL (ob103 B0 q0 caq0_1 ccq0_2 caq0_3 ccq0_4 :: ro2 caq0_1 ccq0_2 q0.cell :: ro96 caq0_3 ccq0_4 q0.log :: L)) w := by
 unfold cells_Arena_Add at H
 refine enter Try.func122 rfl 39 rfl rfl [(0, pA B0 0), (1, vI p1), (2, vI p2)] ⟨rfl, rfl, rfl, trivial⟩ ?_
 intro j a hr
 refine sr ?_
 refine oo [6, 7] [vI 0, vI 0] hr fun a hr => ?_
 refine ln ?_
 refine wp_seq ?_
 refine sr ?_
 obtain ⟨r5, e6, H⟩ := bd1 H
 refine oo [8, 9] [pA B0 0, vI p1] hr fun a hr => ?_
 have hc := cells_Arena_outside_ok (H := e6) (h := h)
 refine cl (wn rfl) hr hc ?_; clear hc h
 rintro _ w ⟨rfl, h⟩; refine ⟨_, rfl, fun a hr => ?_⟩
 refine ln ?_
 by_cases c7 : r5 = true
 ·
  replace H := ifT c7 H
  refine cond_tt hr (c7) ?_
  refine sr ?_
  refine oo [6, 7] [vI 0, vI 20] hr fun a hr => ?_
  refine ln ?_
  refine wp_ret ?_
  refine then_ret ?_
  refine end_ret2 (v := vI 0) (v' := vI 20) rfl hr (by kernel_rfl) (by kernel_rfl) ?_
  obtain ⟨rfl, rfl, rfl⟩ := ej3 H
  exact ⟨ca1, cc2, ca3, cc4, rfl, h⟩
 ·
  replace H := ifF c7 H
  refine cond_ff hr (bF c7) ?_
  refine wp_skip ?_
  refine then_normal ?_
  refine sr ?_
  refine oo [11, 12, 13] [pA B0 0, pA B0 0, pA B0 2] hr fun a hr => ?_
  refine ld (wn rfl) hr (.slice ca1 p0.cell.length cc2) (h.cell 2 rfl) fun a hr => ?_
  obtain ⟨c8, H⟩ := gd H
  refine o1 hr (vI p1) fun a hr => ?_
  refine opv (wn rfl) hr (pA (blk ca1) (p1.toNat * 1)) (ri_row (k := .i64) (E := 2) rfl (by kernel_rfl) (by kernel_rfl) (by kernel_rfl) (by kernel_rfl) (h.pick 1) c8) fun a hr => ?_
  refine ld (wn rfl) hr (vI (at_ p0.cell p1.toNat)) ((h.pick 1).row_cell encZ_i64_ok (f := 0) (at_ok c8) rfl) fun a hr => ?_
  refine oo [18, 19] [vI p2, vI (wi ((at_ p0.cell p1.toNat) + p2))] hr fun a hr => ?_
  refine opv (wn rfl) hr (pA (blk ca1) (p1.toNat * 1)) (ri_row (k := .i64) (E := 2) rfl (by kernel_rfl) (by kernel_rfl) (by kernel_rfl) (by kernel_rfl) (h.pick 1) c8) fun a hr => ?_
  replace h : Fit z (sepL (ro2 ca1 cc2 p0.cell :: ob103 B0 p0 ca1 cc2 ca3 cc4 :: ro96 ca3 cc4 p0.log :: L)) _ := h.sel 3 [1, 0, 2] (by kernel_rfl) (by kernel_rfl)
  refine stor (wn rfl) hr encZ_i64_ok h p1.toNat 0 (vI (wi ((at_ p0.cell p1.toNat) + p2))) (at_ p0.cell p1.toNat) (wi ((at_ p0.cell p1.toNat) + p2)) (at_ok c8) fun w h => ?_
  replace h : Fit z (sepL (rowOf 2 1 encZ_i64 (.slice ca1 p0.cell.length cc2) (p0.cell.set p1.toNat (wi ((at_ p0.cell p1.toNat) + p2))) :: ob103 B0 p0 ca1 cc2 ca3 cc4 :: ro96 ca3 cc4 p0.log :: L)) _ := h
  refine ln ?_
  refine sr ?_
  refine oo [21, 22, 23, 24, 25, 26] [pA B0 0, vI p1, vI p2, pA B0 0, pA B0 0, pA B0 2] hr fun a hr => ?_
  refine ld (wn rfl) hr (.slice ca1 p0.cell.length cc2) ((h.pick 1).cell 2 rfl) fun a hr => ?_
  obtain ⟨c9, H⟩ := gd H
  refine o1 hr (vI p1) fun a hr => ?_
  refine opv (wn rfl) hr (pA (blk ca1) (p1.toNat * 1)) (ri_row (k := .i64) (E := 2) rfl (by kernel_rfl) (by kernel_rfl) (by kernel_rfl) (by kernel_rfl) h c9) fun a hr => ?_
  refine ld (wn rfl) hr (vI (wi ((at_ p0.cell p1.toNat) + p2))) (h.row_cell encZ_i64_ok (f := 0) (get_set ((at_okL (by simpa [inr_] using c9)))) rfl) fun a hr => ?_
  have hn9 := h.row_n
  replace h : Fit z (sepL (ro2 ca1 cc2 (p0.cell.set p1.toNat (wi ((at_ p0.cell p1.toNat) + p2))) :: pts B0 (.cells #[vI p0.ledger_size, vI p0.ledger_mark, .slice ca1 (p0.cell.set p1.toNat (wi ((at_ p0.cell p1.toNat) + p2))).length cc2, .slice ca3 p0.log.length cc4, vI p0.actor, vB p0.watched] 103) :: ro96 ca3 cc4 p0.log :: L)) w := (congrArg (fun q_ : Nat => Fit z (sepL (rowOf 2 1 encZ_i64 (.slice ca1 q_ cc2) (p0.cell.set p1.toNat (wi ((at_ p0.cell p1.toNat) + p2))) :: pts B0 (.cells #[vI p0.ledger_size, vI p0.ledger_mark, .slice ca1 q_ cc2, .slice ca3 p0.log.length cc4, vI p0.actor, vB p0.watched] 103) :: ro96 ca3 cc4 p0.log :: L)) w) h.row_n).mp h
  obtain ⟨S11, e12, H⟩ := bd1 H
  replace h : Fit z (sepL (pts B0 (.cells #[vI p0.ledger_size, vI p0.ledger_mark, .slice ca1 (p0.cell.set p1.toNat (wi ((at_ p0.cell p1.toNat) + p2))).length cc2, .slice ca3 p0.log.length cc4, vI p0.actor, vB p0.watched] 103) :: ro2 ca1 cc2 (p0.cell.set p1.toNat (wi ((at_ p0.cell p1.toNat) + p2))) :: ro96 ca3 cc4 p0.log :: L)) _ := h.sel 3 [1, 0, 2] (by kernel_rfl) (by kernel_rfl)
  have hc := cells_Arena_note_ok (H := e12) (h := h)
  refine cl (wn rfl) hr hc ?_; clear hc h
  rintro _ w ⟨caq13, ccq14, caq15, ccq16, rfl, h⟩; refine ⟨_, rfl, fun a hr => ?_⟩
  refine ln ?_
  refine sr ?_
  refine oo [32, 33, 34] [pA B0 0, pA B0 0, pA B0 2] hr fun a hr => ?_
  refine ld (wn rfl) hr (.slice caq13 S11.cell.length ccq14) (h.cell 2 rfl) fun a hr => ?_
  obtain ⟨c17, H⟩ := gd H
  refine o1 hr (vI p1) fun a hr => ?_
  refine opv (wn rfl) hr (pA (blk caq13) (p1.toNat * 1)) (ri_row (k := .i64) (E := 2) rfl (by kernel_rfl) (by kernel_rfl) (by kernel_rfl) (by kernel_rfl) (h.pick 1) c17) fun a hr => ?_
  refine ld (wn rfl) hr (vI (at_ S11.cell p1.toNat)) ((h.pick 1).row_cell encZ_i64_ok (f := 0) (at_ok c17) rfl) fun a hr => ?_
  refine oo [6, 7] [vI (at_ S11.cell p1.toNat), vI 0] hr fun a hr => ?_
  refine ln ?_
  refine wp_ret ?_
  refine end_ret2 (v := vI (at_ S11.cell p1.toNat)) (v' := vI 0) rfl hr (by kernel_rfl) (by kernel_rfl) ?_
  obtain ⟨rfl, rfl, rfl⟩ := ej3 H
  exact ⟨caq13, ccq14, caq15, ccq16, rfl, h⟩

/-- (*plunder/frames.head).end -/
def frames_head_end (p0 : T_frames_Op) (p1 : Int) (p2 : Int) : Option (T_frames_Op) :=
  some ({ p0 with head_stands := 0, head_code := p1, head_v := p2 })

set_option maxRecDepth 100000 in
set_option maxHeartbeats 4000000 in
theorem frames_head_end_ok {z w : World} {L : List HProp} {p0 : T_frames_Op} {p1 : Int} {p2 : Int} {B0 : Nat} {q0 : T_frames_Op} (H : frames_head_end p0 p1 p2 = some q0) (h : Fit z (sepL (ob50 B0 p0 :: L)) w)  :
    Calls Try.prog 56 #[pA B0 0, vI p1, vI p2] w fun e w => e = .returned (.tuple #[]) ∧ Fit z (sepL (ob50 B0 q0 :: L)) w := by
 unfold frames_head_end at H
 refine enter Try.func56 rfl 17 rfl rfl [(0, pA B0 0), (1, vI p1), (2, vI p2)] ⟨rfl, rfl, rfl, trivial⟩ ?_
 intro j a hr
 refine sr ?_
 refine oo [6, 7, 8] [pA B0 0, pA B0 0, pA B0 3] hr fun a hr => ?_
 refine sto (wn rfl) hr h 3 (vI 0) fun w h => ?_
 refine wpList_nil ?_
 replace h : Fit z (sepL (pts B0 (.cells #[vI p0.head_t_Base, vI p0.head_t_Frames, vI p0.head_frame, vI 0, vI p0.head_code, vI p0.head_v, vI p0.kind, vI p0.slot, vI p0.give] 50) :: L)) _ := h
 refine then_normal ?_
 refine sr ?_
 refine oo [9, 10, 11, 12] [pA B0 0, vI p1, pA B0 0, pA B0 4] hr fun a hr => ?_
 refine sto (wn rfl) hr h 4 (vI p1) fun w h => ?_
 refine wpList_nil ?_
 replace h : Fit z (sepL (pts B0 (.cells #[vI p0.head_t_Base, vI p0.head_t_Frames, vI p0.head_frame, vI 0, vI p1, vI p0.head_v, vI p0.kind, vI p0.slot, vI p0.give] 50) :: L)) _ := h
 refine then_normal ?_
 refine wp_region_lit ?_
 refine oo [13, 14, 15, 16] [pA B0 0, vI p2, pA B0 0, pA B0 5] hr fun a hr => ?_
 refine sto (wn rfl) hr h 5 (vI p2) fun w h => ?_
 refine wpList_nil ?_
 replace h : Fit z (sepL (pts B0 (.cells #[vI p0.head_t_Base, vI p0.head_t_Frames, vI p0.head_frame, vI 0, vI p1, vI p2, vI p0.kind, vI p0.slot, vI p0.give] 50) :: L)) _ := h
 refine end_norm0 rfl hr ?_
 replace H := ej1 H; subst H
 exact ⟨rfl, h⟩

/-- (*plunder/frames.Op).alloc -/
def frames_Op_alloc_iface (p0 : T_frames_Op) (p1 : T_cells_Arena) : Option (Int × T_frames_Op × T_cells_Arena) :=
  ob1 (frames_Table__next (⟨p0.head_t_Base, p0.head_t_Frames⟩ : T_frames_Table)) (fun r5 => ob3 (cells_Arena_Add p1 r5 1) (fun r7 r8 S9 => (if r8 = 0 then ob1 ((if r7 ≥ 1 then some (decide (r7 ≤ p0.head_t_Frames)) else some false)) (fun g16 => (if g16 = true then ob1 (frames_head_end p0 4 (wi (r7 - 1))) (fun S21 => some (0, S21, S9)) else ob1 (frames_head_end p0 3 0) (fun S23 => some (0, S23, S9)))) else some (r8, p0, S9))))

set_option maxRecDepth 100000 in
set_option maxHeartbeats 4000000 in
theorem frames_Op_alloc_iface_ok {z w : World} {L : List HProp} {p0 : T_frames_Op} {p1 : T_cells_Arena} {B0 : Nat} {B1 : Nat} {ca1 : Option Addr} {cc2 : Nat} {ca3 : Option Addr} {cc4 : Nat} {r0 : Int} {q0 : T_frames_Op} {q1 : T_cells_Arena} (H : frames_Op_alloc_iface p0 p1 = some (r0, q0, q1)) (h : Fit z (sepL (ob50 B0 p0 :: ob103 B1 p1 ca1 cc2 ca3 cc4 :: ro2 ca1 cc2 p1.cell :: ro96 ca3 cc4 p1.log :: L)) w)  :
    Calls Try.prog 81 #[pA B0 0, .iface 26 (pA B1 0)] w fun e w => ∃ caq1_1 : Option Addr, ∃ ccq1_2 : Nat, ∃ caq1_3 : Option Addr, ∃ ccq1_4 : Nat, e = .returned (vI r0) ∧ Fit z (sepL (ob50 B0 q0 :: ob103 B1 q1 caq1_1 ccq1_2 caq1_3 ccq1_4 :: ro2 caq1_1 ccq1_2 q1.cell :: ro96 caq1_3 ccq1_4 q1.log :: L)) w := by
 unfold frames_Op_alloc_iface at H
 refine enter Try.func81 rfl 46 rfl rfl [(0, pA B0 0), (1, .iface 26 (pA B1 0))] ⟨rfl, rfl, trivial⟩ ?_
 intro j a hr
 refine sr ?_
 refine o1 hr (vI 0) fun a hr => ?_
 refine ln ?_
 refine wp_seq ?_
 obtain ⟨r5, e6, H⟩ := bd1 H
 obtain ⟨r7, r8, S9, e10, H⟩ := bd3 H
 refine reg_E (fun w => heldC w B0 0 ([vI p0.head_t_Base, vI p0.head_t_Frames]) ∧ True) [2, 3, 4, 6, 7, 8] h (by kernel_rfl) ?_; intro w h
 change wpAnyE _ _ _ _ _ _ 16 (Array.replicate 16 false) a w
 have hgo : ∀ w w', CellsGo w w' → (heldC w B0 0 ([vI p0.head_t_Base, vI p0.head_t_Frames]) ∧ True) → heldC w' B0 0 ([vI p0.head_t_Base, vI p0.head_t_Frames]) ∧ True := fun w w' g hD => ⟨heldC_go _ _ _ _ _ g hD.1, trivial⟩
 refine evs 15 0 rfl (wn rfl) hr (.iface 26 (pA B1 0)) fun a hr => ?_
 refine evs 14 1 rfl (wn rfl) hr (pA B0 0) fun a hr => ?_
 refine evDs hgo ⟨(h.held 0 rfl), trivial⟩ 13 2 rfl (wn rfl) hr (pA B0 0) fun a hr => ?_
 refine evDs hgo ⟨(h.held 0 rfl), trivial⟩ 12 3 rfl (wn rfl) hr (pA B0 0) fun a hr => ?_
 refine evDs hgo ⟨(h.held 0 rfl), trivial⟩ 11 4 rfl (wn rfl) hr (pA B0 0) fun a hr => ?_
 refine evDs hgo ⟨(h.held 0 rfl), trivial⟩ 10 7 rfl (wn rfl) hr (.func (.method "Add") #[.iface 26 (pA B1 0)] #[]) fun a hr => ?_
 refine evDs hgo ⟨(h.held 0 rfl), trivial⟩ 9 8 rfl (wn rfl) hr (.func (.method "Add") #[.iface 26 (pA B1 0)] #[]) fun a hr => ?_
 refine evs 8 9 rfl (wn rfl) hr (.iface 26 (pA B1 0)) fun a hr => ?_
 refine el [2, 3, 4, 6, 7, 8] (b := B0) (off := 0) (cs := [vI p0.head_t_Base, vI p0.head_t_Frames]) (fun _ hk => ⟨hk, fun w hD => hD.1⟩) 7 5 rfl (by kernel_rfl) (wn rfl) hr (.agg #[vI p0.head_t_Base, vI p0.head_t_Frames]) (h.held 0 rfl) (fun w hc => rlm (cs := [vI p0.head_t_Base, vI p0.head_t_Frames]) rfl (by kernel_rfl) (by kernel_rfl) (by kernel_rfl) hc) fun a hr => ?_
 refine e_one (fuel := 6) (i := 6) (by kernel_rfl) rfl ?_
 have hc := frames_Table__next_ok (H := e6) (h := h)
 refine cl (wn rfl) hr hc ?_; clear hc h
 rintro _ w ⟨rfl, h⟩; refine ⟨_, rfl, fun a hr => ?_⟩
 refine wpList_nil ?_; refine then_normal ?_
 refine ⟨fun _ => ⟨(h.held 0 rfl), trivial⟩, ?_⟩
 refine e_one (fuel := 5) (i := 10) (by kernel_rfl) rfl ?_
 replace h : Fit z (sepL (ob103 B1 p1 ca1 cc2 ca3 cc4 :: ro2 ca1 cc2 p1.cell :: ro96 ca3 cc4 p1.log :: ob50 B0 p0 :: L)) _ := h.sel 4 [1, 2, 3, 0] (by kernel_rfl) (by kernel_rfl)
 have hc := cells_Arena_Add_ok (H := e10) (h := h)
 refine cl (wn rfl) hr hc ?_; clear hc h
 rintro _ w ⟨caq11, ccq12, caq13, ccq14, rfl, h⟩; refine ⟨_, rfl, fun a hr => ?_⟩
 refine wpList_nil ?_; refine then_normal ?_
 refine ⟨fun hE => absurd hE (by decide), ?_⟩
 refine evs 4 11 rfl (wn rfl) hr (.tuple #[vI r7, vI r8]) fun a hr => ?_
 refine evs 3 12 rfl (wn rfl) hr (vI r7) fun a hr => ?_
 refine evs 2 13 rfl (wn rfl) hr (vI r8) fun a hr => ?_
 refine evs 1 14 rfl (wn rfl) hr (vI r7) fun a hr => ?_
 refine evs 0 15 rfl (wn rfl) hr (vI r8) fun a hr => ?_
 refine e_end (by kernel_rfl) ?_
 refine then_normal ?_
 refine wp_seq ?_
 refine sr ?_
 refine oo [21, 22] [vI r8, vB (r8 != 0)] hr fun a hr => ?_
 refine ln ?_
 by_cases c15 : r8 = 0
 ·
  replace H := ifT c15 H
  refine cond_ff hr (bne_eq_false_iff_eq.mpr c15) ?_
  refine wp_skip ?_
  refine then_normal ?_
  refine wp_seq ?_
  obtain ⟨o18, H, hK17⟩ := kd1 H
  refine cut_rule (β := Unit) (fun _ a w => ∃ g16 : Bool, g16 = o18 ∧ ∃ j, Rep 46 (lk [(0, pA B0 0), (5, vI r7), (35, vB g16)] j) a ∧ Fit z (sepL (ob50 B0 p0 :: ob103 B1 S9 caq11 ccq12 caq13 ccq14 :: ro2 caq11 ccq12 S9.cell :: ro96 caq13 ccq14 S9.log :: L)) w) ?_ ?_
  ·
   refine wp_region_lit ?_
   refine oo [24, 25, 26] [vI r7, vB (decide (r7 ≥ 1)), vB (decide (r7 ≥ 1))] hr fun a hr => ?_
   by_cases c19 : r7 ≥ 1
   ·
    replace H := ifT c19 H
    refine opv (wgt hr (decide_eq_true c19)) hr (vI r7) (by kernel_rfl) fun a hr => ?_
    refine opv (wgt hr (decide_eq_true c19)) hr (pA B0 0) (by kernel_rfl) fun a hr => ?_
    refine opv (wgt hr (decide_eq_true c19)) hr (pA B0 0) (by kernel_rfl) fun a hr => ?_
    refine opv (wgt hr (decide_eq_true c19)) hr (pA B0 0) (by kernel_rfl) fun a hr => ?_
    refine opv (wgt hr (decide_eq_true c19)) hr (pA B0 0) (by kernel_rfl) fun a hr => ?_
    refine opv (wgt hr (decide_eq_true c19)) hr (pA B0 1) (by kernel_rfl) fun a hr => ?_
    refine ld (wgt hr (decide_eq_true c19)) hr (vI p0.head_t_Frames) ((h.pick 3).cell 1 rfl) fun a hr => ?_
    refine opv (wgt hr (decide_eq_true c19)) hr (vB (decide (r7 ≤ p0.head_t_Frames))) (by kernel_rfl) fun a hr => ?_
    refine opv (wn rfl) hr (vB (decide (r7 ≤ p0.head_t_Frames))) (rp_t (b := (decide (r7 ≥ 1))) rfl (by kernel_rfl) (decide_eq_true c19) (by kernel_rfl)) fun a hr => ?_
    refine ln ?_
    replace hr := hr.fold2 [(0, pA B0 0), (5, vI r7), (35, vB (decide (r7 ≤ p0.head_t_Frames)))] (by kernel_rfl); obtain ⟨j, hr⟩ := hr
    replace h : Fit z (sepL (ob50 B0 p0 :: ob103 B1 S9 caq11 ccq12 caq13 ccq14 :: ro2 caq11 ccq12 S9.cell :: ro96 caq13 ccq14 S9.log :: L)) _ := h.sel 4 [3, 0, 1, 2] (by kernel_rfl) (by kernel_rfl)
    exact ⟨(), (decide (r7 ≤ p0.head_t_Frames)), sinj H, j, hr, h⟩
   ·
    replace H := ifF c19 H
    refine offg (wgt hr (decide_eq_false c19)) hr fun a hr => ?_
    refine offg (wgt hr (decide_eq_false c19)) hr fun a hr => ?_
    refine offg (wgt hr (decide_eq_false c19)) hr fun a hr => ?_
    refine offg (wgt hr (decide_eq_false c19)) hr fun a hr => ?_
    refine offg (wgt hr (decide_eq_false c19)) hr fun a hr => ?_
    refine offg (wgt hr (decide_eq_false c19)) hr fun a hr => ?_
    refine offg (wgt hr (decide_eq_false c19)) hr fun a hr => ?_
    refine offg (wgt hr (decide_eq_false c19)) hr fun a hr => ?_
    refine opv (wn rfl) hr (vB false) (rp_f (b := (decide (r7 ≥ 1))) rfl (by kernel_rfl) (decide_eq_false c19) (by kernel_rfl)) fun a hr => ?_
    refine ln ?_
    replace hr := hr.fold2 [(0, pA B0 0), (5, vI r7), (35, vB false)] (by kernel_rfl); obtain ⟨j, hr⟩ := hr
    replace h : Fit z (sepL (ob50 B0 p0 :: ob103 B1 S9 caq11 ccq12 caq13 ccq14 :: ro2 caq11 ccq12 S9.cell :: ro96 caq13 ccq14 S9.log :: L)) _ := h.sel 4 [3, 0, 1, 2] (by kernel_rfl) (by kernel_rfl)
    exact ⟨(), false, sinj H, j, hr, h⟩
  clear h hr a; rintro _ a w ⟨g16, rfl, j, hr, h⟩
  replace H := kk1 hK17
  by_cases c20 : g16 = true
  ·
   replace H := ifT c20 H
   refine cond_tt hr (c20) ?_
   refine wp_region_lit ?_
   obtain ⟨S21, e22, H⟩ := bd1 H
   refine oo [36, 37, 38, 39, 40] [pA B0 0, pA B0 0, pA B0 0, vI r7, vI (wi (r7 - 1))] hr fun a hr => ?_
   have hc := frames_head_end_ok (H := e22) (h := h)
   refine cl (wn rfl) hr hc ?_; clear hc h
   rintro _ w ⟨rfl, h⟩; refine ⟨_, rfl, fun a hr => ?_⟩
   refine ln ?_
   refine sr ?_
   refine o1 hr (vI 0) fun a hr => ?_
   refine ln ?_
   refine wp_ret ?_
   refine end_ret1 (v := vI 0) rfl hr (by kernel_rfl) ?_
   obtain ⟨rfl, rfl, rfl⟩ := ej3 H
   exact ⟨caq11, ccq12, caq13, ccq14, rfl, h⟩
  ·
   replace H := ifF c20 H
   refine cond_ff hr (bF c20) ?_
   refine wp_region_lit ?_
   obtain ⟨S23, e24, H⟩ := bd1 H
   refine oo [42, 43, 44] [pA B0 0, pA B0 0, pA B0 0] hr fun a hr => ?_
   have hc := frames_head_end_ok (H := e24) (h := h)
   refine cl (wn rfl) hr hc ?_; clear hc h
   rintro _ w ⟨rfl, h⟩; refine ⟨_, rfl, fun a hr => ?_⟩
   refine ln ?_
   refine sr ?_
   refine o1 hr (vI 0) fun a hr => ?_
   refine ln ?_
   refine wp_ret ?_
   refine end_ret1 (v := vI 0) rfl hr (by kernel_rfl) ?_
   obtain ⟨rfl, rfl, rfl⟩ := ej3 H
   exact ⟨caq11, ccq12, caq13, ccq14, rfl, h⟩
 ·
  replace H := ifF c15 H
  refine cond_tt hr (bne_iff_ne.mpr c15) ?_
  refine sr ?_
  refine oo [23, 4] [vI r8, vI r8] hr fun a hr => ?_
  refine ln ?_
  refine wp_ret ?_
  refine then_ret ?_
  refine end_ret1 (v := vI r8) rfl hr (by kernel_rfl) ?_
  replace h : Fit z (sepL (ob50 B0 p0 :: ob103 B1 S9 caq11 ccq12 caq13 ccq14 :: ro2 caq11 ccq12 S9.cell :: ro96 caq13 ccq14 S9.log :: L)) _ := h.sel 4 [3, 0, 1, 2] (by kernel_rfl) (by kernel_rfl)
  obtain ⟨rfl, rfl, rfl⟩ := ej3 H
  exact ⟨caq11, ccq12, caq13, ccq14, rfl, h⟩

/-- (*plunder/frames.Op).fork -/
def frames_Op_fork_iface (p0 : T_frames_Op) (p1 : T_cells_Arena) : Option (Int × T_frames_Op × T_cells_Arena) :=
  ob1 (frames_Table__join (⟨p0.head_t_Base, p0.head_t_Frames⟩ : T_frames_Table) p0.head_frame) (fun r5 => ob3 (cells_Arena_Add p1 r5 1) (fun r7 r8 S9 => (if r8 = 0 then ob1 (frames_head_end p0 9 r7) (fun S16 => some (r8, S16, S9)) else some (r8, p0, S9))))

set_option maxRecDepth 100000 in
set_option maxHeartbeats 4000000 in
theorem frames_Op_fork_iface_ok {z w : World} {L : List HProp} {p0 : T_frames_Op} {p1 : T_cells_Arena} {B0 : Nat} {B1 : Nat} {ca1 : Option Addr} {cc2 : Nat} {ca3 : Option Addr} {cc4 : Nat} {r0 : Int} {q0 : T_frames_Op} {q1 : T_cells_Arena} (H : frames_Op_fork_iface p0 p1 = some (r0, q0, q1)) (h : Fit z (sepL (ob50 B0 p0 :: ob103 B1 p1 ca1 cc2 ca3 cc4 :: ro2 ca1 cc2 p1.cell :: ro96 ca3 cc4 p1.log :: L)) w)  :
    Calls Try.prog 82 #[pA B0 0, .iface 26 (pA B1 0)] w fun e w => ∃ caq1_1 : Option Addr, ∃ ccq1_2 : Nat, ∃ caq1_3 : Option Addr, ∃ ccq1_4 : Nat, e = .returned (vI r0) ∧ Fit z (sepL (ob50 B0 q0 :: ob103 B1 q1 caq1_1 ccq1_2 caq1_3 ccq1_4 :: ro2 caq1_1 ccq1_2 q1.cell :: ro96 caq1_3 ccq1_4 q1.log :: L)) w := by
 unfold frames_Op_fork_iface at H
 refine enter Try.func82 rfl 34 rfl rfl [(0, pA B0 0), (1, .iface 26 (pA B1 0))] ⟨rfl, rfl, trivial⟩ ?_
 intro j a hr
 refine sr ?_
 refine o1 hr (vI 0) fun a hr => ?_
 refine ln ?_
 refine wp_seq ?_
 obtain ⟨r5, e6, H⟩ := bd1 H
 obtain ⟨r7, r8, S9, e10, H⟩ := bd3 H
 refine reg_E (fun w => heldC w B0 0 ([vI p0.head_t_Base, vI p0.head_t_Frames]) ∧ heldC w B0 2 ([vI p0.head_frame]) ∧ True) [2, 3, 4, 7, 8, 9, 11, 12, 13] h (by kernel_rfl) ?_; intro w h
 change wpAnyE _ _ _ _ _ _ 21 (Array.replicate 21 false) a w
 have hgo : ∀ w w', CellsGo w w' → (heldC w B0 0 ([vI p0.head_t_Base, vI p0.head_t_Frames]) ∧ heldC w B0 2 ([vI p0.head_frame]) ∧ True) → heldC w' B0 0 ([vI p0.head_t_Base, vI p0.head_t_Frames]) ∧ heldC w' B0 2 ([vI p0.head_frame]) ∧ True := fun w w' g hD => ⟨heldC_go _ _ _ _ _ g hD.1, heldC_go _ _ _ _ _ g hD.2.1, trivial⟩
 refine evs 20 0 rfl (wn rfl) hr (.iface 26 (pA B1 0)) fun a hr => ?_
 refine evs 19 1 rfl (wn rfl) hr (pA B0 0) fun a hr => ?_
 refine evDs hgo ⟨(h.held 0 rfl), ⟨h.cell 2 rfl, trivial⟩, trivial⟩ 18 2 rfl (wn rfl) hr (pA B0 0) fun a hr => ?_
 refine evDs hgo ⟨(h.held 0 rfl), ⟨h.cell 2 rfl, trivial⟩, trivial⟩ 17 3 rfl (wn rfl) hr (pA B0 0) fun a hr => ?_
 refine evDs hgo ⟨(h.held 0 rfl), ⟨h.cell 2 rfl, trivial⟩, trivial⟩ 16 4 rfl (wn rfl) hr (pA B0 0) fun a hr => ?_
 refine evs 15 6 rfl (wn rfl) hr (pA B0 0) fun a hr => ?_
 refine evDs hgo ⟨(h.held 0 rfl), ⟨h.cell 2 rfl, trivial⟩, trivial⟩ 14 7 rfl (wn rfl) hr (pA B0 0) fun a hr => ?_
 refine evDs hgo ⟨(h.held 0 rfl), ⟨h.cell 2 rfl, trivial⟩, trivial⟩ 13 8 rfl (wn rfl) hr (pA B0 0) fun a hr => ?_
 refine evDs hgo ⟨(h.held 0 rfl), ⟨h.cell 2 rfl, trivial⟩, trivial⟩ 12 9 rfl (wn rfl) hr (pA B0 2) fun a hr => ?_
 refine evDs hgo ⟨(h.held 0 rfl), ⟨h.cell 2 rfl, trivial⟩, trivial⟩ 11 12 rfl (wn rfl) hr (.func (.method "Add") #[.iface 26 (pA B1 0)] #[]) fun a hr => ?_
 refine evDs hgo ⟨(h.held 0 rfl), ⟨h.cell 2 rfl, trivial⟩, trivial⟩ 10 13 rfl (wn rfl) hr (.func (.method "Add") #[.iface 26 (pA B1 0)] #[]) fun a hr => ?_
 refine evs 9 14 rfl (wn rfl) hr (.iface 26 (pA B1 0)) fun a hr => ?_
 refine el [2, 3, 4, 7, 8, 9, 11, 12, 13] (b := B0) (off := 0) (cs := [vI p0.head_t_Base, vI p0.head_t_Frames]) (fun _ hk => ⟨hk, fun w hD => hD.1⟩) 8 5 rfl (by kernel_rfl) (wn rfl) hr (.agg #[vI p0.head_t_Base, vI p0.head_t_Frames]) (h.held 0 rfl) (fun w hc => rlm (cs := [vI p0.head_t_Base, vI p0.head_t_Frames]) rfl (by kernel_rfl) (by kernel_rfl) (by kernel_rfl) hc) fun a hr => ?_
 refine el [2, 3, 4, 7, 8, 9, 11, 12, 13] (b := B0) (off := 2) (cs := [vI p0.head_frame]) (fun _ hk => ⟨hk, fun w hD => hD.2.1⟩) 7 10 rfl (by kernel_rfl) (wn rfl) hr (vI p0.head_frame) ⟨h.cell 2 rfl, trivial⟩ (fun w hc => rl rfl (by kernel_rfl) (by kernel_rfl) hc.1) fun a hr => ?_
 refine e_one (fuel := 6) (i := 11) (by kernel_rfl) rfl ?_
 have hc := frames_Table__join_ok (H := e6) (h := h)
 refine cl (wn rfl) hr hc ?_; clear hc h
 rintro _ w ⟨rfl, h⟩; refine ⟨_, rfl, fun a hr => ?_⟩
 refine wpList_nil ?_; refine then_normal ?_
 refine ⟨fun _ => ⟨(h.held 0 rfl), ⟨h.cell 2 rfl, trivial⟩, trivial⟩, ?_⟩
 refine e_one (fuel := 5) (i := 15) (by kernel_rfl) rfl ?_
 replace h : Fit z (sepL (ob103 B1 p1 ca1 cc2 ca3 cc4 :: ro2 ca1 cc2 p1.cell :: ro96 ca3 cc4 p1.log :: ob50 B0 p0 :: L)) _ := h.sel 4 [1, 2, 3, 0] (by kernel_rfl) (by kernel_rfl)
 have hc := cells_Arena_Add_ok (H := e10) (h := h)
 refine cl (wn rfl) hr hc ?_; clear hc h
 rintro _ w ⟨caq11, ccq12, caq13, ccq14, rfl, h⟩; refine ⟨_, rfl, fun a hr => ?_⟩
 refine wpList_nil ?_; refine then_normal ?_
 refine ⟨fun hE => absurd hE (by decide), ?_⟩
 refine evs 4 16 rfl (wn rfl) hr (.tuple #[vI r7, vI r8]) fun a hr => ?_
 refine evs 3 17 rfl (wn rfl) hr (vI r7) fun a hr => ?_
 refine evs 2 18 rfl (wn rfl) hr (vI r8) fun a hr => ?_
 refine evs 1 19 rfl (wn rfl) hr (vI r7) fun a hr => ?_
 refine evs 0 20 rfl (wn rfl) hr (vI r8) fun a hr => ?_
 refine e_end (by kernel_rfl) ?_
 refine then_normal ?_
 refine wp_seq ?_
 refine sr ?_
 refine oo [26, 27] [vI r8, vB (r8 == 0)] hr fun a hr => ?_
 refine ln ?_
 by_cases c15 : r8 = 0
 ·
  replace H := ifT c15 H
  refine cond_tt hr (beq_iff_eq.mpr c15) ?_
  refine wp_region_lit ?_
  obtain ⟨S16, e17, H⟩ := bd1 H
  refine oo [28, 29, 30, 31] [pA B0 0, pA B0 0, pA B0 0, vI r7] hr fun a hr => ?_
  replace h : Fit z (sepL (ob50 B0 p0 :: ob103 B1 S9 caq11 ccq12 caq13 ccq14 :: ro2 caq11 ccq12 S9.cell :: ro96 caq13 ccq14 S9.log :: L)) _ := h.sel 4 [3, 0, 1, 2] (by kernel_rfl) (by kernel_rfl)
  have hc := frames_head_end_ok (H := e17) (h := h)
  refine cl (wn rfl) hr hc ?_; clear hc h
  rintro _ w ⟨rfl, h⟩; refine ⟨_, rfl, fun a hr => ?_⟩
  refine ln ?_
  refine sr ?_
  refine oo [33, 4] [vI r8, vI r8] hr fun a hr => ?_
  refine ln ?_
  refine wp_ret ?_
  refine end_ret1 (v := vI r8) rfl hr (by kernel_rfl) ?_
  obtain ⟨rfl, rfl, rfl⟩ := ej3 H
  exact ⟨caq11, ccq12, caq13, ccq14, rfl, h⟩
 ·
  replace H := ifF c15 H
  refine cond_ff hr (beq_eq_false_iff_ne.mpr c15) ?_
  refine wp_skip ?_
  refine then_normal ?_
  refine sr ?_
  refine oo [33, 4] [vI r8, vI r8] hr fun a hr => ?_
  refine ln ?_
  refine wp_ret ?_
  refine end_ret1 (v := vI r8) rfl hr (by kernel_rfl) ?_
  replace h : Fit z (sepL (ob50 B0 p0 :: ob103 B1 S9 caq11 ccq12 caq13 ccq14 :: ro2 caq11 ccq12 S9.cell :: ro96 caq13 ccq14 S9.log :: L)) _ := h.sel 4 [3, 0, 1, 2] (by kernel_rfl) (by kernel_rfl)
  obtain ⟨rfl, rfl, rfl⟩ := ej3 H
  exact ⟨caq11, ccq12, caq13, ccq14, rfl, h⟩

/-- (plunder/frames.Table).slot -/
def frames_Table__slot (p0 : T_frames_Table) (p1 : Int) (p2 : Int) : Option (Int) :=
  ob1 (frames_Table__join p0 p1) (fun r2 => some (wi ((wi (r2 + 2)) + p2)))

set_option maxRecDepth 100000 in
set_option maxHeartbeats 4000000 in
theorem frames_Table__slot_ok {z w : World} {L : List HProp} {p0 : T_frames_Table} {p1 : Int} {p2 : Int} {r0 : Int} (H : frames_Table__slot p0 p1 p2 = some r0) (h : Fit z (sepL (L)) w)  :
    Calls Try.prog 99 #[ag_T_frames_Table p0, vI p1, vI p2] w fun e w => e = .returned (vI r0) ∧ Fit z (sepL (L)) w := by
 unfold frames_Table__slot at H
 refine enter Try.func99 rfl 13 rfl rfl [(0, ag_T_frames_Table p0), (1, vI p1), (2, vI p2)] ⟨rfl, rfl, rfl, trivial⟩ ?_
 intro j a hr
 refine sr ?_
 refine onew (wn rfl) hr h nb (ca_T_frames_Table p0) 39 fun b1 w a h hr => ?_
 refine o1 hr (vI 0) fun a hr => ?_
 refine ln ?_
 refine sr ?_
 refine ldm (wn rfl) hr (ag_T_frames_Table p0) (cs := cl_T_frames_Table p0) (h.held 0 rfl) fun a hr => ?_
 obtain ⟨r2, e3, H⟩ := bd1 H
 refine o1 hr (vI p1) fun a hr => ?_
 have hc := frames_Table__join_ok (H := e3) (h := h)
 refine cl (wn rfl) hr hc ?_; clear hc h
 rintro _ w ⟨rfl, h⟩; refine ⟨_, rfl, fun a hr => ?_⟩
 refine oo [10, 11, 12, 6] [vI (wi (r2 + 2)), vI p2, vI (wi ((wi (r2 + 2)) + p2)), vI (wi ((wi (r2 + 2)) + p2))] hr fun a hr => ?_
 refine ln ?_
 refine wp_ret ?_
 refine end_ret1 (v := vI (wi ((wi (r2 + 2)) + p2))) rfl hr (by kernel_rfl) ?_
 replace h : Fit z (sepL (L)) _ := h.sel 1 [] (by kernel_rfl) (by kernel_rfl)
 replace H := ej1 H; subst H
 exact ⟨rfl, h⟩

/-- (*plunder/frames.Op).less -/
def frames_Op_less_iface (p0 : T_frames_Op) (p1 : T_cells_Arena) (p2 : Int) : Option (Int × T_frames_Op × T_cells_Arena) :=
  ob1 (frames_Table__join (⟨p0.head_t_Base, p0.head_t_Frames⟩ : T_frames_Table) p0.head_frame) (fun r5 => ob3 (cells_Arena_Add p1 r5 (-1)) (fun r7 r8 S9 => (if r8 = 0 then (if r7 = 0 then some (r8, p0, S9) else ob1 (frames_head_end p0 p2 r7) (fun S17 => some (r8, S17, S9))) else some (r8, p0, S9))))

set_option maxRecDepth 100000 in
set_option maxHeartbeats 4000000 in
theorem frames_Op_less_iface_ok {z w : World} {L : List HProp} {p0 : T_frames_Op} {p1 : T_cells_Arena} {p2 : Int} {B0 : Nat} {B1 : Nat} {ca1 : Option Addr} {cc2 : Nat} {ca3 : Option Addr} {cc4 : Nat} {r0 : Int} {q0 : T_frames_Op} {q1 : T_cells_Arena} (H : frames_Op_less_iface p0 p1 p2 = some (r0, q0, q1)) (h : Fit z (sepL (ob50 B0 p0 :: ob103 B1 p1 ca1 cc2 ca3 cc4 :: ro2 ca1 cc2 p1.cell :: ro96 ca3 cc4 p1.log :: L)) w)  :
    Calls Try.prog 100 #[pA B0 0, .iface 26 (pA B1 0), vI p2] w fun e w => ∃ caq1_1 : Option Addr, ∃ ccq1_2 : Nat, ∃ caq1_3 : Option Addr, ∃ ccq1_4 : Nat, e = .returned (vI r0) ∧ Fit z (sepL (ob50 B0 q0 :: ob103 B1 q1 caq1_1 ccq1_2 caq1_3 ccq1_4 :: ro2 caq1_1 ccq1_2 q1.cell :: ro96 caq1_3 ccq1_4 q1.log :: L)) w := by
 unfold frames_Op_less_iface at H
 refine enter Try.func100 rfl 41 rfl rfl [(0, pA B0 0), (1, .iface 26 (pA B1 0)), (2, vI p2)] ⟨rfl, rfl, rfl, trivial⟩ ?_
 intro j a hr
 refine sr ?_
 refine o1 hr (vI 0) fun a hr => ?_
 refine ln ?_
 refine wp_seq ?_
 obtain ⟨r5, e6, H⟩ := bd1 H
 obtain ⟨r7, r8, S9, e10, H⟩ := bd3 H
 refine reg_E (fun w => heldC w B0 0 ([vI p0.head_t_Base, vI p0.head_t_Frames]) ∧ heldC w B0 2 ([vI p0.head_frame]) ∧ True) [2, 3, 4, 7, 8, 9, 11, 12, 13] h (by kernel_rfl) ?_; intro w h
 change wpAnyE _ _ _ _ _ _ 21 (Array.replicate 21 false) a w
 have hgo : ∀ w w', CellsGo w w' → (heldC w B0 0 ([vI p0.head_t_Base, vI p0.head_t_Frames]) ∧ heldC w B0 2 ([vI p0.head_frame]) ∧ True) → heldC w' B0 0 ([vI p0.head_t_Base, vI p0.head_t_Frames]) ∧ heldC w' B0 2 ([vI p0.head_frame]) ∧ True := fun w w' g hD => ⟨heldC_go _ _ _ _ _ g hD.1, heldC_go _ _ _ _ _ g hD.2.1, trivial⟩
 refine evs 20 0 rfl (wn rfl) hr (.iface 26 (pA B1 0)) fun a hr => ?_
 refine evs 19 1 rfl (wn rfl) hr (pA B0 0) fun a hr => ?_
 refine evDs hgo ⟨(h.held 0 rfl), ⟨h.cell 2 rfl, trivial⟩, trivial⟩ 18 2 rfl (wn rfl) hr (pA B0 0) fun a hr => ?_
 refine evDs hgo ⟨(h.held 0 rfl), ⟨h.cell 2 rfl, trivial⟩, trivial⟩ 17 3 rfl (wn rfl) hr (pA B0 0) fun a hr => ?_
 refine evDs hgo ⟨(h.held 0 rfl), ⟨h.cell 2 rfl, trivial⟩, trivial⟩ 16 4 rfl (wn rfl) hr (pA B0 0) fun a hr => ?_
 refine evs 15 6 rfl (wn rfl) hr (pA B0 0) fun a hr => ?_
 refine evDs hgo ⟨(h.held 0 rfl), ⟨h.cell 2 rfl, trivial⟩, trivial⟩ 14 7 rfl (wn rfl) hr (pA B0 0) fun a hr => ?_
 refine evDs hgo ⟨(h.held 0 rfl), ⟨h.cell 2 rfl, trivial⟩, trivial⟩ 13 8 rfl (wn rfl) hr (pA B0 0) fun a hr => ?_
 refine evDs hgo ⟨(h.held 0 rfl), ⟨h.cell 2 rfl, trivial⟩, trivial⟩ 12 9 rfl (wn rfl) hr (pA B0 2) fun a hr => ?_
 refine evDs hgo ⟨(h.held 0 rfl), ⟨h.cell 2 rfl, trivial⟩, trivial⟩ 11 12 rfl (wn rfl) hr (.func (.method "Add") #[.iface 26 (pA B1 0)] #[]) fun a hr => ?_
 refine evDs hgo ⟨(h.held 0 rfl), ⟨h.cell 2 rfl, trivial⟩, trivial⟩ 10 13 rfl (wn rfl) hr (.func (.method "Add") #[.iface 26 (pA B1 0)] #[]) fun a hr => ?_
 refine evs 9 14 rfl (wn rfl) hr (.iface 26 (pA B1 0)) fun a hr => ?_
 refine el [2, 3, 4, 7, 8, 9, 11, 12, 13] (b := B0) (off := 0) (cs := [vI p0.head_t_Base, vI p0.head_t_Frames]) (fun _ hk => ⟨hk, fun w hD => hD.1⟩) 8 5 rfl (by kernel_rfl) (wn rfl) hr (.agg #[vI p0.head_t_Base, vI p0.head_t_Frames]) (h.held 0 rfl) (fun w hc => rlm (cs := [vI p0.head_t_Base, vI p0.head_t_Frames]) rfl (by kernel_rfl) (by kernel_rfl) (by kernel_rfl) hc) fun a hr => ?_
 refine el [2, 3, 4, 7, 8, 9, 11, 12, 13] (b := B0) (off := 2) (cs := [vI p0.head_frame]) (fun _ hk => ⟨hk, fun w hD => hD.2.1⟩) 7 10 rfl (by kernel_rfl) (wn rfl) hr (vI p0.head_frame) ⟨h.cell 2 rfl, trivial⟩ (fun w hc => rl rfl (by kernel_rfl) (by kernel_rfl) hc.1) fun a hr => ?_
 refine e_one (fuel := 6) (i := 11) (by kernel_rfl) rfl ?_
 have hc := frames_Table__join_ok (H := e6) (h := h)
 refine cl (wn rfl) hr hc ?_; clear hc h
 rintro _ w ⟨rfl, h⟩; refine ⟨_, rfl, fun a hr => ?_⟩
 refine wpList_nil ?_; refine then_normal ?_
 refine ⟨fun _ => ⟨(h.held 0 rfl), ⟨h.cell 2 rfl, trivial⟩, trivial⟩, ?_⟩
 refine e_one (fuel := 5) (i := 15) (by kernel_rfl) rfl ?_
 replace h : Fit z (sepL (ob103 B1 p1 ca1 cc2 ca3 cc4 :: ro2 ca1 cc2 p1.cell :: ro96 ca3 cc4 p1.log :: ob50 B0 p0 :: L)) _ := h.sel 4 [1, 2, 3, 0] (by kernel_rfl) (by kernel_rfl)
 have hc := cells_Arena_Add_ok (H := e10) (h := h)
 refine cl (wn rfl) hr hc ?_; clear hc h
 rintro _ w ⟨caq11, ccq12, caq13, ccq14, rfl, h⟩; refine ⟨_, rfl, fun a hr => ?_⟩
 refine wpList_nil ?_; refine then_normal ?_
 refine ⟨fun hE => absurd hE (by decide), ?_⟩
 refine evs 4 16 rfl (wn rfl) hr (.tuple #[vI r7, vI r8]) fun a hr => ?_
 refine evs 3 17 rfl (wn rfl) hr (vI r7) fun a hr => ?_
 refine evs 2 18 rfl (wn rfl) hr (vI r8) fun a hr => ?_
 refine evs 1 19 rfl (wn rfl) hr (vI r7) fun a hr => ?_
 refine evs 0 20 rfl (wn rfl) hr (vI r8) fun a hr => ?_
 refine e_end (by kernel_rfl) ?_
 refine then_normal ?_
 refine wp_seq ?_
 refine sr ?_
 refine oo [28, 29, 30] [vI r8, vB (r8 == 0), vB (r8 == 0)] hr fun a hr => ?_
 by_cases c15 : r8 = 0
 ·
  replace H := ifT c15 H
  refine opv (wgt hr (beq_iff_eq.mpr c15)) hr (vI r7) (by kernel_rfl) fun a hr => ?_
  refine opv (wgt hr (beq_iff_eq.mpr c15)) hr (vB (r7 != 0)) (by kernel_rfl) fun a hr => ?_
  refine opv (wn rfl) hr (vB (r7 != 0)) (rp_t (b := (r8 == 0)) rfl (by kernel_rfl) (beq_iff_eq.mpr c15) (by kernel_rfl)) fun a hr => ?_
  refine ln ?_
  by_cases c16 : r7 = 0
  ·
   replace H := ifT c16 H
   refine cond_ff hr (bne_eq_false_iff_eq.mpr c16) ?_
   refine wp_skip ?_
   refine then_normal ?_
   refine sr ?_
   refine oo [40, 6] [vI r8, vI r8] hr fun a hr => ?_
   refine ln ?_
   refine wp_ret ?_
   refine end_ret1 (v := vI r8) rfl hr (by kernel_rfl) ?_
   replace h : Fit z (sepL (ob50 B0 p0 :: ob103 B1 S9 caq11 ccq12 caq13 ccq14 :: ro2 caq11 ccq12 S9.cell :: ro96 caq13 ccq14 S9.log :: L)) _ := h.sel 4 [3, 0, 1, 2] (by kernel_rfl) (by kernel_rfl)
   obtain ⟨rfl, rfl, rfl⟩ := ej3 H
   exact ⟨caq11, ccq12, caq13, ccq14, rfl, h⟩
  ·
   replace H := ifF c16 H
   refine cond_tt hr (bne_iff_ne.mpr c16) ?_
   refine wp_region_lit ?_
   obtain ⟨S17, e18, H⟩ := bd1 H
   refine oo [34, 35, 36, 37, 38] [pA B0 0, pA B0 0, pA B0 0, vI p2, vI r7] hr fun a hr => ?_
   replace h : Fit z (sepL (ob50 B0 p0 :: ob103 B1 S9 caq11 ccq12 caq13 ccq14 :: ro2 caq11 ccq12 S9.cell :: ro96 caq13 ccq14 S9.log :: L)) _ := h.sel 4 [3, 0, 1, 2] (by kernel_rfl) (by kernel_rfl)
   have hc := frames_head_end_ok (H := e18) (h := h)
   refine cl (wn rfl) hr hc ?_; clear hc h
   rintro _ w ⟨rfl, h⟩; refine ⟨_, rfl, fun a hr => ?_⟩
   refine ln ?_
   refine sr ?_
   refine oo [40, 6] [vI r8, vI r8] hr fun a hr => ?_
   refine ln ?_
   refine wp_ret ?_
   refine end_ret1 (v := vI r8) rfl hr (by kernel_rfl) ?_
   obtain ⟨rfl, rfl, rfl⟩ := ej3 H
   exact ⟨caq11, ccq12, caq13, ccq14, rfl, h⟩
 ·
  replace H := ifF c15 H
  refine offg (wgt hr (beq_eq_false_iff_ne.mpr c15)) hr fun a hr => ?_
  refine offg (wgt hr (beq_eq_false_iff_ne.mpr c15)) hr fun a hr => ?_
  refine opv (wn rfl) hr (vB false) (rp_f (b := (r8 == 0)) rfl (by kernel_rfl) (beq_eq_false_iff_ne.mpr c15) (by kernel_rfl)) fun a hr => ?_
  refine ln ?_
  refine cond_ff hr (b := false) rfl ?_
  refine wp_skip ?_
  refine then_normal ?_
  refine sr ?_
  refine oo [40, 6] [vI r8, vI r8] hr fun a hr => ?_
  refine ln ?_
  refine wp_ret ?_
  refine end_ret1 (v := vI r8) rfl hr (by kernel_rfl) ?_
  replace h : Fit z (sepL (ob50 B0 p0 :: ob103 B1 S9 caq11 ccq12 caq13 ccq14 :: ro2 caq11 ccq12 S9.cell :: ro96 caq13 ccq14 S9.log :: L)) _ := h.sel 4 [3, 0, 1, 2] (by kernel_rfl) (by kernel_rfl)
  obtain ⟨rfl, rfl, rfl⟩ := ej3 H
  exact ⟨caq11, ccq12, caq13, ccq14, rfl, h⟩

/-- (*plunder/frames.Op).again -/
def frames_Op_again_iface (p0 : T_frames_Op) (p1 : T_cells_Arena) (p2 : Int) : Option (Int × T_frames_Op × T_cells_Arena) :=
  ob1 (frames_Table__join (⟨p0.head_t_Base, p0.head_t_Frames⟩ : T_frames_Table) p0.head_frame) (fun r5 => ob2 (cells_Arena_Store p1 r5 1) (fun r7 S8 => (if r7 = 0 then ob1 (frames_head_end p0 p2 0) (fun S15 => some (r7, S15, S8)) else some (r7, p0, S8))))

set_option maxRecDepth 100000 in
set_option maxHeartbeats 4000000 in
theorem frames_Op_again_iface_ok {z w : World} {L : List HProp} {p0 : T_frames_Op} {p1 : T_cells_Arena} {p2 : Int} {B0 : Nat} {B1 : Nat} {ca1 : Option Addr} {cc2 : Nat} {ca3 : Option Addr} {cc4 : Nat} {r0 : Int} {q0 : T_frames_Op} {q1 : T_cells_Arena} (H : frames_Op_again_iface p0 p1 p2 = some (r0, q0, q1)) (h : Fit z (sepL (ob50 B0 p0 :: ob103 B1 p1 ca1 cc2 ca3 cc4 :: ro2 ca1 cc2 p1.cell :: ro96 ca3 cc4 p1.log :: L)) w)  :
    Calls Try.prog 101 #[pA B0 0, .iface 26 (pA B1 0), vI p2] w fun e w => ∃ caq1_1 : Option Addr, ∃ ccq1_2 : Nat, ∃ caq1_3 : Option Addr, ∃ ccq1_4 : Nat, e = .returned (vI r0) ∧ Fit z (sepL (ob50 B0 q0 :: ob103 B1 q1 caq1_1 ccq1_2 caq1_3 ccq1_4 :: ro2 caq1_1 ccq1_2 q1.cell :: ro96 caq1_3 ccq1_4 q1.log :: L)) w := by
 unfold frames_Op_again_iface at H
 refine enter Try.func101 rfl 32 rfl rfl [(0, pA B0 0), (1, .iface 26 (pA B1 0)), (2, vI p2)] ⟨rfl, rfl, rfl, trivial⟩ ?_
 intro j a hr
 refine sr ?_
 refine o1 hr (vI 0) fun a hr => ?_
 refine ln ?_
 refine wp_seq ?_
 obtain ⟨r5, e6, H⟩ := bd1 H
 obtain ⟨r7, S8, e9, H⟩ := bd2 H
 refine reg_E (fun w => heldC w B0 0 ([vI p0.head_t_Base, vI p0.head_t_Frames]) ∧ heldC w B0 2 ([vI p0.head_frame]) ∧ True) [2, 3, 4, 7, 8, 9, 11, 12, 13] h (by kernel_rfl) ?_; intro w h
 change wpAnyE _ _ _ _ _ _ 17 (Array.replicate 17 false) a w
 have hgo : ∀ w w', CellsGo w w' → (heldC w B0 0 ([vI p0.head_t_Base, vI p0.head_t_Frames]) ∧ heldC w B0 2 ([vI p0.head_frame]) ∧ True) → heldC w' B0 0 ([vI p0.head_t_Base, vI p0.head_t_Frames]) ∧ heldC w' B0 2 ([vI p0.head_frame]) ∧ True := fun w w' g hD => ⟨heldC_go _ _ _ _ _ g hD.1, heldC_go _ _ _ _ _ g hD.2.1, trivial⟩
 refine evs 16 0 rfl (wn rfl) hr (.iface 26 (pA B1 0)) fun a hr => ?_
 refine evs 15 1 rfl (wn rfl) hr (pA B0 0) fun a hr => ?_
 refine evDs hgo ⟨(h.held 0 rfl), ⟨h.cell 2 rfl, trivial⟩, trivial⟩ 14 2 rfl (wn rfl) hr (pA B0 0) fun a hr => ?_
 refine evDs hgo ⟨(h.held 0 rfl), ⟨h.cell 2 rfl, trivial⟩, trivial⟩ 13 3 rfl (wn rfl) hr (pA B0 0) fun a hr => ?_
 refine evDs hgo ⟨(h.held 0 rfl), ⟨h.cell 2 rfl, trivial⟩, trivial⟩ 12 4 rfl (wn rfl) hr (pA B0 0) fun a hr => ?_
 refine evs 11 6 rfl (wn rfl) hr (pA B0 0) fun a hr => ?_
 refine evDs hgo ⟨(h.held 0 rfl), ⟨h.cell 2 rfl, trivial⟩, trivial⟩ 10 7 rfl (wn rfl) hr (pA B0 0) fun a hr => ?_
 refine evDs hgo ⟨(h.held 0 rfl), ⟨h.cell 2 rfl, trivial⟩, trivial⟩ 9 8 rfl (wn rfl) hr (pA B0 0) fun a hr => ?_
 refine evDs hgo ⟨(h.held 0 rfl), ⟨h.cell 2 rfl, trivial⟩, trivial⟩ 8 9 rfl (wn rfl) hr (pA B0 2) fun a hr => ?_
 refine evDs hgo ⟨(h.held 0 rfl), ⟨h.cell 2 rfl, trivial⟩, trivial⟩ 7 12 rfl (wn rfl) hr (.func (.method "Store") #[.iface 26 (pA B1 0)] #[]) fun a hr => ?_
 refine evDs hgo ⟨(h.held 0 rfl), ⟨h.cell 2 rfl, trivial⟩, trivial⟩ 6 13 rfl (wn rfl) hr (.func (.method "Store") #[.iface 26 (pA B1 0)] #[]) fun a hr => ?_
 refine evs 5 14 rfl (wn rfl) hr (.iface 26 (pA B1 0)) fun a hr => ?_
 refine el [2, 3, 4, 7, 8, 9, 11, 12, 13] (b := B0) (off := 0) (cs := [vI p0.head_t_Base, vI p0.head_t_Frames]) (fun _ hk => ⟨hk, fun w hD => hD.1⟩) 4 5 rfl (by kernel_rfl) (wn rfl) hr (.agg #[vI p0.head_t_Base, vI p0.head_t_Frames]) (h.held 0 rfl) (fun w hc => rlm (cs := [vI p0.head_t_Base, vI p0.head_t_Frames]) rfl (by kernel_rfl) (by kernel_rfl) (by kernel_rfl) hc) fun a hr => ?_
 refine el [2, 3, 4, 7, 8, 9, 11, 12, 13] (b := B0) (off := 2) (cs := [vI p0.head_frame]) (fun _ hk => ⟨hk, fun w hD => hD.2.1⟩) 3 10 rfl (by kernel_rfl) (wn rfl) hr (vI p0.head_frame) ⟨h.cell 2 rfl, trivial⟩ (fun w hc => rl rfl (by kernel_rfl) (by kernel_rfl) hc.1) fun a hr => ?_
 refine e_one (fuel := 2) (i := 11) (by kernel_rfl) rfl ?_
 have hc := frames_Table__join_ok (H := e6) (h := h)
 refine cl (wn rfl) hr hc ?_; clear hc h
 rintro _ w ⟨rfl, h⟩; refine ⟨_, rfl, fun a hr => ?_⟩
 refine wpList_nil ?_; refine then_normal ?_
 refine ⟨fun _ => ⟨(h.held 0 rfl), ⟨h.cell 2 rfl, trivial⟩, trivial⟩, ?_⟩
 refine e_one (fuel := 1) (i := 15) (by kernel_rfl) rfl ?_
 replace h : Fit z (sepL (ob103 B1 p1 ca1 cc2 ca3 cc4 :: ro2 ca1 cc2 p1.cell :: ro96 ca3 cc4 p1.log :: ob50 B0 p0 :: L)) _ := h.sel 4 [1, 2, 3, 0] (by kernel_rfl) (by kernel_rfl)
 have hc := cells_Arena_Store_ok (H := e9) (h := h)
 refine cl (wn rfl) hr hc ?_; clear hc h
 rintro _ w ⟨caq10, ccq11, caq12, ccq13, rfl, h⟩; refine ⟨_, rfl, fun a hr => ?_⟩
 refine wpList_nil ?_; refine then_normal ?_
 refine ⟨fun hE => absurd hE (by decide), ?_⟩
 refine evs 0 16 rfl (wn rfl) hr (vI r7) fun a hr => ?_
 refine e_end (by kernel_rfl) ?_
 refine then_normal ?_
 refine wp_seq ?_
 refine sr ?_
 refine oo [24, 25] [vI r7, vB (r7 == 0)] hr fun a hr => ?_
 refine ln ?_
 by_cases c14 : r7 = 0
 ·
  replace H := ifT c14 H
  refine cond_tt hr (beq_iff_eq.mpr c14) ?_
  refine wp_region_lit ?_
  obtain ⟨S15, e16, H⟩ := bd1 H
  refine oo [26, 27, 28, 29] [pA B0 0, pA B0 0, pA B0 0, vI p2] hr fun a hr => ?_
  replace h : Fit z (sepL (ob50 B0 p0 :: ob103 B1 S8 caq10 ccq11 caq12 ccq13 :: ro2 caq10 ccq11 S8.cell :: ro96 caq12 ccq13 S8.log :: L)) _ := h.sel 4 [3, 0, 1, 2] (by kernel_rfl) (by kernel_rfl)
  have hc := frames_head_end_ok (H := e16) (h := h)
  refine cl (wn rfl) hr hc ?_; clear hc h
  rintro _ w ⟨rfl, h⟩; refine ⟨_, rfl, fun a hr => ?_⟩
  refine ln ?_
  refine sr ?_
  refine oo [31, 6] [vI r7, vI r7] hr fun a hr => ?_
  refine ln ?_
  refine wp_ret ?_
  refine end_ret1 (v := vI r7) rfl hr (by kernel_rfl) ?_
  obtain ⟨rfl, rfl, rfl⟩ := ej3 H
  exact ⟨caq10, ccq11, caq12, ccq13, rfl, h⟩
 ·
  replace H := ifF c14 H
  refine cond_ff hr (beq_eq_false_iff_ne.mpr c14) ?_
  refine wp_skip ?_
  refine then_normal ?_
  refine sr ?_
  refine oo [31, 6] [vI r7, vI r7] hr fun a hr => ?_
  refine ln ?_
  refine wp_ret ?_
  refine end_ret1 (v := vI r7) rfl hr (by kernel_rfl) ?_
  replace h : Fit z (sepL (ob50 B0 p0 :: ob103 B1 S8 caq10 ccq11 caq12 ccq13 :: ro2 caq10 ccq11 S8.cell :: ro96 caq12 ccq13 S8.log :: L)) _ := h.sel 4 [3, 0, 1, 2] (by kernel_rfl) (by kernel_rfl)
  obtain ⟨rfl, rfl, rfl⟩ := ej3 H
  exact ⟨caq10, ccq11, caq12, ccq13, rfl, h⟩

/-- (*plunder/frames.Op).finish -/
def frames_Op_finish_iface (p0 : T_frames_Op) (p1 : T_cells_Arena) : Option (Int × T_frames_Op × T_cells_Arena) :=
  (if p0.head_stands = 1 then ob1 (frames_Table__slot (⟨p0.head_t_Base, p0.head_t_Frames⟩ : T_frames_Table) p0.head_frame p0.slot) (fun r6 => ob2 (cells_Arena_Store p1 r6 p0.give) (fun r8 S9 => some (r8, p0, S9))) else (if p0.head_stands = 2 then ob3 (frames_Op_less_iface p0 p1 10) (fun r16 S17 S18 => some (r16, S17, S18)) else ob3 (frames_Op_again_iface p0 p1 11) (fun r24 S25 S26 => some (r24, S25, S26))))

set_option maxRecDepth 100000 in
set_option maxHeartbeats 4000000 in
theorem frames_Op_finish_iface_ok {z w : World} {L : List HProp} {p0 : T_frames_Op} {p1 : T_cells_Arena} {B0 : Nat} {B1 : Nat} {ca1 : Option Addr} {cc2 : Nat} {ca3 : Option Addr} {cc4 : Nat} {r0 : Int} {q0 : T_frames_Op} {q1 : T_cells_Arena} (H : frames_Op_finish_iface p0 p1 = some (r0, q0, q1)) (h : Fit z (sepL (ob50 B0 p0 :: ob103 B1 p1 ca1 cc2 ca3 cc4 :: ro2 ca1 cc2 p1.cell :: ro96 ca3 cc4 p1.log :: L)) w)  :
    Calls Try.prog 83 #[pA B0 0, .iface 26 (pA B1 0)] w fun e w => ∃ caq1_1 : Option Addr, ∃ ccq1_2 : Nat, ∃ caq1_3 : Option Addr, ∃ ccq1_4 : Nat, e = .returned (vI r0) ∧ Fit z (sepL (ob50 B0 q0 :: ob103 B1 q1 caq1_1 ccq1_2 caq1_3 ccq1_4 :: ro2 caq1_1 ccq1_2 q1.cell :: ro96 caq1_3 ccq1_4 q1.log :: L)) w := by
 unfold frames_Op_finish_iface at H
 refine enter Try.func83 rfl 44 rfl rfl [(0, pA B0 0), (1, .iface 26 (pA B1 0))] ⟨rfl, rfl, trivial⟩ ?_
 intro j a hr
 refine sr ?_
 refine o1 hr (vI 0) fun a hr => ?_
 refine ln ?_
 refine wp_seq ?_
 refine sr ?_
 refine oo [5, 6, 7, 8] [pA B0 0, pA B0 0, pA B0 0, pA B0 3] hr fun a hr => ?_
 refine ld (wn rfl) hr (vI p0.head_stands) (h.cell 3 rfl) fun a hr => ?_
 refine ln ?_
 refine wp_block ?_
 refine sr ?_
 refine oo [11, 10] [vB (p0.head_stands == 1), vB (p0.head_stands == 1)] hr fun a hr => ?_
 refine ln ?_
 by_cases c5 : p0.head_stands = 1
 ·
  replace H := ifT c5 H
  refine cond_tt hr (beq_iff_eq.mpr c5) ?_
  refine wp_seq ?_
  obtain ⟨r6, e7, H⟩ := bd1 H
  obtain ⟨r8, S9, e10, H⟩ := bd2 H
  refine reg_E (fun w => heldC w B0 0 ([vI p0.head_t_Base, vI p0.head_t_Frames]) ∧ heldC w B0 2 ([vI p0.head_frame]) ∧ heldC w B0 7 ([vI p0.slot]) ∧ heldC w B0 8 ([vI p0.give]) ∧ True) [2, 3, 4, 7, 8, 9, 12, 13, 15, 17, 18, 20, 21] h (by kernel_rfl) ?_; intro w h
  change wpAnyE _ _ _ _ _ _ 25 (Array.replicate 25 false) a w
  have hgo : ∀ w w', CellsGo w w' → (heldC w B0 0 ([vI p0.head_t_Base, vI p0.head_t_Frames]) ∧ heldC w B0 2 ([vI p0.head_frame]) ∧ heldC w B0 7 ([vI p0.slot]) ∧ heldC w B0 8 ([vI p0.give]) ∧ True) → heldC w' B0 0 ([vI p0.head_t_Base, vI p0.head_t_Frames]) ∧ heldC w' B0 2 ([vI p0.head_frame]) ∧ heldC w' B0 7 ([vI p0.slot]) ∧ heldC w' B0 8 ([vI p0.give]) ∧ True := fun w w' g hD => ⟨heldC_go _ _ _ _ _ g hD.1, heldC_go _ _ _ _ _ g hD.2.1, heldC_go _ _ _ _ _ g hD.2.2.1, heldC_go _ _ _ _ _ g hD.2.2.2.1, trivial⟩
  refine evs 24 0 rfl (wn rfl) hr (.iface 26 (pA B1 0)) fun a hr => ?_
  refine evs 23 1 rfl (wn rfl) hr (pA B0 0) fun a hr => ?_
  refine evDs hgo ⟨(h.held 0 rfl), ⟨h.cell 2 rfl, trivial⟩, ⟨h.cell 7 rfl, trivial⟩, ⟨h.cell 8 rfl, trivial⟩, trivial⟩ 22 2 rfl (wn rfl) hr (pA B0 0) fun a hr => ?_
  refine evDs hgo ⟨(h.held 0 rfl), ⟨h.cell 2 rfl, trivial⟩, ⟨h.cell 7 rfl, trivial⟩, ⟨h.cell 8 rfl, trivial⟩, trivial⟩ 21 3 rfl (wn rfl) hr (pA B0 0) fun a hr => ?_
  refine evDs hgo ⟨(h.held 0 rfl), ⟨h.cell 2 rfl, trivial⟩, ⟨h.cell 7 rfl, trivial⟩, ⟨h.cell 8 rfl, trivial⟩, trivial⟩ 20 4 rfl (wn rfl) hr (pA B0 0) fun a hr => ?_
  refine evs 19 6 rfl (wn rfl) hr (pA B0 0) fun a hr => ?_
  refine evDs hgo ⟨(h.held 0 rfl), ⟨h.cell 2 rfl, trivial⟩, ⟨h.cell 7 rfl, trivial⟩, ⟨h.cell 8 rfl, trivial⟩, trivial⟩ 18 7 rfl (wn rfl) hr (pA B0 0) fun a hr => ?_
  refine evDs hgo ⟨(h.held 0 rfl), ⟨h.cell 2 rfl, trivial⟩, ⟨h.cell 7 rfl, trivial⟩, ⟨h.cell 8 rfl, trivial⟩, trivial⟩ 17 8 rfl (wn rfl) hr (pA B0 0) fun a hr => ?_
  refine evDs hgo ⟨(h.held 0 rfl), ⟨h.cell 2 rfl, trivial⟩, ⟨h.cell 7 rfl, trivial⟩, ⟨h.cell 8 rfl, trivial⟩, trivial⟩ 16 9 rfl (wn rfl) hr (pA B0 2) fun a hr => ?_
  refine evs 15 11 rfl (wn rfl) hr (pA B0 0) fun a hr => ?_
  refine evDs hgo ⟨(h.held 0 rfl), ⟨h.cell 2 rfl, trivial⟩, ⟨h.cell 7 rfl, trivial⟩, ⟨h.cell 8 rfl, trivial⟩, trivial⟩ 14 12 rfl (wn rfl) hr (pA B0 0) fun a hr => ?_
  refine evDs hgo ⟨(h.held 0 rfl), ⟨h.cell 2 rfl, trivial⟩, ⟨h.cell 7 rfl, trivial⟩, ⟨h.cell 8 rfl, trivial⟩, trivial⟩ 13 13 rfl (wn rfl) hr (pA B0 7) fun a hr => ?_
  refine evs 12 16 rfl (wn rfl) hr (pA B0 0) fun a hr => ?_
  refine evDs hgo ⟨(h.held 0 rfl), ⟨h.cell 2 rfl, trivial⟩, ⟨h.cell 7 rfl, trivial⟩, ⟨h.cell 8 rfl, trivial⟩, trivial⟩ 11 17 rfl (wn rfl) hr (pA B0 0) fun a hr => ?_
  refine evDs hgo ⟨(h.held 0 rfl), ⟨h.cell 2 rfl, trivial⟩, ⟨h.cell 7 rfl, trivial⟩, ⟨h.cell 8 rfl, trivial⟩, trivial⟩ 10 18 rfl (wn rfl) hr (pA B0 8) fun a hr => ?_
  refine evDs hgo ⟨(h.held 0 rfl), ⟨h.cell 2 rfl, trivial⟩, ⟨h.cell 7 rfl, trivial⟩, ⟨h.cell 8 rfl, trivial⟩, trivial⟩ 9 20 rfl (wn rfl) hr (.func (.method "Store") #[.iface 26 (pA B1 0)] #[]) fun a hr => ?_
  refine evDs hgo ⟨(h.held 0 rfl), ⟨h.cell 2 rfl, trivial⟩, ⟨h.cell 7 rfl, trivial⟩, ⟨h.cell 8 rfl, trivial⟩, trivial⟩ 8 21 rfl (wn rfl) hr (.func (.method "Store") #[.iface 26 (pA B1 0)] #[]) fun a hr => ?_
  refine evs 7 22 rfl (wn rfl) hr (.iface 26 (pA B1 0)) fun a hr => ?_
  refine el [2, 3, 4, 7, 8, 9, 12, 13, 15, 17, 18, 20, 21] (b := B0) (off := 0) (cs := [vI p0.head_t_Base, vI p0.head_t_Frames]) (fun _ hk => ⟨hk, fun w hD => hD.1⟩) 6 5 rfl (by kernel_rfl) (wn rfl) hr (.agg #[vI p0.head_t_Base, vI p0.head_t_Frames]) (h.held 0 rfl) (fun w hc => rlm (cs := [vI p0.head_t_Base, vI p0.head_t_Frames]) rfl (by kernel_rfl) (by kernel_rfl) (by kernel_rfl) hc) fun a hr => ?_
  refine el [2, 3, 4, 7, 8, 9, 12, 13, 15, 17, 18, 20, 21] (b := B0) (off := 2) (cs := [vI p0.head_frame]) (fun _ hk => ⟨hk, fun w hD => hD.2.1⟩) 5 10 rfl (by kernel_rfl) (wn rfl) hr (vI p0.head_frame) ⟨h.cell 2 rfl, trivial⟩ (fun w hc => rl rfl (by kernel_rfl) (by kernel_rfl) hc.1) fun a hr => ?_
  refine el [2, 3, 4, 7, 8, 9, 12, 13, 15, 17, 18, 20, 21] (b := B0) (off := 7) (cs := [vI p0.slot]) (fun _ hk => ⟨hk, fun w hD => hD.2.2.1⟩) 4 14 rfl (by kernel_rfl) (wn rfl) hr (vI p0.slot) ⟨h.cell 7 rfl, trivial⟩ (fun w hc => rl rfl (by kernel_rfl) (by kernel_rfl) hc.1) fun a hr => ?_
  refine el [2, 3, 4, 7, 8, 9, 12, 13, 15, 17, 18, 20, 21] (b := B0) (off := 8) (cs := [vI p0.give]) (fun _ hk => ⟨hk, fun w hD => hD.2.2.2.1⟩) 3 19 rfl (by kernel_rfl) (wn rfl) hr (vI p0.give) ⟨h.cell 8 rfl, trivial⟩ (fun w hc => rl rfl (by kernel_rfl) (by kernel_rfl) hc.1) fun a hr => ?_
  refine e_one (fuel := 2) (i := 15) (by kernel_rfl) rfl ?_
  have hc := frames_Table__slot_ok (H := e7) (h := h)
  refine cl (wn rfl) hr hc ?_; clear hc h
  rintro _ w ⟨rfl, h⟩; refine ⟨_, rfl, fun a hr => ?_⟩
  refine wpList_nil ?_; refine then_normal ?_
  refine ⟨fun _ => ⟨(h.held 0 rfl), ⟨h.cell 2 rfl, trivial⟩, ⟨h.cell 7 rfl, trivial⟩, ⟨h.cell 8 rfl, trivial⟩, trivial⟩, ?_⟩
  refine e_one (fuel := 1) (i := 23) (by kernel_rfl) rfl ?_
  replace h : Fit z (sepL (ob103 B1 p1 ca1 cc2 ca3 cc4 :: ro2 ca1 cc2 p1.cell :: ro96 ca3 cc4 p1.log :: ob50 B0 p0 :: L)) _ := h.sel 4 [1, 2, 3, 0] (by kernel_rfl) (by kernel_rfl)
  have hc := cells_Arena_Store_ok (H := e10) (h := h)
  refine cl (wn rfl) hr hc ?_; clear hc h
  rintro _ w ⟨caq11, ccq12, caq13, ccq14, rfl, h⟩; refine ⟨_, rfl, fun a hr => ?_⟩
  refine wpList_nil ?_; refine then_normal ?_
  refine ⟨fun hE => absurd hE (by decide), ?_⟩
  refine evs 0 24 rfl (wn rfl) hr (vI r8) fun a hr => ?_
  refine e_end (by kernel_rfl) ?_
  refine then_normal ?_
  refine wp_ret ?_
  refine blk_ret ?_
  refine then_ret ?_
  refine end_ret1 (v := vI r8) rfl hr (by kernel_rfl) ?_
  replace h : Fit z (sepL (ob50 B0 p0 :: ob103 B1 S9 caq11 ccq12 caq13 ccq14 :: ro2 caq11 ccq12 S9.cell :: ro96 caq13 ccq14 S9.log :: L)) _ := h.sel 4 [3, 0, 1, 2] (by kernel_rfl) (by kernel_rfl)
  obtain ⟨rfl, rfl, rfl⟩ := ej3 H
  exact ⟨caq11, ccq12, caq13, ccq14, rfl, h⟩
 ·
  replace H := ifF c5 H
  refine cond_ff hr (beq_eq_false_iff_ne.mpr c5) ?_
  refine sr ?_
  refine oo [37, 36] [vB (p0.head_stands == 2), vB (p0.head_stands == 2)] hr fun a hr => ?_
  refine ln ?_
  by_cases c15 : p0.head_stands = 2
  ·
   replace H := ifT c15 H
   refine cond_tt hr (beq_iff_eq.mpr c15) ?_
   refine sr ?_
   obtain ⟨r16, S17, S18, e19, H⟩ := bd3 H
   refine oo [38, 39] [pA B0 0, .iface 26 (pA B1 0)] hr fun a hr => ?_
   have hc := frames_Op_less_iface_ok (H := e19) (h := h)
   refine cl (wn rfl) hr hc ?_; clear hc h
   rintro _ w ⟨caq20, ccq21, caq22, ccq23, rfl, h⟩; refine ⟨_, rfl, fun a hr => ?_⟩
   refine o1 hr (vI r16) fun a hr => ?_
   refine ln ?_
   refine wp_ret ?_
   refine blk_ret ?_
   refine then_ret ?_
   refine end_ret1 (v := vI r16) rfl hr (by kernel_rfl) ?_
   obtain ⟨rfl, rfl, rfl⟩ := ej3 H
   exact ⟨caq20, ccq21, caq22, ccq23, rfl, h⟩
  ·
   replace H := ifF c15 H
   refine cond_ff hr (beq_eq_false_iff_ne.mpr c15) ?_
   refine wp_skip ?_
   refine blk_normal ?_
   refine then_normal ?_
   refine sr ?_
   obtain ⟨r24, S25, S26, e27, H⟩ := bd3 H
   refine oo [41, 42] [pA B0 0, .iface 26 (pA B1 0)] hr fun a hr => ?_
   have hc := frames_Op_again_iface_ok (H := e27) (h := h)
   refine cl (wn rfl) hr hc ?_; clear hc h
   rintro _ w ⟨caq28, ccq29, caq30, ccq31, rfl, h⟩; refine ⟨_, rfl, fun a hr => ?_⟩
   refine o1 hr (vI r24) fun a hr => ?_
   refine ln ?_
   refine wp_ret ?_
   refine end_ret1 (v := vI r24) rfl hr (by kernel_rfl) ?_
   obtain ⟨rfl, rfl, rfl⟩ := ej3 H
   exact ⟨caq28, ccq29, caq30, ccq31, rfl, h⟩

/-- (*plunder/frames.Op).sync -/
def frames_Op_sync_iface (p0 : T_frames_Op) (p1 : T_cells_Arena) : Option (Int × T_frames_Op × T_cells_Arena) :=
  (if p0.head_stands = 1 then ob3 (frames_Op_less_iface p0 p1 12) (fun r6 S7 S8 => some (r6, S7, S8)) else ob3 (frames_Op_again_iface p0 p1 13) (fun r14 S15 S16 => some (r14, S15, S16)))

set_option maxRecDepth 100000 in
set_option maxHeartbeats 4000000 in
theorem frames_Op_sync_iface_ok {z w : World} {L : List HProp} {p0 : T_frames_Op} {p1 : T_cells_Arena} {B0 : Nat} {B1 : Nat} {ca1 : Option Addr} {cc2 : Nat} {ca3 : Option Addr} {cc4 : Nat} {r0 : Int} {q0 : T_frames_Op} {q1 : T_cells_Arena} (H : frames_Op_sync_iface p0 p1 = some (r0, q0, q1)) (h : Fit z (sepL (ob50 B0 p0 :: ob103 B1 p1 ca1 cc2 ca3 cc4 :: ro2 ca1 cc2 p1.cell :: ro96 ca3 cc4 p1.log :: L)) w)  :
    Calls Try.prog 84 #[pA B0 0, .iface 26 (pA B1 0)] w fun e w => ∃ caq1_1 : Option Addr, ∃ ccq1_2 : Nat, ∃ caq1_3 : Option Addr, ∃ ccq1_4 : Nat, e = .returned (vI r0) ∧ Fit z (sepL (ob50 B0 q0 :: ob103 B1 q1 caq1_1 ccq1_2 caq1_3 ccq1_4 :: ro2 caq1_1 ccq1_2 q1.cell :: ro96 caq1_3 ccq1_4 q1.log :: L)) w := by
 unfold frames_Op_sync_iface at H
 refine enter Try.func84 rfl 17 rfl rfl [(0, pA B0 0), (1, .iface 26 (pA B1 0))] ⟨rfl, rfl, trivial⟩ ?_
 intro j a hr
 refine sr ?_
 refine o1 hr (vI 0) fun a hr => ?_
 refine ln ?_
 refine wp_seq ?_
 refine sr ?_
 refine oo [5, 6, 7, 8] [pA B0 0, pA B0 0, pA B0 0, pA B0 3] hr fun a hr => ?_
 refine ld (wn rfl) hr (vI p0.head_stands) (h.cell 3 rfl) fun a hr => ?_
 refine o1 hr (vB (p0.head_stands == 1)) fun a hr => ?_
 refine ln ?_
 by_cases c5 : p0.head_stands = 1
 ·
  replace H := ifT c5 H
  refine cond_tt hr (beq_iff_eq.mpr c5) ?_
  refine sr ?_
  obtain ⟨r6, S7, S8, e9, H⟩ := bd3 H
  refine oo [11, 12] [pA B0 0, .iface 26 (pA B1 0)] hr fun a hr => ?_
  have hc := frames_Op_less_iface_ok (H := e9) (h := h)
  refine cl (wn rfl) hr hc ?_; clear hc h
  rintro _ w ⟨caq10, ccq11, caq12, ccq13, rfl, h⟩; refine ⟨_, rfl, fun a hr => ?_⟩
  refine o1 hr (vI r6) fun a hr => ?_
  refine ln ?_
  refine wp_ret ?_
  refine then_ret ?_
  refine end_ret1 (v := vI r6) rfl hr (by kernel_rfl) ?_
  obtain ⟨rfl, rfl, rfl⟩ := ej3 H
  exact ⟨caq10, ccq11, caq12, ccq13, rfl, h⟩
 ·
  replace H := ifF c5 H
  refine cond_ff hr (beq_eq_false_iff_ne.mpr c5) ?_
  refine wp_skip ?_
  refine then_normal ?_
  refine sr ?_
  obtain ⟨r14, S15, S16, e17, H⟩ := bd3 H
  refine oo [14, 15] [pA B0 0, .iface 26 (pA B1 0)] hr fun a hr => ?_
  have hc := frames_Op_again_iface_ok (H := e17) (h := h)
  refine cl (wn rfl) hr hc ?_; clear hc h
  rintro _ w ⟨caq18, ccq19, caq20, ccq21, rfl, h⟩; refine ⟨_, rfl, fun a hr => ?_⟩
  refine o1 hr (vI r14) fun a hr => ?_
  refine ln ?_
  refine wp_ret ?_
  refine end_ret1 (v := vI r14) rfl hr (by kernel_rfl) ?_
  obtain ⟨rfl, rfl, rfl⟩ := ej3 H
  exact ⟨caq18, ccq19, caq20, ccq21, rfl, h⟩

/-- (plunder/frames.Table).mark -/
def frames_Table__mark (p0 : T_frames_Table) (p1 : Int) : Option (Int) :=
  ob1 (frames_Table__join p0 p1) (fun r2 => some (wi (r2 + 1)))

set_option maxRecDepth 100000 in
set_option maxHeartbeats 4000000 in
theorem frames_Table__mark_ok {z w : World} {L : List HProp} {p0 : T_frames_Table} {p1 : Int} {r0 : Int} (H : frames_Table__mark p0 p1 = some r0) (h : Fit z (sepL (L)) w)  :
    Calls Try.prog 77 #[ag_T_frames_Table p0, vI p1] w fun e w => e = .returned (vI r0) ∧ Fit z (sepL (L)) w := by
 unfold frames_Table__mark at H
 refine enter Try.func77 rfl 9 rfl rfl [(0, ag_T_frames_Table p0), (1, vI p1)] ⟨rfl, rfl, trivial⟩ ?_
 intro j a hr
 refine sr ?_
 refine onew (wn rfl) hr h nb (ca_T_frames_Table p0) 39 fun b1 w a h hr => ?_
 refine o1 hr (vI 0) fun a hr => ?_
 refine ln ?_
 refine sr ?_
 refine ldm (wn rfl) hr (ag_T_frames_Table p0) (cs := cl_T_frames_Table p0) (h.held 0 rfl) fun a hr => ?_
 obtain ⟨r2, e3, H⟩ := bd1 H
 refine o1 hr (vI p1) fun a hr => ?_
 have hc := frames_Table__join_ok (H := e3) (h := h)
 refine cl (wn rfl) hr hc ?_; clear hc h
 rintro _ w ⟨rfl, h⟩; refine ⟨_, rfl, fun a hr => ?_⟩
 refine oo [8, 4] [vI (wi (r2 + 1)), vI (wi (r2 + 1))] hr fun a hr => ?_
 refine ln ?_
 refine wp_ret ?_
 refine end_ret1 (v := vI (wi (r2 + 1))) rfl hr (by kernel_rfl) ?_
 replace h : Fit z (sepL (L)) _ := h.sel 1 [] (by kernel_rfl) (by kernel_rfl)
 replace H := ej1 H; subst H
 exact ⟨rfl, h⟩

/-- (*plunder/frames.Op).start -/
def frames_Op_start_iface (p0 : T_frames_Op) (p1 : T_cells_Arena) : Option (Int × T_frames_Op × T_cells_Arena) :=
  ob1 (frames_Table__mark (⟨p0.head_t_Base, p0.head_t_Frames⟩ : T_frames_Table) p0.head_frame) (fun r5 => ob3 (cells_Arena_Add p1 r5 1) (fun r7 r8 S9 => (if r8 = 0 then ob1 (frames_head_end p0 14 r7) (fun S16 => some (r8, S16, S9)) else some (r8, p0, S9))))


end Go.Proofs.Ytnghahgfcaolbaa.Mo
