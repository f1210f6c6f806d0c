/- what the functions compute, as plain Lean functions, and that they do -/
import Derived.Test.YtpikpffbcjpmcaaDoorWa1
namespace Go.Proofs.YtpikpffbcjpmcaaDoor.Mo
open Go Go.RowKit Go.Proofs.YtpikpffbcjpmcaaDoor.SL Go.Proofs.YtpikpffbcjpmcaaDoor.GX
set_option linter.unusedVariables false
set_option linter.unusedSimpArgs false
set_option maxRecDepth 100000
set_option maxHeartbeats 4000000
noncomputable section

theorem prog_follow_ok {z w : World} {L : List HProp} {p0 : T_api_Func} {p1 : Int} {va0_Code : Option Addr} {vc0_Code : Nat} {r0 : List Int} (H : prog_follow p0 p1 = some r0) (h : Fit z (sepL (L)) w) (hv0_Code : RdRow L 5 enc_T_api_Instr va0_Code p0.Code) (hg0 : RdRow L 5 enc_T_anon155 (some ⟨0, 0, none⟩) gl0) :
    Calls Tryd.prog 83 #[.agg #[vI p0.Params, vI p0.Regs, vI p0.Slots, .slice va0_Code p0.Code.length vc0_Code], vI p1] w fun e w => ∃ car0_1 ccr0_2, e = .returned (.slice car0_1 r0.length ccr0_2) ∧ Fit z (sepL (ro3 car0_1 ccr0_2 r0 :: L)) w := by
 unfold prog_follow at H
 refine enter Tryd.func83 rfl 47 rfl rfl [(0, .agg #[vI p0.Params, vI p0.Regs, vI p0.Slots, .slice va0_Code p0.Code.length vc0_Code]), (1, vI p1)] ⟨rfl, rfl, trivial⟩ ?_
 intro j a hr
 refine sr ?_
 refine onew (wn rfl) hr h nb (#[vI p0.Params, vI p0.Regs, vI p0.Slots, .slice va0_Code p0.Code.length vc0_Code]) 76 fun b1 w a h hr => ?_
 refine o1 hr (.slice none 0 0) fun a hr => ?_
 refine ln ?_
 refine sr ?_
 refine o1 hr (pA b1 3) fun a hr => ?_
 refine ld (wn rfl) hr (.slice va0_Code p0.Code.length vc0_Code) (h.cell 3 rfl) fun a hr => ?_
 obtain ⟨c2, H⟩ := gd H
 refine o1 hr (vI p1) fun a hr => ?_
 refine opv (wn rfl) hr (pA (blk va0_Code) (offs va0_Code + p1.toNat * 5)) (ri_rd (k := .i64) (E := 108) (cc := vc0_Code) rfl (by kernel_rfl) (by kernel_rfl) rfl (by kernel_rfl) (by kernel_rfl) hv0_Code c2) fun a hr => ?_
 refine ldm (wn rfl) hr (ag_T_api_Instr (at_ p0.Code p1.toNat)) (cs := cl_T_api_Instr (at_ p0.Code p1.toNat)) ⟨hv0_Code.cell c2 (h.dn 1) 0 rfl, hv0_Code.cell c2 (h.dn 1) 1 rfl, hv0_Code.cell c2 (h.dn 1) 2 rfl, hv0_Code.cell c2 (h.dn 1) 3 rfl, hv0_Code.cell c2 (h.dn 1) 4 rfl, trivial⟩ fun a hr => ?_
 refine onew (wn rfl) hr h nb (#[vI 0, vI 0, vI 0, vI 0, vI 0]) 108 fun b3 w a h hr => ?_
 refine stm (wn rfl) hr h 0 (cl_T_api_Instr (at_ p0.Code p1.toNat)) (ob108 b3 (at_ p0.Code p1.toNat)) fun w h => ?_
 refine ln ?_
 refine sr ?_
 refine o1 hr (.slice none 0 0) fun a hr => ?_
 refine ln ?_
 obtain ⟨o8, H, hK7⟩ := kd1 H
 refine cut_rule (β := Unit) (fun _ a w => ∃ ca4 : Option Addr, ∃ cc5 : Nat, ∃ l6 : List Int, l6 = o8 ∧ ∃ j, Rep 47 (lk [(5, pA b3 0), (6, .slice ca4 l6.length cc5)] j) a ∧ Fit z (sepL (ob108 b3 (at_ p0.Code p1.toNat) :: ro3 ca4 cc5 l6 :: L)) w) ?_ ?_
 ·
  refine sr ?_
  refine o1 hr (pA b3 0) fun a hr => ?_
  refine ld (wn rfl) hr (vI (at_ p0.Code p1.toNat).Kind) (h.cell 0 rfl) fun a hr => ?_
  obtain ⟨c9, H⟩ := gd H
  refine opv (wn rfl) hr (pA (blk (some ⟨0, 0, none⟩)) ((at_ p0.Code p1.toNat).Kind.toNat * 5)) (ri_arr (xs := gl0) (k := .i64) (E := 155) rfl (by kernel_rfl) (by kernel_rfl) (by kernel_rfl) (by kernel_rfl) rfl c9) fun a hr => ?_
  refine o1 hr (pA (blk (some ⟨0, 0, none⟩)) ((at_ p0.Code p1.toNat).Kind.toNat * 5 + 4)) fun a hr => ?_
  refine ld (wn rfl) hr (vB (at_ gl0 (at_ p0.Code p1.toNat).Kind.toNat).next) (hg0.cell0 c9 (h.dn 2) 4 rfl) fun a hr => ?_
  refine o1 hr (vB (at_ gl0 (at_ p0.Code p1.toNat).Kind.toNat).next) fun a hr => ?_
  by_cases c10 : (at_ gl0 (at_ p0.Code p1.toNat).Kind.toNat).next = true
  ·
   replace H := ifT c10 H
   refine onl (c10) [18, 19, 20] [vI p1, vI (wi (p1 + 1)), pA b1 3] hr fun a hr => ?_
   refine ld (wgt hr (c10)) hr (.slice va0_Code p0.Code.length vc0_Code) ((h.pick 1).cell 3 rfl) fun a hr => ?_
   refine onl (c10) [22, 23] [vI ((p0.Code.length : Nat) : Int), vB (decide ((wi (p1 + 1)) < ((p0.Code.length : Nat) : Int)))] hr fun a hr => ?_
   refine opv (wn rfl) hr (vB (decide ((wi (p1 + 1)) < ((p0.Code.length : Nat) : Int)))) (rp_t (b := (at_ gl0 (at_ p0.Code p1.toNat).Kind.toNat).next) rfl (by kernel_rfl) (c10) (by kernel_rfl)) fun a hr => ?_
   refine ln ?_
   refine cD hr H (fun c11 H => ?_) fun c11 H => ?_
   ·
    refine wp_region_lit ?_
    refine oo [25, 26, 27] [.slice none 0 0, vI p1, vI (wi (p1 + 1))] hr fun a hr => ?_
    refine onew (wn rfl) hr h (fun b => .slice (some ⟨b, 0, none⟩) 1 1) (#[vI (wi (p1 + 1))]) 3 fun b12 w a h hr => ?_
    replace h := h.row_nil (e := 3) (sz := 1) (enc := encZ_i64)
    obtain ⟨c15, H⟩ := gd H
    refine op_append (n0 := 0) (c := 1) (bytes := 8) (wn rfl) rfl rfl hr rfl (by kernel_rfl) (by kernel_rfl) encZ_i64_ok (E := 3) (xs := ([] : List Int)) (by kernel_rfl) (by kernel_rfl) h (news := [wi (p1 + 1)]) (m := 1) rfl ((h.pick 1).news rfl) c15 rfl fun ca13 cc14 w a h hr => ?_
    refine o1 hr (.slice ca13 (([] : List Int) ++ [wi (p1 + 1)]).length cc14) fun a hr => ?_
    refine ln ?_
    exact ⟨(), ca13, cc14, (([] : List Int) ++ [wi (p1 + 1)]), sinj H, hr.fj (h.se 4 [2, 0])⟩
   ·
    refine wp_skip ?_
    refine then_normal ?_
    replace h := h.row_nil (e := 3) (sz := 1) (enc := encZ_i64)
    exact ⟨(), none, 0, ([] : List Int), sinj H, hr.fj (h.se 3 [1, 0])⟩
  ·
   replace H := ifF c10 H
   refine offl (bF c10) [18, 19, 20, 21, 22, 23] hr fun a hr => ?_
   refine opv (wn rfl) hr (vB false) (rp_f (b := (at_ gl0 (at_ p0.Code p1.toNat).Kind.toNat).next) rfl (by kernel_rfl) (bF c10) (by kernel_rfl)) fun a hr => ?_
   refine ln ?_
   refine cond_ff hr (b := false) rfl ?_
   refine wp_skip ?_
   refine then_normal ?_
   replace h := h.row_nil (e := 3) (sz := 1) (enc := encZ_i64)
   exact ⟨(), none, 0, ([] : List Int), sinj H, hr.fj (h.se 3 [1, 0])⟩
 clear h hr a; rintro _ a w ⟨ca4, cc5, l6, rfl, j, hr, h⟩
 replace H := kk1 hK7
 refine wp_seq ?_
 refine sr ?_
 refine o1 hr (pA b3 0) fun a hr => ?_
 refine ld (wn rfl) hr (vI (at_ p0.Code p1.toNat).Kind) (h.cell 0 rfl) fun a hr => ?_
 refine ln ?_
 refine wp_block ?_
 refine sr ?_
 refine oo [33, 32] [vB ((at_ p0.Code p1.toNat).Kind == 3), vB ((at_ p0.Code p1.toNat).Kind == 3)] hr fun a hr => ?_
 refine ln ?_
 refine cD hr H (fun c16 H => ?_) fun c16 H => ?_
 ·
  refine wp_region_lit ?_
  refine oo [34, 35] [.slice ca4 l6.length cc5, pA b3 1] hr fun a hr => ?_
  refine ld (wn rfl) hr (vI (at_ p0.Code p1.toNat).A) (h.cell 1 rfl) fun a hr => ?_
  refine onew (wn rfl) hr h (fun b => .slice (some ⟨b, 0, none⟩) 1 1) (#[vI (at_ p0.Code p1.toNat).A]) 3 fun b17 w a h hr => ?_
  replace h := h.m2
  obtain ⟨c20, H⟩ := gd H
  refine op_append (n0 := l6.length) (c := 1) (bytes := 8) (wn rfl) rfl rfl hr rfl (by kernel_rfl) (by kernel_rfl) encZ_i64_ok (E := 3) (xs := l6) (by kernel_rfl) (by kernel_rfl) h (news := [(at_ p0.Code p1.toNat).A]) (m := 1) rfl ((h.pick 1).news rfl) c20 rfl fun ca18 cc19 w a h hr => ?_
  refine o1 hr (.slice ca18 (l6 ++ [(at_ p0.Code p1.toNat).A]).length cc19) fun a hr => ?_
  refine wpList_nil ?_
  refine blk_normal ?_
  refine then_normal ?_
  refine sr ?_
  refine oo [46, 4] [.slice ca18 (l6 ++ [(at_ p0.Code p1.toNat).A]).length cc19, .slice ca18 (l6 ++ [(at_ p0.Code p1.toNat).A]).length cc19] hr fun a hr => ?_
  refine ln ?_
  refine wp_ret ?_
  refine end_ret1 (v := .slice ca18 (l6 ++ [(at_ p0.Code p1.toNat).A]).length cc19) rfl hr (by kernel_rfl) ?_
  replace H := ej1 H; subst H
  exact ⟨ca18, cc19, rfl, h.se 3 [0]⟩
 ·
  refine sr ?_
  refine oo [40, 39] [vB ((at_ p0.Code p1.toNat).Kind == 4), vB ((at_ p0.Code p1.toNat).Kind == 4)] hr fun a hr => ?_
  refine ln ?_
  refine cD hr H (fun c21 H => ?_) fun c21 H => ?_
  ·
   refine wp_region_lit ?_
   refine oo [41, 42] [.slice ca4 l6.length cc5, pA b3 2] hr fun a hr => ?_
   refine ld (wn rfl) hr (vI (at_ p0.Code p1.toNat).B) (h.cell 2 rfl) fun a hr => ?_
   refine onew (wn rfl) hr h (fun b => .slice (some ⟨b, 0, none⟩) 1 1) (#[vI (at_ p0.Code p1.toNat).B]) 3 fun b22 w a h hr => ?_
   replace h := h.m2
   obtain ⟨c25, H⟩ := gd H
   refine op_append (n0 := l6.length) (c := 1) (bytes := 8) (wn rfl) rfl rfl hr rfl (by kernel_rfl) (by kernel_rfl) encZ_i64_ok (E := 3) (xs := l6) (by kernel_rfl) (by kernel_rfl) h (news := [(at_ p0.Code p1.toNat).B]) (m := 1) rfl ((h.pick 1).news rfl) c25 rfl fun ca23 cc24 w a h hr => ?_
   refine o1 hr (.slice ca23 (l6 ++ [(at_ p0.Code p1.toNat).B]).length cc24) fun a hr => ?_
   refine wpList_nil ?_
   refine blk_normal ?_
   refine then_normal ?_
   refine sr ?_
   refine oo [46, 4] [.slice ca23 (l6 ++ [(at_ p0.Code p1.toNat).B]).length cc24, .slice ca23 (l6 ++ [(at_ p0.Code p1.toNat).B]).length cc24] hr fun a hr => ?_
   refine ln ?_
   refine wp_ret ?_
   refine end_ret1 (v := .slice ca23 (l6 ++ [(at_ p0.Code p1.toNat).B]).length cc24) rfl hr (by kernel_rfl) ?_
   replace H := ej1 H; subst H
   exact ⟨ca23, cc24, rfl, h.se 3 [0]⟩
  ·
   refine wp_skip ?_
   refine blk_normal ?_
   refine then_normal ?_
   refine sr ?_
   refine oo [46, 4] [.slice ca4 l6.length cc5, .slice ca4 l6.length cc5] hr fun a hr => ?_
   refine ln ?_
   refine wp_ret ?_
   refine end_ret1 (v := .slice ca4 l6.length cc5) rfl hr (by kernel_rfl) ?_
   replace H := ej1 H; subst H
   exact ⟨ca4, cc5, rfl, h.se 2 [1]⟩

/-- plunder/prog.behind -/
def prog_behind (p0 : T_api_Instr) (p1 : Int) (p2 : Int) : Option (Int) :=
  (if p0.Kind = 5 then (if p0.A = p1 then some 2 else (if p0.Kind = 6 then (if p2 = 2 then some 4 else some p2) else some p2)) else (if p0.Kind = 6 then (if p2 = 2 then some 4 else some p2) else some p2))

theorem prog_behind_ok {z w : World} {L : List HProp} {p0 : T_api_Instr} {p1 p2 r0 : Int} (H : prog_behind p0 p1 p2 = some r0) (h : Fit z (sepL (L)) w)  :
    Calls Tryd.prog 82 #[ag_T_api_Instr p0, vI p1, vI p2] w fun e w => e = .returned (vI r0) ∧ Fit z (sepL (L)) w := by
 unfold prog_behind at H
 refine enter Tryd.func82 rfl 26 rfl rfl [(0, ag_T_api_Instr p0), (1, vI p1), (2, vI p2)] ⟨rfl, rfl, rfl, trivial⟩ ?_
 intro j a hr
 refine sr ?_
 refine onew (wn rfl) hr h nb (ca_T_api_Instr p0) 108 fun b1 w a h hr => ?_
 refine o1 hr (vI 0) fun a hr => ?_
 refine ln ?_
 refine wp_seq ?_
 refine wp_block ?_
 refine sr ?_
 refine o1 hr (pA b1 0) fun a hr => ?_
 refine ld (wn rfl) hr (vI p0.Kind) (h.cell 0 rfl) fun a hr => ?_
 refine oo [10, 11] [vB (p0.Kind == 5), vB (p0.Kind == 5)] hr fun a hr => ?_
 by_cases c2 : p0.Kind = 5
 ·
  replace H := ifT c2 H
  refine onl (beq_iff_eq.mpr c2) [12] [pA b1 1] hr fun a hr => ?_
  refine ld (wgt hr (beq_iff_eq.mpr c2)) hr (vI p0.A) (h.cell 1 rfl) fun a hr => ?_
  refine onl (beq_iff_eq.mpr c2) [14, 15] [vI p1, vB (p0.A == p1)] hr fun a hr => ?_
  refine opv (wn rfl) hr (vB (p0.A == p1)) (rp_t (b := (p0.Kind == 5)) rfl (by kernel_rfl) (beq_iff_eq.mpr c2) (by kernel_rfl)) fun a hr => ?_
  refine o1 hr (vB (p0.A == p1)) fun a hr => ?_
  refine ln ?_
  refine cD hr H (fun c3 H => ?_) fun c3 H => ?_
  ·
   refine sr ?_
   refine o1 hr (vI 2) fun a hr => ?_
   refine ln ?_
   refine wp_ret ?_
   refine blk_ret ?_
   refine then_ret ?_
   refine end_ret1 (v := vI 2) rfl hr (by kernel_rfl) ?_
   replace H := ej1 H; subst H
   exact ⟨rfl, h.se 1 []⟩
  ·
   refine sr ?_
   refine o1 hr (pA b1 0) fun a hr => ?_
   refine ld (wn rfl) hr (vI p0.Kind) (h.cell 0 rfl) fun a hr => ?_
   refine oo [20, 21] [vB (p0.Kind == 6), vB (p0.Kind == 6)] hr fun a hr => ?_
   by_cases c4 : p0.Kind = 6
   ·
    replace H := ifT c4 H
    refine onl (beq_iff_eq.mpr c4) [22, 23] [vI p2, vB (p2 == 2)] hr fun a hr => ?_
    refine opv (wn rfl) hr (vB (p2 == 2)) (rp_t (b := (p0.Kind == 6)) rfl (by kernel_rfl) (beq_iff_eq.mpr c4) (by kernel_rfl)) fun a hr => ?_
    refine o1 hr (vB (p2 == 2)) fun a hr => ?_
    refine ln ?_
    refine cD hr H (fun c5 H => ?_) fun c5 H => ?_
    ·
     refine sr ?_
     refine o1 hr (vI 4) fun a hr => ?_
     refine ln ?_
     refine wp_ret ?_
     refine blk_ret ?_
     refine then_ret ?_
     refine end_ret1 (v := vI 4) rfl hr (by kernel_rfl) ?_
     replace H := ej1 H; subst H
     exact ⟨rfl, h.se 1 []⟩
    ·
     refine wp_skip ?_
     refine blk_normal ?_
     refine then_normal ?_
     refine sr ?_
     refine oo [25, 6] [vI p2, vI p2] hr fun a hr => ?_
     refine ln ?_
     refine wp_ret ?_
     refine end_ret1 (v := vI p2) rfl hr (by kernel_rfl) ?_
     replace H := ej1 H; subst H
     exact ⟨rfl, h.se 1 []⟩
   ·
    replace H := ifF c4 H
    refine offl (beq_eq_false_iff_ne.mpr c4) [22, 23] hr fun a hr => ?_
    refine opv (wn rfl) hr (vB false) (rp_f (b := (p0.Kind == 6)) rfl (by kernel_rfl) (beq_eq_false_iff_ne.mpr c4) (by kernel_rfl)) fun a hr => ?_
    refine o1 hr (vB false) fun a hr => ?_
    refine ln ?_
    refine cond_ff hr (b := false) rfl ?_
    refine wp_skip ?_
    refine blk_normal ?_
    refine then_normal ?_
    refine sr ?_
    refine oo [25, 6] [vI p2, vI p2] hr fun a hr => ?_
    refine ln ?_
    refine wp_ret ?_
    refine end_ret1 (v := vI p2) rfl hr (by kernel_rfl) ?_
    replace H := ej1 H; subst H
    exact ⟨rfl, h.se 1 []⟩
 ·
  replace H := ifF c2 H
  refine offl (beq_eq_false_iff_ne.mpr c2) [12, 13, 14, 15] hr fun a hr => ?_
  refine opv (wn rfl) hr (vB false) (rp_f (b := (p0.Kind == 5)) rfl (by kernel_rfl) (beq_eq_false_iff_ne.mpr c2) (by kernel_rfl)) fun a hr => ?_
  refine o1 hr (vB false) fun a hr => ?_
  refine ln ?_
  refine cond_ff hr (b := false) rfl ?_
  refine sr ?_
  refine o1 hr (pA b1 0) fun a hr => ?_
  refine ld (wn rfl) hr (vI p0.Kind) (h.cell 0 rfl) fun a hr => ?_
  refine oo [20, 21] [vB (p0.Kind == 6), vB (p0.Kind == 6)] hr fun a hr => ?_
  by_cases c6 : p0.Kind = 6
  ·
   replace H := ifT c6 H
   refine onl (beq_iff_eq.mpr c6) [22, 23] [vI p2, vB (p2 == 2)] hr fun a hr => ?_
   refine opv (wn rfl) hr (vB (p2 == 2)) (rp_t (b := (p0.Kind == 6)) rfl (by kernel_rfl) (beq_iff_eq.mpr c6) (by kernel_rfl)) fun a hr => ?_
   refine o1 hr (vB (p2 == 2)) fun a hr => ?_
   refine ln ?_
   refine cD hr H (fun c7 H => ?_) fun c7 H => ?_
   ·
    refine sr ?_
    refine o1 hr (vI 4) fun a hr => ?_
    refine ln ?_
    refine wp_ret ?_
    refine blk_ret ?_
    refine then_ret ?_
    refine end_ret1 (v := vI 4) rfl hr (by kernel_rfl) ?_
    replace H := ej1 H; subst H
    exact ⟨rfl, h.se 1 []⟩
   ·
    refine wp_skip ?_
    refine blk_normal ?_
    refine then_normal ?_
    refine sr ?_
    refine oo [25, 6] [vI p2, vI p2] hr fun a hr => ?_
    refine ln ?_
    refine wp_ret ?_
    refine end_ret1 (v := vI p2) rfl hr (by kernel_rfl) ?_
    replace H := ej1 H; subst H
    exact ⟨rfl, h.se 1 []⟩
  ·
   replace H := ifF c6 H
   refine offl (beq_eq_false_iff_ne.mpr c6) [22, 23] hr fun a hr => ?_
   refine opv (wn rfl) hr (vB false) (rp_f (b := (p0.Kind == 6)) rfl (by kernel_rfl) (beq_eq_false_iff_ne.mpr c6) (by kernel_rfl)) fun a hr => ?_
   refine o1 hr (vB false) fun a hr => ?_
   refine ln ?_
   refine cond_ff hr (b := false) rfl ?_
   refine wp_skip ?_
   refine blk_normal ?_
   refine then_normal ?_
   refine sr ?_
   refine oo [25, 6] [vI p2, vI p2] hr fun a hr => ?_
   refine ln ?_
   refine wp_ret ?_
   refine end_ret1 (v := vI p2) rfl hr (by kernel_rfl) ?_
   replace H := ej1 H; subst H
   exact ⟨rfl, h.se 1 []⟩

def prog_instructions_l1 (K : Nat) (p0 : Int) (p1 : T_api_Func) (p2 : List T_api_Func) : Nat → Int → Option ((Unit) ⊕ ((Unit) ⊕ T_prog_wrong))
  | 0, _ => none
  | k1 + 1, g4 => (if g4 < ((p1.Code.length : Nat) : Int) then if inr_ g4 p1.Code.length then ob1 (prog_instrOK (at_ p1.Code g4.toNat) p1 p2) (fun r8 => (if r8 = true then (prog_instructions_l1 K p0 p1 p2 k1 (wi (g4 + 1))) else some (.inr (.inr (⟨52, p0, g4⟩ : T_prog_wrong))))) else none else some (.inl ()))
/-- plunder/prog.instructions -/
def prog_instructions (K : Nat) (p0 : Int) (p1 : T_api_Func) (p2 : List T_api_Func) : Option ((Unit) ⊕ T_prog_wrong) :=
  jn0 ((prog_instructions_l1 K p0 p1 p2 K 0)) (ob1 (prog_lastOK p1) (fun r11 => (if r11 = true then some (.inl ()) else some (.inr (⟨53, p0, wi (((p1.Code.length : Nat) : Int) - 1)⟩ : T_prog_wrong)))))

theorem prog_instructions_ok0 {z w : World} {L : List HProp} {K : Nat} {p0 : Int} {p1 : T_api_Func} {p2 : List T_api_Func} {va1_Code va2 : Option Addr} {vc1_Code vc2 : Nat} {hs2 : Nat → Option Addr × Nat} (H : prog_instructions K p0 p1 p2 = some (.inl ())) (h : Fit z (sepL (L)) w) (hv1_Code : RdRow L 5 enc_T_api_Instr va1_Code p1.Code) (hv2 : Rd76 L va2 hs2 p2) (hg0 : RdRow L 5 enc_T_anon155 (some ⟨0, 0, none⟩) gl0) :
    Calls Tryd.prog 49 #[vI p0, .agg #[vI p1.Params, vI p1.Regs, vI p1.Slots, .slice va1_Code p1.Code.length vc1_Code], .slice va2 p2.length vc2] w fun e w => e = .returned (.tuple #[]) ∧ Fit z (sepL (L)) w := by
 unfold prog_instructions at H
 refine enter Tryd.func49 rfl 38 rfl rfl [(0, vI p0), (1, .agg #[vI p1.Params, vI p1.Regs, vI p1.Slots, .slice va1_Code p1.Code.length vc1_Code]), (2, .slice va2 p2.length vc2)] ⟨rfl, rfl, rfl, trivial⟩ ?_
 intro j a hr
 refine sr ?_
 refine onew (wn rfl) hr h nb (#[vI p1.Params, vI p1.Regs, vI p1.Slots, .slice va1_Code p1.Code.length vc1_Code]) 76 fun b1 w a h hr => ?_
 refine ln ?_
 obtain ⟨o3, H, hK2⟩ := jd0 H
 refine cut_rule (β := Unit) (fun _ a w => .inl () = o3 ∧ ∃ j, Rep 38 (lk [(0, vI p0), (4, pA b1 0)] j) a ∧ Fit z (sepL (ob76 b1 p1 va1_Code vc1_Code :: L)) w) ?_ ?_
 ·
  refine sr ?_
  refine o1 hr (pA b1 3) fun a hr => ?_
  refine ld (wn rfl) hr (.slice va1_Code p1.Code.length vc1_Code) (h.cell 3 rfl) fun a hr => ?_
  refine oo [10, 11] [vI ((p1.Code.length : Nat) : Int), vI 0] hr fun a hr => ?_
  refine ln ?_
  refine wp_block ?_
  refine loop_rule (β := Nat) id (fun m a w => ∃ g4 : Int, (prog_instructions_l1 K p0 p1 p2 m g4) = some o3 ∧ ∃ j, Rep 38 (lk [(0, vI p0), (2, .slice va2 p2.length vc2), (4, pA b1 0), (9, .slice va1_Code p1.Code.length vc1_Code), (10, vI ((p1.Code.length : Nat) : Int)), (11, vI g4)] j) a ∧ Fit z (sepL (ob76 b1 p1 va1_Code vc1_Code :: L)) w) K ⟨0, H, hr.fj h⟩ ?_
  clear h hr a H; rintro k1 a w ⟨g4, H, j, hr, h⟩
  cases k1 with
  | zero => exact absurd H (by simp [prog_instructions_l1])
  | succ k1 =>
   rw [prog_instructions_l1] at H
   refine sr ?_
   refine o1 hr (vB (decide (g4 < ((p1.Code.length : Nat) : Int)))) fun a hr => ?_
   refine ln ?_
   refine wp_seq ?_
   refine cD hr H (fun c5 H => ?_) fun c5 H => ?_
   ·
    refine wp_skip ?_
    refine then_normal ?_
    refine wp_seq ?_
    refine wp_block ?_
    refine sr ?_
    obtain ⟨c6, H⟩ := gd H
    refine o1 hr (vI g4) fun a hr => ?_
    refine opv (wn rfl) hr (pA (blk va1_Code) (offs va1_Code + g4.toNat * 5)) (ri_rd (k := .i64) (E := 108) (cc := vc1_Code) rfl (by kernel_rfl) (by kernel_rfl) rfl (by kernel_rfl) (by kernel_rfl) hv1_Code c6) fun a hr => ?_
    refine ldm (wn rfl) hr (ag_T_api_Instr (at_ p1.Code g4.toNat)) (cs := cl_T_api_Instr (at_ p1.Code g4.toNat)) ⟨hv1_Code.cell c6 (h.dn 1) 0 rfl, hv1_Code.cell c6 (h.dn 1) 1 rfl, hv1_Code.cell c6 (h.dn 1) 2 rfl, hv1_Code.cell c6 (h.dn 1) 3 rfl, hv1_Code.cell c6 (h.dn 1) 4 rfl, trivial⟩ fun a hr => ?_
    refine onew (wn rfl) hr h nb (#[vI 0, vI 0, vI 0, vI 0, vI 0]) 108 fun b7 w a h hr => ?_
    refine o1 hr (vI g4) fun a hr => ?_
    refine stm (wn rfl) hr h 0 (cl_T_api_Instr (at_ p1.Code g4.toNat)) (ob108 b7 (at_ p1.Code g4.toNat)) fun w h => ?_
    refine ln ?_
    refine sr ?_
    refine ldm (wn rfl) hr (ag_T_api_Instr (at_ p1.Code g4.toNat)) (cs := cl_T_api_Instr (at_ p1.Code g4.toNat)) (h.held 0 rfl) fun a hr => ?_
    refine ldm (wn rfl) hr (.agg #[vI p1.Params, vI p1.Regs, vI p1.Slots, .slice va1_Code p1.Code.length vc1_Code]) (cs := [vI p1.Params, vI p1.Regs, vI p1.Slots, .slice va1_Code p1.Code.length vc1_Code]) ((h.pick 1).held 0 rfl) fun a hr => ?_
    obtain ⟨r8, e9, H⟩ := bd1 H
    refine o1 hr (.slice va2 p2.length vc2) fun a hr => ?_
    have hc := prog_instrOK_ok (va2 := va2) (vc2 := vc2) (hv2 := (RdN.up 2 hv2)) (va1_Code := va1_Code) (vc1_Code := vc1_Code) (hv1_Code := (RdRow.up 2 hv1_Code)) (hg0 := RdRow.up 2 hg0) (hs2 := hs2) (H := e9) (h := h)
    refine cl (wn rfl) hr hc ?_; clear hc h
    rintro _ w ⟨rfl, h⟩; refine ⟨_, rfl, fun a hr => ?_⟩
    refine o1 hr (vB (!r8)) fun a hr => ?_
    refine ln ?_
    refine cM hr H (fun c10 H => ?_) fun c10 H => ?_
    ·
     refine wp_skip ?_
     refine blk_normal ?_
     refine then_normal ?_
     refine wp_region_lit ?_
     refine oo [26, 11] [vI (wi (g4 + 1)), vI (wi (g4 + 1))] hr fun a hr => ?_
     refine ln ?_
     exact ⟨_, ⟨(wi (g4 + 1)), H, hr.fj (h.se 2 [1])⟩, Nat.lt_succ_self _⟩
    ·
     refine wp_region_lit ?_
     refine oo [21, 22, 23, 24, 25] [vI p0, vI g4, .agg #[vI 52, vI p0, vI g4], .agg #[vI 52, vI p0, vI g4], .iface 138 (.agg #[vI 52, vI p0, vI g4])] hr fun a hr => ?_
     refine op_pan (wn rfl) hr rfl (T := 138) (u := .agg #[vI 52, vI p0, vI g4]) (by kernel_rfl) ?_
     refine blk_pan ?_
     refine then_pan ?_
     refine then_pan ?_
     refine blk_pan ?_
     refine then_pan ?_
     refine end_pan hr ?_
     replace H := jx0 H hK2
     cases H
   ·
    refine wp_exit ?_
    refine then_exit ?_
    refine then_exit ?_
    refine blk_here ?_
    refine then_normal ?_
    exact ⟨(), sinj H, hr.fj h⟩
 clear h hr a; rintro _ a w ⟨rfl, j, hr, h⟩
 replace H := jk0 hK2
 refine sr ?_
 refine ldm (wn rfl) hr (.agg #[vI p1.Params, vI p1.Regs, vI p1.Slots, .slice va1_Code p1.Code.length vc1_Code]) (cs := [vI p1.Params, vI p1.Regs, vI p1.Slots, .slice va1_Code p1.Code.length vc1_Code]) (h.held 0 rfl) fun a hr => ?_
 obtain ⟨r11, e12, H⟩ := bd1 H
 have hc := prog_lastOK_ok (va0_Code := va1_Code) (vc0_Code := vc1_Code) (hv0_Code := (RdRow.up 1 hv1_Code)) (H := e12) (h := h)
 refine cl (wn rfl) hr hc ?_; clear hc h
 rintro _ w ⟨rfl, h⟩; refine ⟨_, rfl, fun a hr => ?_⟩
 refine o1 hr (vB (!r11)) fun a hr => ?_
 refine ln ?_
 refine cM hr H (fun c13 H => ?_) fun c13 H => ?_
 ·
  refine wp_skip ?_
  refine end_norm0 rfl hr ?_
  cases H
  exact ⟨rfl, h.se 1 []⟩
 ·
  refine wp_region_lit ?_
  refine oo [30, 31] [vI p0, pA b1 3] hr fun a hr => ?_
  refine ld (wn rfl) hr (.slice va1_Code p1.Code.length vc1_Code) (h.cell 3 rfl) fun a hr => ?_
  refine oo [33, 34, 35, 36, 37] [vI ((p1.Code.length : Nat) : Int), vI (wi (((p1.Code.length : Nat) : Int) - 1)), .agg #[vI 53, vI p0, vI (wi (((p1.Code.length : Nat) : Int) - 1))], .agg #[vI 53, vI p0, vI (wi (((p1.Code.length : Nat) : Int) - 1))], .iface 138 (.agg #[vI 53, vI p0, vI (wi (((p1.Code.length : Nat) : Int) - 1))])] hr fun a hr => ?_
  refine op_pan (wn rfl) hr rfl (T := 138) (u := .agg #[vI 53, vI p0, vI (wi (((p1.Code.length : Nat) : Int) - 1))]) (by kernel_rfl) ?_
  refine end_pan hr ?_
  cases H

theorem prog_instructions_ok1 {z w : World} {L : List HProp} {K : Nat} {p0 : Int} {p1 : T_api_Func} {p2 : List T_api_Func} {va1_Code va2 : Option Addr} {vc1_Code vc2 : Nat} {hs2 : Nat → Option Addr × Nat} {rP : T_prog_wrong} (H : prog_instructions K p0 p1 p2 = some (.inr rP)) (h : Fit z (sepL (L)) w) (hv1_Code : RdRow L 5 enc_T_api_Instr va1_Code p1.Code) (hv2 : Rd76 L va2 hs2 p2) (hg0 : RdRow L 5 enc_T_anon155 (some ⟨0, 0, none⟩) gl0) :
    Calls Tryd.prog 49 #[vI p0, .agg #[vI p1.Params, vI p1.Regs, vI p1.Slots, .slice va1_Code p1.Code.length vc1_Code], .slice va2 p2.length vc2] w fun e w => e = .panicked [{ v := .iface 138 (ag_T_prog_wrong rP), recovered := false }] ∧ Fit z (sepL (L)) w := by
 unfold prog_instructions at H
 refine enter Tryd.func49 rfl 38 rfl rfl [(0, vI p0), (1, .agg #[vI p1.Params, vI p1.Regs, vI p1.Slots, .slice va1_Code p1.Code.length vc1_Code]), (2, .slice va2 p2.length vc2)] ⟨rfl, rfl, rfl, trivial⟩ ?_
 intro j a hr
 refine sr ?_
 refine onew (wn rfl) hr h nb (#[vI p1.Params, vI p1.Regs, vI p1.Slots, .slice va1_Code p1.Code.length vc1_Code]) 76 fun b1 w a h hr => ?_
 refine ln ?_
 obtain ⟨o3, H, hK2⟩ := jd0 H
 refine cut_rule (β := Unit) (fun _ a w => .inl () = o3 ∧ ∃ j, Rep 38 (lk [(0, vI p0), (4, pA b1 0)] j) a ∧ Fit z (sepL (ob76 b1 p1 va1_Code vc1_Code :: L)) w) ?_ ?_
 ·
  refine sr ?_
  refine o1 hr (pA b1 3) fun a hr => ?_
  refine ld (wn rfl) hr (.slice va1_Code p1.Code.length vc1_Code) (h.cell 3 rfl) fun a hr => ?_
  refine oo [10, 11] [vI ((p1.Code.length : Nat) : Int), vI 0] hr fun a hr => ?_
  refine ln ?_
  refine wp_block ?_
  refine loop_rule (β := Nat) id (fun m a w => ∃ g4 : Int, (prog_instructions_l1 K p0 p1 p2 m g4) = some o3 ∧ ∃ j, Rep 38 (lk [(0, vI p0), (2, .slice va2 p2.length vc2), (4, pA b1 0), (9, .slice va1_Code p1.Code.length vc1_Code), (10, vI ((p1.Code.length : Nat) : Int)), (11, vI g4)] j) a ∧ Fit z (sepL (ob76 b1 p1 va1_Code vc1_Code :: L)) w) K ⟨0, H, hr.fj h⟩ ?_
  clear h hr a H; rintro k1 a w ⟨g4, H, j, hr, h⟩
  cases k1 with
  | zero => exact absurd H (by simp [prog_instructions_l1])
  | succ k1 =>
   rw [prog_instructions_l1] at H
   refine sr ?_
   refine o1 hr (vB (decide (g4 < ((p1.Code.length : Nat) : Int)))) fun a hr => ?_
   refine ln ?_
   refine wp_seq ?_
   refine cD hr H (fun c5 H => ?_) fun c5 H => ?_
   ·
    refine wp_skip ?_
    refine then_normal ?_
    refine wp_seq ?_
    refine wp_block ?_
    refine sr ?_
    obtain ⟨c6, H⟩ := gd H
    refine o1 hr (vI g4) fun a hr => ?_
    refine opv (wn rfl) hr (pA (blk va1_Code) (offs va1_Code + g4.toNat * 5)) (ri_rd (k := .i64) (E := 108) (cc := vc1_Code) rfl (by kernel_rfl) (by kernel_rfl) rfl (by kernel_rfl) (by kernel_rfl) hv1_Code c6) fun a hr => ?_
    refine ldm (wn rfl) hr (ag_T_api_Instr (at_ p1.Code g4.toNat)) (cs := cl_T_api_Instr (at_ p1.Code g4.toNat)) ⟨hv1_Code.cell c6 (h.dn 1) 0 rfl, hv1_Code.cell c6 (h.dn 1) 1 rfl, hv1_Code.cell c6 (h.dn 1) 2 rfl, hv1_Code.cell c6 (h.dn 1) 3 rfl, hv1_Code.cell c6 (h.dn 1) 4 rfl, trivial⟩ fun a hr => ?_
    refine onew (wn rfl) hr h nb (#[vI 0, vI 0, vI 0, vI 0, vI 0]) 108 fun b7 w a h hr => ?_
    refine o1 hr (vI g4) fun a hr => ?_
    refine stm (wn rfl) hr h 0 (cl_T_api_Instr (at_ p1.Code g4.toNat)) (ob108 b7 (at_ p1.Code g4.toNat)) fun w h => ?_
    refine ln ?_
    refine sr ?_
    refine ldm (wn rfl) hr (ag_T_api_Instr (at_ p1.Code g4.toNat)) (cs := cl_T_api_Instr (at_ p1.Code g4.toNat)) (h.held 0 rfl) fun a hr => ?_
    refine ldm (wn rfl) hr (.agg #[vI p1.Params, vI p1.Regs, vI p1.Slots, .slice va1_Code p1.Code.length vc1_Code]) (cs := [vI p1.Params, vI p1.Regs, vI p1.Slots, .slice va1_Code p1.Code.length vc1_Code]) ((h.pick 1).held 0 rfl) fun a hr => ?_
    obtain ⟨r8, e9, H⟩ := bd1 H
    refine o1 hr (.slice va2 p2.length vc2) fun a hr => ?_
    have hc := prog_instrOK_ok (va2 := va2) (vc2 := vc2) (hv2 := (RdN.up 2 hv2)) (va1_Code := va1_Code) (vc1_Code := vc1_Code) (hv1_Code := (RdRow.up 2 hv1_Code)) (hg0 := RdRow.up 2 hg0) (hs2 := hs2) (H := e9) (h := h)
    refine cl (wn rfl) hr hc ?_; clear hc h
    rintro _ w ⟨rfl, h⟩; refine ⟨_, rfl, fun a hr => ?_⟩
    refine o1 hr (vB (!r8)) fun a hr => ?_
    refine ln ?_
    refine cM hr H (fun c10 H => ?_) fun c10 H => ?_
    ·
     refine wp_skip ?_
     refine blk_normal ?_
     refine then_normal ?_
     refine wp_region_lit ?_
     refine oo [26, 11] [vI (wi (g4 + 1)), vI (wi (g4 + 1))] hr fun a hr => ?_
     refine ln ?_
     exact ⟨_, ⟨(wi (g4 + 1)), H, hr.fj (h.se 2 [1])⟩, Nat.lt_succ_self _⟩
    ·
     refine wp_region_lit ?_
     refine oo [21, 22, 23, 24, 25] [vI p0, vI g4, .agg #[vI 52, vI p0, vI g4], .agg #[vI 52, vI p0, vI g4], .iface 138 (.agg #[vI 52, vI p0, vI g4])] hr fun a hr => ?_
     refine op_pan (wn rfl) hr rfl (T := 138) (u := .agg #[vI 52, vI p0, vI g4]) (by kernel_rfl) ?_
     refine blk_pan ?_
     refine then_pan ?_
     refine then_pan ?_
     refine blk_pan ?_
     refine then_pan ?_
     refine end_pan hr ?_
     replace H := jx0 H hK2
     replace H := ejR H; subst H
     exact ⟨rfl, h.se 2 []⟩
   ·
    refine wp_exit ?_
    refine then_exit ?_
    refine then_exit ?_
    refine blk_here ?_
    refine then_normal ?_
    exact ⟨(), sinj H, hr.fj h⟩
 clear h hr a; rintro _ a w ⟨rfl, j, hr, h⟩
 replace H := jk0 hK2
 refine sr ?_
 refine ldm (wn rfl) hr (.agg #[vI p1.Params, vI p1.Regs, vI p1.Slots, .slice va1_Code p1.Code.length vc1_Code]) (cs := [vI p1.Params, vI p1.Regs, vI p1.Slots, .slice va1_Code p1.Code.length vc1_Code]) (h.held 0 rfl) fun a hr => ?_
 obtain ⟨r11, e12, H⟩ := bd1 H
 have hc := prog_lastOK_ok (va0_Code := va1_Code) (vc0_Code := vc1_Code) (hv0_Code := (RdRow.up 1 hv1_Code)) (H := e12) (h := h)
 refine cl (wn rfl) hr hc ?_; clear hc h
 rintro _ w ⟨rfl, h⟩; refine ⟨_, rfl, fun a hr => ?_⟩
 refine o1 hr (vB (!r11)) fun a hr => ?_
 refine ln ?_
 refine cM hr H (fun c13 H => ?_) fun c13 H => ?_
 ·
  refine wp_skip ?_
  refine end_norm0 rfl hr ?_
  cases H
 ·
  refine wp_region_lit ?_
  refine oo [30, 31] [vI p0, pA b1 3] hr fun a hr => ?_
  refine ld (wn rfl) hr (.slice va1_Code p1.Code.length vc1_Code) (h.cell 3 rfl) fun a hr => ?_
  refine oo [33, 34, 35, 36, 37] [vI ((p1.Code.length : Nat) : Int), vI (wi (((p1.Code.length : Nat) : Int) - 1)), .agg #[vI 53, vI p0, vI (wi (((p1.Code.length : Nat) : Int) - 1))], .agg #[vI 53, vI p0, vI (wi (((p1.Code.length : Nat) : Int) - 1))], .iface 138 (.agg #[vI 53, vI p0, vI (wi (((p1.Code.length : Nat) : Int) - 1))])] hr fun a hr => ?_
  refine op_pan (wn rfl) hr rfl (T := 138) (u := .agg #[vI 53, vI p0, vI (wi (((p1.Code.length : Nat) : Int) - 1))]) (by kernel_rfl) ?_
  refine end_pan hr ?_
  replace H := ejR H; subst H
  exact ⟨rfl, h.se 1 []⟩

/-- plunder/prog.states$1 -/
def prog_states_1 (p0 : T_prog_point) : Option (Bool) :=
  some false

theorem prog_states_1_ok {z w : World} {L : List HProp} {p0 : T_prog_point} {r0 : Bool} (H : prog_states_1 p0 = some r0) (h : Fit z (sepL (L)) w)  :
    Calls Tryd.prog 76 #[ag_T_prog_point p0] w fun e w => e = .returned (vB r0) ∧ Fit z (sepL (L)) w := by
 unfold prog_states_1 at H
 refine enter Tryd.func76 rfl 3 rfl rfl [(0, ag_T_prog_point p0)] ⟨rfl, trivial⟩ ?_
 intro j a hr
 refine sr ?_
 refine onew (wn rfl) hr h nb (ca_T_prog_point p0) 161 fun b1 w a h hr => ?_
 refine o1 hr (vB false) fun a hr => ?_
 refine ln ?_
 refine sr ?_
 refine o1 hr (vB false) fun a hr => ?_
 refine ln ?_
 refine wp_ret ?_
 refine end_ret1 (v := vB false) rfl hr (by kernel_rfl) ?_
 replace H := ej1 H; subst H
 exact ⟨rfl, h.se 1 []⟩

def prog_search_f76_l2 (K : Nat) (l8 : List T_prog_point) (r21 : Int) (r23 : List Int) : Nat → (List (T_prog_point × T_prog_point)) → (List T_prog_point) → Int → Option ((List (T_prog_point × T_prog_point)) × (List T_prog_point))
  | 0, _, _, _ => none
  | k2 + 1, l33, l36, g37 => (if g37 < ((r23.length : Nat) : Int) then if inr_ g37 r23.length then (if (mget l33 (⟨(at_ r23 g37.toNat), r21⟩ : T_prog_point)).isSome = true then (prog_search_f76_l2 K l8 r21 r23 k2 l33 l36 (wi (g37 + 1))) else if mget l33 (⟨(at_ r23 g37.toNat), r21⟩ : T_prog_point) = none then if (l36.length + 1) * 16 ≤ 140737488355328 then (prog_search_f76_l2 K l8 r21 r23 k2 (l33 ++ [((⟨(at_ r23 g37.toNat), r21⟩ : T_prog_point), at_ l8 0)]) (l36 ++ [(⟨(at_ r23 g37.toNat), r21⟩ : T_prog_point)]) (wi (g37 + 1))) else none else none) else none else some (l33, l36))
def prog_search_f76_l1 (K : Nat) (p0 : T_api_Func) (p1 : Int) : Nat → (List (T_prog_point × T_prog_point)) → (List T_prog_point) → Option ((List (T_prog_point × T_prog_point)))
  | 0, _, _ => none
  | k1 + 1, l5, l8 => (if ((l8.length : Nat) : Int) > 0 then if inr_ (0 : Int) l8.length then if 0 ≤ (1 : Int) ∧ (1 : Int) ≤ ((l8.length : Nat) : Int) then if 0 < l8.length then ob1 (prog_states_1 (at_ l8 0)) (fun r17 => (if r17 = true then some l5 else if inr_ (at_ l8 0).at_ p0.Code.length then ob1 (prog_behind (at_ p0.Code (at_ l8 0).at_.toNat) p1 (at_ l8 0).state) (fun r21 => ob1 (prog_follow p0 (at_ l8 0).at_) (fun r23 => ob2 ((prog_search_f76_l2 K l8 r21 r23 K l5 (l8.drop 1) 0)) (fun l27 l30 => (prog_search_f76_l1 K p0 p1 k1 l27 l30)))) else none)) else none else none else none else some l5)
/-- plunder/prog.search -/
def prog_search_f76 (K : Nat) (p0 : T_api_Func) (p1 : Int) : Option ((List (T_prog_point × T_prog_point))) :=
  (prog_search_f76_l1 K p0 p1 K (([] : List (T_prog_point × T_prog_point)) ++ [((⟨0, 1⟩ : T_prog_point), (⟨-1, 0⟩ : T_prog_point))]) ([(⟨0, 1⟩ : T_prog_point)]))

theorem prog_search_f76_ok {z w : World} {L : List HProp} {K : Nat} {p0 : T_api_Func} {p1 : Int} {va0_Code : Option Addr} {vc0_Code : Nat} {r0 : List (T_prog_point × T_prog_point)} (H : prog_search_f76 K p0 p1 = some r0) (h : Fit z (sepL (L)) w) (hv0_Code : RdRow L 5 enc_T_api_Instr va0_Code p0.Code) (hg0 : RdRow L 5 enc_T_anon155 (some ⟨0, 0, none⟩) gl0) :
    Calls Tryd.prog 75 #[.agg #[vI p0.Params, vI p0.Regs, vI p0.Slots, .slice va0_Code p0.Code.length vc0_Code], vI p1, .func (.func 76) #[] #[]] w fun e w => ∃ Bn0, e = .returned (.map (some Bn0)) ∧ Fit z (sepL (mapOf enc_T_prog_point enc_T_prog_point Bn0 r0 :: L)) w := by
 unfold prog_search_f76 at H
 refine enter Tryd.func75 rfl 73 rfl rfl [(0, .agg #[vI p0.Params, vI p0.Regs, vI p0.Slots, .slice va0_Code p0.Code.length vc0_Code]), (1, vI p1), (2, .func (.func 76) #[] #[])] ⟨rfl, rfl, rfl, trivial⟩ ?_
 intro j a hr
 refine sr ?_
 refine onew (wn rfl) hr h nb (#[vI p0.Params, vI p0.Regs, vI p0.Slots, .slice va0_Code p0.Code.length vc0_Code]) 76 fun b1 w a h hr => ?_
 refine o1 hr (.map none) fun a hr => ?_
 refine ln ?_
 refine wp_scope_straight ?_
 refine sr ?_
 refine o1 hr (.agg #[vI 0, vI 1]) fun a hr => ?_
 refine onew (wn rfl) hr h nb (#[vI 0, vI 0]) 161 fun b2 w a h hr => ?_
 refine stm (wn rfl) hr h 0 ([vI 0, vI 1]) (pts b2 (.cells #[vI 0, vI 1] 161)) fun w h => ?_
 refine ln ?_
 refine sr ?_
 refine op_mkmap (wn rfl) rfl rfl hr rfl enc_T_prog_point enc_T_prog_point h fun b3 w a h hr => ?_
 refine ldm (wn rfl) hr (.agg #[vI 0, vI 1]) (cs := [vI 0, vI 1]) ((h.pick 1).held 0 rfl) fun a hr => ?_
 refine o1 hr (.agg #[vI (-1), vI 0]) fun a hr => ?_
 refine op_lay (t := 158) (et := 161) (wn rfl) rfl hr (Or.inr rfl) (by kernel_rfl) (⟨0, 1⟩ : T_prog_point) (⟨-1, 0⟩ : T_prog_point) (by kernel_rfl) (by kernel_rfl) (by kernel_rfl) key_161 rfl h fun w h => ?_
 refine oo [21, 8] [.map (some b3), .map (some b3)] hr fun a hr => ?_
 refine ln ?_
 refine sr ?_
 refine ldm (wn rfl) hr (.agg #[vI 0, vI 1]) (cs := [vI 0, vI 1]) ((h.pick 1).held 0 rfl) fun a hr => ?_
 refine onew (wn rfl) hr h (fun b => .slice (some ⟨b, 0, none⟩) 1 1) (#[vI 0, vI 1]) 161 fun b4 w a h hr => ?_
 replace h := Fit.pts_row (n := 1) (l := [(⟨0, 1⟩ : T_prog_point)]) (by rfl) (by rfl) enc_T_prog_point_ok (by decide) h
 refine o1 hr (.slice (some ⟨b4, 0, none⟩) 1 1) fun a hr => ?_
 refine ln ?_
 refine wp_seq ?_
 refine wp_label ?_
 refine then_normal ?_
 refine wp_seq ?_
 refine wp_block ?_
 replace h := h.rowT_in
 have hn8 : 1 = ([(⟨0, 1⟩ : T_prog_point)]).length := h.rowT_n; replace h := Fit.ren0 hn8 (fun q_ => rowT 161 2 enc_T_prog_point (.slice (some ⟨b4, 0, none⟩) q_ 1) ([(⟨0, 1⟩ : T_prog_point)])) h
 replace hr := hr.re 9 (congrArg (fun q_ => Value.slice (some ⟨b4, 0, none⟩) q_ 1) hn8)
 refine loop_rule (β := Nat) id (fun m a w => ∃ ca6 : Option Addr, ∃ cc7 : Nat, ∃ l5 : List (T_prog_point × T_prog_point), ∃ l8 : List T_prog_point, (prog_search_f76_l1 K p0 p1 m l5 l8) = some r0 ∧ ∃ j, Rep 73 (lk [(1, vI p1), (2, .func (.func 76) #[] #[]), (3, pA b1 0), (8, .map (some b3)), (9, .slice ca6 l8.length cc7)] j) a ∧ Fit z (sepL (ob76 b1 p0 va0_Code vc0_Code :: mapOf enc_T_prog_point enc_T_prog_point b3 l5 :: rowT 161 2 enc_T_prog_point (.slice ca6 l8.length cc7) l8 :: L)) w) K ⟨(some ⟨b4, 0, none⟩), 1, (([] : List (T_prog_point × T_prog_point)) ++ [((⟨0, 1⟩ : T_prog_point), (⟨-1, 0⟩ : T_prog_point))]), ([(⟨0, 1⟩ : T_prog_point)]), H, hr.fj (h.se 4 [3, 1, 0])⟩ ?_
 clear h hr a H; rintro k1 a w ⟨ca6, cc7, l5, l8, H, j, hr, h⟩
 cases k1 with
 | zero => exact absurd H (by simp [prog_search_f76_l1])
 | succ k1 =>
  rw [prog_search_f76_l1] at H
  refine wp_seq ?_
  refine sr ?_
  refine oo [24, 25, 26] [.slice ca6 l8.length cc7, vI ((l8.length : Nat) : Int), vB (decide (((l8.length : Nat) : Int) > 0))] hr fun a hr => ?_
  refine ln ?_
  refine cD hr H (fun c10 H => ?_) fun c10 H => ?_
  ·
   refine wp_skip ?_
   refine then_normal ?_
   refine wp_block ?_
   refine sr ?_
   obtain ⟨c11, H⟩ := gd H
   refine o1 hr (.slice ca6 l8.length cc7) fun a hr => ?_
   refine opv (wn rfl) hr (pA (blk ca6) (offs ca6 + 0 * 2)) (ri_T (i := (0 : Int)) (k := .i64) (E := 161) rfl (by kernel_rfl) (by kernel_rfl) (by kernel_rfl) (by kernel_rfl) (h.pick 2) c11) fun a hr => ?_
   refine ldm (wn rfl) hr (ag_T_prog_point (at_ l8 0)) (cs := cl_T_prog_point (at_ l8 0)) ⟨(h.pick 2).rowT_get enc_T_prog_point_ok (f := 0) (at_ok c11) rfl, (h.pick 2).rowT_get enc_T_prog_point_ok (f := 1) (at_ok c11) rfl, trivial⟩ fun a hr => ?_
   refine onew (wn rfl) hr h nb (#[vI 0, vI 0]) 161 fun b12 w a h hr => ?_
   refine stm (wn rfl) hr h 0 (cl_T_prog_point (at_ l8 0)) (ob161 b12 (at_ l8 0)) fun w h => ?_
   refine ln ?_
   refine sr ?_
   obtain ⟨c13, H⟩ := gd H
   obtain ⟨c14, H⟩ := gd H
   refine o1 hr (.slice ca6 l8.length cc7) fun a hr => ?_
   replace h := h.m3
   refine op_tail (k := .i64) (wn rfl) rfl rfl hr rfl (by kernel_rfl) (by kernel_rfl) (E := 161) (by kernel_rfl) (by kernel_rfl) enc_T_prog_point_ok h c13 c14 fun ca15 cc16 a h hr => ?_
   refine o1 hr (.slice ca15 (l8.drop 1).length cc16) fun a hr => ?_
   refine ln ?_
   refine wp_seq ?_
   refine sr ?_
   refine o1 hr (.func (.func 76) #[] #[]) fun a hr => ?_
   refine ldm (wn rfl) hr (ag_T_prog_point (at_ l8 0)) (cs := cl_T_prog_point (at_ l8 0)) ((h.pick 1).held 0 rfl) fun a hr => ?_
   obtain ⟨r17, e18, H⟩ := bd1 H
   have hc := prog_states_1_ok (H := e18) (h := h)
   refine cl (wn rfl) hr hc ?_; clear hc h
   rintro _ w ⟨rfl, h⟩; refine ⟨_, rfl, fun a hr => ?_⟩
   refine ln ?_
   refine cV hr H (fun c19 H => ?_) fun c19 H => ?_
   ·
    refine wp_exit ?_
    refine then_exit ?_
    refine blk_other (by decide) ?_
    refine then_exit ?_
    refine blk_here ?_
    refine then_normal ?_
    refine sr ?_
    refine oo [72, 6] [.map (some b3), .map (some b3)] hr fun a hr => ?_
    refine ln ?_
    refine wp_ret ?_
    refine sc_ret ?_
    refine end_ret1 (v := .map (some b3)) rfl hr (by kernel_rfl) ?_
    replace H := ej1 H; subst H
    exact ⟨b3, rfl, h.se 4 [3]⟩
   ·
    refine wp_skip ?_
    refine then_normal ?_
    refine wp_seq ?_
    obtain ⟨c20, H⟩ := gd H
    obtain ⟨r21, e22, H⟩ := bd1 H
    refine regL [(b1, 3, [.slice va0_Code p0.Code.length vc0_Code]), (b12, 0, [vI (at_ l8 0).at_]), (blk va0_Code, offs va0_Code + (at_ l8 0).at_.toNat * 5, cl_T_api_Instr (at_ p0.Code (at_ l8 0).at_.toNat)), (b12, 1, [vI (at_ l8 0).state])] [0, 2, 4, 7] 11 h (fun h => ⟨⟨(h.pick 2).cell 3 rfl, trivial⟩, ⟨(h.pick 1).cell 0 rfl, trivial⟩, ⟨hv0_Code.cell c20 (h.dn 4) 0 rfl, hv0_Code.cell c20 (h.dn 4) 1 rfl, hv0_Code.cell c20 (h.dn 4) 2 rfl, hv0_Code.cell c20 (h.dn 4) 3 rfl, hv0_Code.cell c20 (h.dn 4) 4 rfl, trivial⟩, ⟨(h.pick 1).cell 1 rfl, trivial⟩, trivial⟩) fun w h hd => ?_
    refine evs' hd 7 [(0, 35, pA b1 3), (2, 37, pA b12 0), (6, 41, vI p1), (7, 42, pA b12 1)] hr fun a hr => ?_
    refine elx hd 0 6 1 hr (wn rfl) rfl rfl fun a hr => ?_
    refine elx hd 1 5 3 hr (wn rfl) rfl rfl fun a hr => ?_
    refine eon hd 4 4 rfl (wn rfl) hr (pA (blk va0_Code) (offs va0_Code + (at_ l8 0).at_.toNat * 5)) (hrun := fun w => ri_rd (k := .i64) (E := 108) (cc := vc0_Code) rfl (by kernel_rfl) (by kernel_rfl) rfl (by kernel_rfl) (by kernel_rfl) hv0_Code c20) fun a hr => ?_
    refine elm hd 2 3 5 hr (wn rfl) rfl rfl fun a hr => ?_
    refine elx hd 3 2 8 hr (wn rfl) rfl rfl fun a hr => ?_
    refine eo1 9 rfl ?_
    have hc := prog_behind_ok (H := e22) (h := h)
    refine cl (wn rfl) hr hc ?_; clear hc h
    rintro _ w ⟨rfl, h⟩; refine ⟨_, rfl, fun a hr => ?_⟩
    refine ln ?_
    refine xE ?_
    refine evs 0 10 rfl (wn rfl) hr (vI r21) fun a hr => ?_
    refine een ?_
    refine then_normal ?_
    refine sr ?_
    refine ldm (wn rfl) hr (.agg #[vI p0.Params, vI p0.Regs, vI p0.Slots, .slice va0_Code p0.Code.length vc0_Code]) (cs := [vI p0.Params, vI p0.Regs, vI p0.Slots, .slice va0_Code p0.Code.length vc0_Code]) ((h.pick 2).held 0 rfl) fun a hr => ?_
    refine o1 hr (pA b12 0) fun a hr => ?_
    refine ld (wn rfl) hr (vI (at_ l8 0).at_) ((h.pick 1).cell 0 rfl) fun a hr => ?_
    obtain ⟨r23, e24, H⟩ := bd1 H
    have hc := prog_follow_ok (va0_Code := va0_Code) (vc0_Code := vc0_Code) (hv0_Code := (RdRow.up 4 hv0_Code)) (hg0 := RdRow.up 4 hg0) (H := e24) (h := h)
    refine cl (wn rfl) hr hc ?_; clear hc h
    rintro _ w ⟨car25, ccr26, rfl, h⟩; refine ⟨_, rfl, fun a hr => ?_⟩
    refine oo [49, 50] [vI ((r23.length : Nat) : Int), vI 0] hr fun a hr => ?_
    refine ln ?_
    obtain ⟨o32, H, hK31⟩ := kd2 H
    refine cut_mid (fun a w => ∃ ca28 : Option Addr, ∃ cc29 : Nat, ∃ l27 : List (T_prog_point × T_prog_point), ∃ l30 : List T_prog_point, (l27, l30) = o32 ∧ ∃ j, Rep 73 (lk [(1, vI p1), (2, .func (.func 76) #[] #[]), (3, pA b1 0), (8, .map (some b3)), (9, .slice ca28 l30.length cc29)] j) a ∧ Fit z (sepL (ob76 b1 p0 va0_Code vc0_Code :: mapOf enc_T_prog_point enc_T_prog_point b3 l27 :: rowT 161 2 enc_T_prog_point (.slice ca28 l30.length cc29) l30 :: L)) w) ?_ ?_
    ·
     refine wp_block ?_
     refine loop_rule (β := Nat) id (fun m a w => ∃ ca34 : Option Addr, ∃ cc35 : Nat, ∃ l33 : List (T_prog_point × T_prog_point), ∃ l36 : List T_prog_point, ∃ g37 : Int, (prog_search_f76_l2 K l8 r21 r23 m l33 l36 g37) = some o32 ∧ ∃ j, Rep 73 (lk [(1, vI p1), (2, .func (.func 76) #[] #[]), (3, pA b1 0), (8, .map (some b3)), (9, .slice ca34 l36.length cc35), (10, pA b12 0), (11, vI r21), (48, .slice car25 r23.length ccr26), (49, vI ((r23.length : Nat) : Int)), (50, vI g37)] j) a ∧ Fit z (sepL (ob76 b1 p0 va0_Code vc0_Code :: mapOf enc_T_prog_point enc_T_prog_point b3 l33 :: rowT 161 2 enc_T_prog_point (.slice ca34 l36.length cc35) l36 :: ob161 b12 (at_ l8 0) :: ro3 car25 ccr26 r23 :: L)) w) K ⟨ca15, cc16, l5, (l8.drop 1), 0, H, hr.fj (h.se 5 [3, 4, 1, 2, 0])⟩ ?_
     clear h hr a H; rintro k2 a w ⟨ca34, cc35, l33, l36, g37, H, j, hr, h⟩
     cases k2 with
     | zero => exact absurd H (by simp [prog_search_f76_l2])
     | succ k2 =>
      rw [prog_search_f76_l2] at H
      refine sr ?_
      refine o1 hr (vB (decide (g37 < ((r23.length : Nat) : Int)))) fun a hr => ?_
      refine ln ?_
      refine wp_seq ?_
      refine cD hr H (fun c38 H => ?_) fun c38 H => ?_
      ·
       refine wp_skip ?_
       refine then_normal ?_
       refine wp_seq ?_
       refine wp_block ?_
       refine sr ?_
       obtain ⟨c39, H⟩ := gd H
       refine opv (wn rfl) hr (pA (blk car25) (g37.toNat * 1)) (ri_row (k := .i64) (E := 3) rfl (by kernel_rfl) (by kernel_rfl) (by kernel_rfl) (by kernel_rfl) (h.pick 4) c39) fun a hr => ?_
       refine ld (wn rfl) hr (vI (at_ r23 g37.toNat)) ((h.pick 4).row_cell encZ_i64_ok (f := 0) (at_ok c39) rfl) fun a hr => ?_
       refine o1 hr (vI (at_ r23 g37.toNat)) fun a hr => ?_
       refine ln ?_
       refine sr ?_
       refine oo [54, 55, 56] [vI (at_ r23 g37.toNat), vI r21, .agg #[vI (at_ r23 g37.toNat), vI r21]] hr fun a hr => ?_
       refine onew (wn rfl) hr h nb (#[vI 0, vI 0]) 161 fun b40 w a h hr => ?_
       refine stm (wn rfl) hr h 0 ([vI (at_ r23 g37.toNat), vI r21]) (pts b40 (.cells #[vI (at_ r23 g37.toNat), vI r21] 161)) fun w h => ?_
       refine ln ?_
       refine wp_seq ?_
       refine sr ?_
       refine o1 hr (.map (some b3)) fun a hr => ?_
       refine ldm (wn rfl) hr (.agg #[vI (at_ r23 g37.toNat), vI r21]) (cs := [vI (at_ r23 g37.toNat), vI r21]) (h.held 0 rfl) fun a hr => ?_
       refine op_look (et := 161) (wn rfl) rfl rfl hr rfl (by kernel_rfl) (⟨(at_ r23 g37.toNat), r21⟩ : T_prog_point) (by kernel_rfl) (by kernel_rfl) key_161 (v0 := (⟨0, 0⟩ : T_prog_point)) (by kernel_rfl) (h.pick 2) fun a hr => ?_
       refine oo [57, 61, 62] [.tuple #[ag_T_prog_point ((mget l33 (⟨(at_ r23 g37.toNat), r21⟩ : T_prog_point)).getD (⟨0, 0⟩ : T_prog_point)), vB (mget l33 (⟨(at_ r23 g37.toNat), r21⟩ : T_prog_point)).isSome], ag_T_prog_point ((mget l33 (⟨(at_ r23 g37.toNat), r21⟩ : T_prog_point)).getD (⟨0, 0⟩ : T_prog_point)), vB (mget l33 (⟨(at_ r23 g37.toNat), r21⟩ : T_prog_point)).isSome] hr fun a hr => ?_
       refine onew (wn rfl) hr h nb (#[vI 0, vI 0]) 161 fun b41 w a h hr => ?_
       refine stm (wn rfl) hr h 0 (cl_T_prog_point ((mget l33 (⟨(at_ r23 g37.toNat), r21⟩ : T_prog_point)).getD (⟨0, 0⟩ : T_prog_point))) (ob161 b41 ((mget l33 (⟨(at_ r23 g37.toNat), r21⟩ : T_prog_point)).getD (⟨0, 0⟩ : T_prog_point))) fun w h => ?_
       refine o1 hr (vB (mget l33 (⟨(at_ r23 g37.toNat), r21⟩ : T_prog_point)).isSome) fun a hr => ?_
       refine ln ?_
       refine sr ?_
       refine o1 hr (vB (mget l33 (⟨(at_ r23 g37.toNat), r21⟩ : T_prog_point)).isSome) fun a hr => ?_
       refine ln ?_
       refine cV hr H (fun c42 H => ?_) fun c42 H => ?_
       ·
        refine wp_exit ?_
        refine then_exit ?_
        refine blk_here ?_
        refine then_normal ?_
        refine wp_region_lit ?_
        refine oo [71, 50] [vI (wi (g37 + 1)), vI (wi (g37 + 1))] hr fun a hr => ?_
        refine ln ?_
        exact ⟨_, ⟨ca34, cc35, l33, l36, (wi (g37 + 1)), H, hr.fj (h.se 7 [2, 3, 4, 5, 6])⟩, Nat.lt_succ_self _⟩
       ·
        refine wp_skip ?_
        refine then_normal ?_
        refine sr ?_
        refine o1 hr (.map (some b3)) fun a hr => ?_
        refine ldm (wn rfl) hr (.agg #[vI (at_ r23 g37.toNat), vI r21]) (cs := [vI (at_ r23 g37.toNat), vI r21]) ((h.pick 1).held 0 rfl) fun a hr => ?_
        refine ldm (wn rfl) hr (ag_T_prog_point (at_ l8 0)) (cs := cl_T_prog_point (at_ l8 0)) ((h.pick 5).held 0 rfl) fun a hr => ?_
        replace h := h.m3
        obtain ⟨c43, H⟩ := gd H
        refine op_lay (t := 158) (et := 161) (wn rfl) rfl hr (Or.inl rfl) (by kernel_rfl) (⟨(at_ r23 g37.toNat), r21⟩ : T_prog_point) (at_ l8 0) (by kernel_rfl) (by kernel_rfl) (by kernel_rfl) key_161 c43 h fun w h => ?_
        refine ln ?_
        refine wp_region_lit ?_
        refine o1 hr (.slice ca34 l36.length cc35) fun a hr => ?_
        refine ldm (wn rfl) hr (.agg #[vI (at_ r23 g37.toNat), vI r21]) (cs := [vI (at_ r23 g37.toNat), vI r21]) ((h.pick 2).held 0 rfl) fun a hr => ?_
        refine onew (wn rfl) hr h (fun b => .slice (some ⟨b, 0, none⟩) 1 1) (#[vI (at_ r23 g37.toNat), vI r21]) 161 fun b44 w a h hr => ?_
        replace h := h.m5
        obtain ⟨c47, H⟩ := gd H
        refine op_append_T (n0 := l36.length) (c := 1) (bytes := 16) (wn rfl) rfl rfl hr rfl (by kernel_rfl) (by kernel_rfl) enc_T_prog_point_ok (E := 161) (xs := l36) (by kernel_rfl) (by kernel_rfl) h (news := [(⟨(at_ r23 g37.toNat), r21⟩ : T_prog_point)]) (m := 1) rfl ((h.pick 1).news rfl) c47 rfl fun ca45 cc46 w a h hr => ?_
        refine o1 hr (.slice ca45 (l36 ++ [(⟨(at_ r23 g37.toNat), r21⟩ : T_prog_point)]).length cc46) fun a hr => ?_
        refine wpList_nil ?_
        refine blk_normal ?_
        refine then_normal ?_
        refine wp_region_lit ?_
        refine oo [71, 50] [vI (wi (g37 + 1)), vI (wi (g37 + 1))] hr fun a hr => ?_
        refine ln ?_
        exact ⟨_, ⟨ca45, cc46, (l33 ++ [((⟨(at_ r23 g37.toNat), r21⟩ : T_prog_point), at_ l8 0)]), (l36 ++ [(⟨(at_ r23 g37.toNat), r21⟩ : T_prog_point)]), (wi (g37 + 1)), H, hr.fj (h.se 8 [5, 2, 0, 6, 7])⟩, Nat.lt_succ_self _⟩
      ·
       refine wp_exit ?_
       refine then_exit ?_
       refine then_exit ?_
       refine blk_here ?_
       refine then_normal ?_
       exact ⟨ca34, cc35, l33, l36, sinj H, hr.fj (h.se 5 [0, 1, 2])⟩
    clear h hr a; rintro a w ⟨ca28, cc29, l27, l30, rfl, j, hr, h⟩
    replace H := kk2 hK31
    refine blk_normal ?_
    refine then_normal ?_
    exact ⟨_, ⟨ca28, cc29, l27, l30, H, hr.fj h⟩, Nat.lt_succ_self _⟩
  ·
   refine wp_exit ?_
   refine then_exit ?_
   refine then_exit ?_
   refine blk_here ?_
   refine then_normal ?_
   refine sr ?_
   refine oo [72, 6] [.map (some b3), .map (some b3)] hr fun a hr => ?_
   refine ln ?_
   refine wp_ret ?_
   refine sc_ret ?_
   refine end_ret1 (v := .map (some b3)) rfl hr (by kernel_rfl) ?_
   replace H := ej1 H; subst H
   exact ⟨b3, rfl, h.se 3 [1]⟩

def prog_states_l1 (K : Nat) (p0 : T_api_Func) : Nat → (List (List Int)) → Int → Option ((List (List Int)))
  | 0, _, _ => none
  | k1 + 1, l7, g8 => (if g8 < (((List.replicate p0.Code.length ([] : List Int)).length : Nat) : Int) then if 0 ≤ p0.Slots ∧ p0.Slots * 8 ≤ 140737488355328 then if inr_ g8 l7.length then (prog_states_l1 K p0 k1 (l7.set g8.toNat (List.replicate p0.Slots.toNat (0 : Int))) (wi (g8 + 1))) else none else none else some l7)
def prog_states_l3 (K : Nat) (g18 : Int) (x32 : (T_prog_point × T_prog_point)) : (List (List Int)) → Option ((List (List Int)))
  | l28 => if inr_ x32.1.at_ l28.length then if inr_ g18 (at_ l28 x32.1.at_.toNat).length then some (l28.set x32.1.at_.toNat ((at_ l28 x32.1.at_.toNat).set g18.toNat (bor (at_ (at_ l28 x32.1.at_.toNat) g18.toNat) x32.1.state))) else none else none
def prog_states_l2 (K : Nat) (p0 : T_api_Func) : Nat → (List (List Int)) → Int → Option ((List (List Int)))
  | 0, _, _ => none
  | k2 + 1, l17, g18 => (if g18 < p0.Slots then ob1 (ob1 (prog_search_f76 K p0 g18) (fun r23 => (ob1 (permFold (prog_states_l3 K g18) l17 r23) (fun l28 => some l28)))) (fun l20 => (prog_states_l2 K p0 k2 l20 (wi (g18 + 1)))) else some l17)
/-- plunder/prog.states -/
def prog_states (K : Nat) (p0 : T_api_Func) : Option ((List (List Int))) :=
  if 0 ≤ ((p0.Code.length : Nat) : Int) ∧ ((p0.Code.length : Nat) : Int) * 24 ≤ 140737488355328 then ob1 ((prog_states_l1 K p0 K (List.replicate p0.Code.length ([] : List Int)) 0)) (fun l4 => (prog_states_l2 K p0 K l4 0)) else none

theorem prog_states_ok {z w : World} {L : List HProp} {K : Nat} {p0 : T_api_Func} {va0_Code : Option Addr} {vc0_Code : Nat} {r0 : List (List Int)} (H : prog_states K p0 = some r0) (h : Fit z (sepL (L)) w) (hv0_Code : RdRow L 5 enc_T_api_Instr va0_Code p0.Code) (hg0 : RdRow L 5 enc_T_anon155 (some ⟨0, 0, none⟩) gl0) :
    Calls Tryd.prog 64 #[.agg #[vI p0.Params, vI p0.Regs, vI p0.Slots, .slice va0_Code p0.Code.length vc0_Code]] w fun e w => ∃ car0_1 ccr0_2, e = .returned (.slice car0_1 r0.length ccr0_2) ∧ Fit z (sepL (rn28 car0_1 ccr0_2 r0 :: L)) w := by
 unfold prog_states at H
 refine enter Tryd.func64 rfl 50 rfl rfl [(0, .agg #[vI p0.Params, vI p0.Regs, vI p0.Slots, .slice va0_Code p0.Code.length vc0_Code])] ⟨rfl, trivial⟩ ?_
 intro j a hr
 refine sr ?_
 refine onew (wn rfl) hr h nb (#[vI p0.Params, vI p0.Regs, vI p0.Slots, .slice va0_Code p0.Code.length vc0_Code]) 76 fun b1 w a h hr => ?_
 refine o1 hr (.slice none 0 0) fun a hr => ?_
 refine ln ?_
 refine sr ?_
 refine o1 hr (pA b1 3) fun a hr => ?_
 refine ld (wn rfl) hr (.slice va0_Code p0.Code.length vc0_Code) (h.cell 3 rfl) fun a hr => ?_
 obtain ⟨c2, H⟩ := gd H
 refine o1 hr (vI ((p0.Code.length : Nat) : Int)) fun a hr => ?_
 refine op_make_rowN (own := own_sl28) (i := ((p0.Code.length : Nat) : Int)) (bytes := 24) (zc := #[.slice none 0 0]) ([] : List Int) (wn rfl) rfl rfl hr rfl (by kernel_rfl) (by kernel_rfl) c2 rfl (by simp [Value.oneCell']) (by decide) (E := 28) (by kernel_rfl) (by kernel_rfl) rfl (fun h => own_sl28_sh (x := ([] : List Int)) (ca_1 := none) (cc_2 := 0) (h.row_nil)) h fun ca3 w a h hr => ?_
 refine o1 hr (.slice ca3 (List.replicate p0.Code.length ([] : List Int)).length p0.Code.length) fun a hr => ?_
 refine ln ?_
 obtain ⟨o6, H, hK5⟩ := kd1 H
 refine cut_rule (β := Unit) (fun _ a w => ∃ l4 : List (List Int), l4 = o6 ∧ ∃ j, Rep 50 (lk [(1, pA b1 0), (3, .slice ca3 (List.replicate p0.Code.length ([] : List Int)).length p0.Code.length)] j) a ∧ Fit z (sepL (ob76 b1 p0 va0_Code vc0_Code :: rowN 28 1 own_sl28 (.slice ca3 (List.replicate p0.Code.length ([] : List Int)).length p0.Code.length) l4 :: L)) w) ?_ ?_
 ·
  refine sr ?_
  refine oo [11, 12, 13] [.slice ca3 (List.replicate p0.Code.length ([] : List Int)).length p0.Code.length, vI (((List.replicate p0.Code.length ([] : List Int)).length : Nat) : Int), vI 0] hr fun a hr => ?_
  refine ln ?_
  refine wp_block ?_
  refine loop_rule (β := Nat) id (fun m a w => ∃ l7 : List (List Int), ∃ g8 : Int, (prog_states_l1 K p0 m l7 g8) = some o6 ∧ ∃ j, Rep 50 (lk [(1, pA b1 0), (3, .slice ca3 (List.replicate p0.Code.length ([] : List Int)).length p0.Code.length), (12, vI (((List.replicate p0.Code.length ([] : List Int)).length : Nat) : Int)), (13, vI g8)] j) a ∧ Fit z (sepL (ob76 b1 p0 va0_Code vc0_Code :: rowN 28 1 own_sl28 (.slice ca3 (List.replicate p0.Code.length ([] : List Int)).length p0.Code.length) l7 :: L)) w) K ⟨(List.replicate p0.Code.length ([] : List Int)), 0, H, hr.fj (h.se 2 [1, 0])⟩ ?_
  clear h hr a H; rintro k1 a w ⟨l7, g8, H, j, hr, h⟩
  cases k1 with
  | zero => exact absurd H (by simp [prog_states_l1])
  | succ k1 =>
   rw [prog_states_l1] at H
   refine sr ?_
   refine o1 hr (vB (decide (g8 < (((List.replicate p0.Code.length ([] : List Int)).length : Nat) : Int)))) fun a hr => ?_
   refine ln ?_
   refine wp_seq ?_
   refine cD hr H (fun c9 H => ?_) fun c9 H => ?_
   ·
    refine wp_skip ?_
    refine then_normal ?_
    refine wp_seq ?_
    refine wp_block ?_
    refine sr ?_
    refine oo [15, 4] [vI g8, vI g8] hr fun a hr => ?_
    refine ln ?_
    refine wp_region_lit ?_
    refine oo [16, 17, 18] [.slice ca3 (List.replicate p0.Code.length ([] : List Int)).length p0.Code.length, vI g8, pA b1 2] hr fun a hr => ?_
    refine ld (wn rfl) hr (vI p0.Slots) (h.cell 2 rfl) fun a hr => ?_
    obtain ⟨c10, H⟩ := gd H
    refine op_make_row (i := p0.Slots) (bytes := 8) (zc := #[vI 0]) (0 : Int) (wn rfl) rfl rfl hr rfl (by kernel_rfl) (by kernel_rfl) c10 encZ_i64_ok (E := 3) (by kernel_rfl) (by kernel_rfl) rfl rfl h fun ca11 w a h hr => ?_
    obtain ⟨c12, H⟩ := gd H
    refine opv (wn rfl) hr (pA (blk ca3) (g8.toNat * 1)) (ri_rowN (k := .i64) (E := 28) rfl (by kernel_rfl) (by kernel_rfl) (by kernel_rfl) (by kernel_rfl) (h.pick 2) c12) fun a hr => ?_
    obtain ⟨cs16, h⟩ := h.m2.rowN_take (at_ok c12)
    obtain ⟨ca13, cc14, e15, h⟩ := own_sl28_op (h.m1); subst e15
    replace h := h.m1
    refine op_store_rowH (wn rfl) rfl hr rfl (by kernel_rfl) (by kernel_rfl) (v := .slice ca11 (List.replicate p0.Slots.toNat (0 : Int)).length p0.Slots.toNat) rfl rfl (by kernel_rfl) (by kernel_rfl) h (i := g8.toNat) (f := 0) (by decide) fun w h => ?_
    refine wpList_nil ?_
    refine blk_normal ?_
    refine then_normal ?_
    refine wp_region_lit ?_
    refine oo [22, 13] [vI (wi (g8 + 1)), vI (wi (g8 + 1))] hr fun a hr => ?_
    refine ln ?_
    replace h := h.m2
    replace h := own_sl28_sh (x := (List.replicate p0.Slots.toNat (0 : Int))) h
    replace h := (h.m1).rowH_back
    exact ⟨_, ⟨(l7.set g8.toNat (List.replicate p0.Slots.toNat (0 : Int))), (wi (g8 + 1)), H, hr.fj (h.se 3 [2, 0])⟩, Nat.lt_succ_self _⟩
   ·
    refine wp_exit ?_
    refine then_exit ?_
    refine then_exit ?_
    refine blk_here ?_
    refine then_normal ?_
    exact ⟨(), l7, sinj H, hr.fj h⟩
 clear h hr a; rintro _ a w ⟨l4, rfl, j, hr, h⟩
 replace H := kk1 hK5
 refine wp_seq ?_
 refine sr ?_
 refine o1 hr (pA b1 2) fun a hr => ?_
 refine ld (wn rfl) hr (vI p0.Slots) (h.cell 2 rfl) fun a hr => ?_
 refine o1 hr (vI 0) fun a hr => ?_
 refine ln ?_
 refine wp_block ?_
 refine loop_rule (β := Nat) id (fun m a w => ∃ l17 : List (List Int), ∃ g18 : Int, (prog_states_l2 K p0 m l17 g18) = some r0 ∧ ∃ j, Rep 50 (lk [(1, pA b1 0), (3, .slice ca3 (List.replicate p0.Code.length ([] : List Int)).length p0.Code.length), (24, vI p0.Slots), (25, vI g18)] j) a ∧ Fit z (sepL (ob76 b1 p0 va0_Code vc0_Code :: rowN 28 1 own_sl28 (.slice ca3 (List.replicate p0.Code.length ([] : List Int)).length p0.Code.length) l17 :: L)) w) K ⟨l4, 0, H, hr.fj h⟩ ?_
 clear h hr a H; rintro k2 a w ⟨l17, g18, H, j, hr, h⟩
 cases k2 with
 | zero => exact absurd H (by simp [prog_states_l2])
 | succ k2 =>
  rw [prog_states_l2] at H
  refine sr ?_
  refine o1 hr (vB (decide (g18 < p0.Slots))) fun a hr => ?_
  refine ln ?_
  refine wp_seq ?_
  refine cD hr H (fun c19 H => ?_) fun c19 H => ?_
  ·
   refine wp_skip ?_
   refine then_normal ?_
   obtain ⟨o22, H, hK21⟩ := kd1 H
   refine cut_rule (β := Unit) (fun _ a w => ∃ l20 : List (List Int), l20 = o22 ∧ ∃ j, Rep 50 (lk [(1, pA b1 0), (3, .slice ca3 (List.replicate p0.Code.length ([] : List Int)).length p0.Code.length), (24, vI p0.Slots), (25, vI g18)] j) a ∧ Fit z (sepL (ob76 b1 p0 va0_Code vc0_Code :: rowN 28 1 own_sl28 (.slice ca3 (List.replicate p0.Code.length ([] : List Int)).length p0.Code.length) l20 :: L)) w) ?_ ?_
   ·
    refine wp_block ?_
    refine sr ?_
    refine oo [27, 5] [vI g18, vI g18] hr fun a hr => ?_
    refine ln ?_
    refine sr ?_
    refine ldm (wn rfl) hr (.agg #[vI p0.Params, vI p0.Regs, vI p0.Slots, .slice va0_Code p0.Code.length vc0_Code]) (cs := [vI p0.Params, vI p0.Regs, vI p0.Slots, .slice va0_Code p0.Code.length vc0_Code]) (h.held 0 rfl) fun a hr => ?_
    obtain ⟨r23, e24, H⟩ := bd1 H
    refine o1 hr (vI g18) fun a hr => ?_
    have hc := prog_search_f76_ok (va0_Code := va0_Code) (vc0_Code := vc0_Code) (hv0_Code := (RdRow.up 2 hv0_Code)) (hg0 := RdRow.up 2 hg0) (H := e24) (h := h)
    refine cl (wn rfl) hr hc ?_; clear hc h
    rintro _ w ⟨Bn25, rfl, h⟩; refine ⟨_, rfl, fun a hr => ?_⟩
    refine op_range (kt := 161) (et := 161) (wn rfl) rfl rfl hr rfl (by kernel_rfl) (by kernel_rfl) h fun b26 w a h hr => ?_
    refine ln ?_
    refine wp_block ?_
    obtain ⟨r29, e30, H⟩ := bd1 H
    refine range_rule r23 (prog_states_l3 K g18) l17 (fun sn27 s_ a w => ∃ l28 : List (List Int), l28 = s_ ∧ ∃ j, Rep 50 (lk [(1, pA b1 0), (3, .slice ca3 (List.replicate p0.Code.length ([] : List Int)).length p0.Code.length), (5, vI g18), (24, vI p0.Slots), (25, vI g18), (31, pA b26 0)] j) a ∧ Fit z (sepL (ob76 b1 p0 va0_Code vc0_Code :: rowN 28 1 own_sl28 (.slice ca3 (List.replicate p0.Code.length ([] : List Int)).length p0.Code.length) l28 :: iterP b26 Bn25 r23.length sn27 :: mapOf enc_T_prog_point enc_T_prog_point Bn25 r23 :: L)) w) ⟨l17, rfl, hr.fj (h.se 4 [2, 3, 0, 1])⟩ ?_
    clear h hr a; rintro sn27 _ a w hs_ ⟨l28, rfl, j, hr, h⟩
    refine sr ?_
    replace h := h.m3.m3
    refine op_next (wn rfl) rfl rfl hr rfl (by kernel_rfl) rfl h ?_ ?_
    ·
     clear hr a; intro hall_ a hr
     have e_ := hs_.done e30 hall_; subst e_
     refine o1 hr (vB false) fun a hr => ?_
     refine ln ?_
     refine wp_seq ?_
     refine cond_ff hr (b := false) rfl ?_
     refine wp_exit ?_
     refine then_exit ?_
     refine then_exit ?_
     refine blk_here ?_
     refine blk_normal ?_
     refine then_normal ?_
     exact ⟨(), l28, sinj H, hr.fj (h.se 4 [2, 3])⟩
    ·
     clear hr a h; intro ix31 x32 w a hx_ hi_ h hr
     obtain ⟨s1_, Hs_, hp_⟩ := hs_.push e30 hx_ hi_; clear H; have H := Hs_; rw [prog_states_l3] at H
     refine o1 hr (vB true) fun a hr => ?_
     refine ln ?_
     refine wp_seq ?_
     refine cond_tt hr (b := true) rfl ?_
     refine wp_skip ?_
     refine then_normal ?_
     refine wp_block ?_
     refine sr ?_
     refine op_entry (wn rfl) rfl rfl hr rfl (by kernel_rfl) rfl h hx_ fun a hr => ?_
     refine o1 hr (ag_T_prog_point x32.1) fun a hr => ?_
     refine onew (wn rfl) hr h nb (#[vI 0, vI 0]) 161 fun b33 w a h hr => ?_
     refine stm (wn rfl) hr h 0 (cl_T_prog_point x32.1) (ob161 b33 x32.1) fun w h => ?_
     refine ln ?_
     obtain ⟨c34, H⟩ := gd H
     obtain ⟨cs38, h⟩ := h.m4.rowN_take (at_ok c34)
     obtain ⟨ca35, cc36, e37, h⟩ := own_sl28_op (h.m1); subst e37
     obtain ⟨c39, H⟩ := gd H
     refine regL [(b33, 0, [vI x32.1.at_]), (blk ca3, x32.1.at_.toNat * 1, [.slice ca35 (at_ l28 x32.1.at_.toNat).length cc36]), (blk ca35, g18.toNat * 1, [vI (at_ (at_ l28 x32.1.at_.toNat) g18.toNat)]), (b33, 1, [vI x32.1.state])] [1, 3, 6, 8] 13 h (fun h => ⟨⟨(h.pick 2).cell 0 rfl, trivial⟩, ⟨(h.pick 1).rowH_cell (by decide) (f := 0) rfl, trivial⟩, ⟨h.row_cell encZ_i64_ok (f := 0) (at_ok c39) rfl, trivial⟩, ⟨(h.pick 2).cell 1 rfl, trivial⟩, trivial⟩) fun w h hd => ?_
     refine evs' hd 9 [(0, 36, .slice ca3 (List.replicate p0.Code.length ([] : List Int)).length p0.Code.length), (1, 37, pA b33 0), (5, 41, vI g18), (8, 44, pA b33 1)] hr fun a hr => ?_
     refine elx hd 0 8 2 hr (wn rfl) rfl rfl fun a hr => ?_
     refine eon hd 7 3 rfl (wn rfl) hr (pA (blk ca3) (x32.1.at_.toNat * 1)) (hrun := fun w => ri_rowH (k := .i64) (E := 28) rfl (by kernel_rfl) (by kernel_rfl) (by kernel_rfl) (by kernel_rfl) (h.pick 1) c34) fun a hr => ?_
     refine elx hd 1 6 4 hr (wn rfl) rfl rfl fun a hr => ?_
     refine eon hd 5 6 rfl (wn rfl) hr (pA (blk ca35) (g18.toNat * 1)) (hrun := fun w => ri_row (k := .i64) (E := 3) rfl (by kernel_rfl) (by kernel_rfl) (by kernel_rfl) (by kernel_rfl) h c39) fun a hr => ?_
     refine elx hd 2 4 7 hr (wn rfl) rfl rfl fun a hr => ?_
     refine elx hd 3 3 9 hr (wn rfl) rfl rfl fun a hr => ?_
     refine eon hd 2 10 rfl (wn rfl) hr (vI (bor (at_ (at_ l28 x32.1.at_.toNat) g18.toNat) x32.1.state)) (hrun := fun w => ror rfl (by kernel_rfl) (by kernel_rfl)) fun a hr => ?_
     refine eon hd 1 11 rfl (wn rfl) hr (pA (blk ca35) (g18.toNat * 1)) (hrun := fun w => ri_row (k := .i64) (E := 3) rfl (by kernel_rfl) (by kernel_rfl) (by kernel_rfl) (by kernel_rfl) h c39) fun a hr => ?_
     refine eo1 12 rfl ?_
     refine stor (wn rfl) hr encZ_i64_ok h g18.toNat 0 (vI (bor (at_ (at_ l28 x32.1.at_.toNat) g18.toNat) x32.1.state)) (at_ (at_ l28 x32.1.at_.toNat) g18.toNat) (bor (at_ (at_ l28 x32.1.at_.toNat) g18.toNat) x32.1.state) (at_ok c39) fun w h => ?_
     refine ln ?_
     refine xE ?_
     refine een ?_
     refine blk_normal ?_
     refine then_normal ?_
     have hn39 : (at_ l28 x32.1.at_.toNat).length = ((at_ l28 x32.1.at_.toNat).set g18.toNat (bor (at_ (at_ l28 x32.1.at_.toNat) g18.toNat) x32.1.state)).length := h.row_n; replace h := Fit.ren1 hn39 (fun q_ => rowOf 3 1 encZ_i64 (.slice ca35 q_ cc36) ((at_ l28 x32.1.at_.toNat).set g18.toNat (bor (at_ (at_ l28 x32.1.at_.toNat) g18.toNat) x32.1.state))) (fun q_ => rowH 28 1 own_sl28 (.slice ca3 (List.replicate p0.Code.length ([] : List Int)).length p0.Code.length) l28 x32.1.at_.toNat [.slice ca35 q_ cc36]) h
     replace h := own_sl28_sh (x := ((at_ l28 x32.1.at_.toNat).set g18.toNat (bor (at_ (at_ l28 x32.1.at_.toNat) g18.toNat) x32.1.state))) h
     replace h := (h.m1).rowH_back
     exact ⟨_, _, hp_, (l28.set x32.1.at_.toNat ((at_ l28 x32.1.at_.toNat).set g18.toNat (bor (at_ (at_ l28 x32.1.at_.toNat) g18.toNat) x32.1.state))), sinj H, hr.fj (h.se 5 [4, 0, 2, 3])⟩
   clear h hr a; rintro _ a w ⟨l20, rfl, j, hr, h⟩
   replace H := kk1 hK21
   refine wp_region_lit ?_
   refine oo [48, 25] [vI (wi (g18 + 1)), vI (wi (g18 + 1))] hr fun a hr => ?_
   refine ln ?_
   exact ⟨_, ⟨l20, (wi (g18 + 1)), H, hr.fj h⟩, Nat.lt_succ_self _⟩
  ·
   refine wp_exit ?_
   refine then_exit ?_
   refine then_exit ?_
   refine blk_here ?_
   refine then_normal ?_
   refine sr ?_
   refine oo [49, 2] [.slice ca3 (List.replicate p0.Code.length ([] : List Int)).length p0.Code.length, .slice ca3 (List.replicate p0.Code.length ([] : List Int)).length p0.Code.length] hr fun a hr => ?_
   refine ln ?_
   refine wp_ret ?_
   refine end_ret1 (v := .slice ca3 (List.replicate p0.Code.length ([] : List Int)).length p0.Code.length) rfl hr (by kernel_rfl) ?_
   replace h := h.m1
   have hn40 : (List.replicate p0.Code.length ([] : List Int)).length = l17.length := h.rowN_n; replace h := Fit.ren0 hn40 (fun q_ => rowN 28 1 own_sl28 (.slice ca3 q_ p0.Code.length) l17) h
   replace H := ej1 H; subst H
   exact ⟨ca3, p0.Code.length, (by first | rfl | simp only [hn40]), h.se 2 [0]⟩

def prog_slots_l2 (K : Nat) (r2 : List (List Int)) (g6 : Int) : Nat → Int → Int → Option (Int)
  | 0, _, _ => none
  | k2 + 1, g37, g38 => (if g38 < (((at_ r2 g6.toNat).length : Nat) : Int) then if inr_ g38 (at_ r2 g6.toNat).length then (if (band (at_ (at_ r2 g6.toNat) g38.toNat) (2 : Int)) = 0 then (prog_slots_l2 K r2 g6 k2 g37 (wi (g38 + 1))) else (prog_slots_l2 K r2 g6 k2 56 (wi (g38 + 1)))) else none else some g37)
def prog_slots_l1 (K : Nat) (p0 : Int) (p1 : T_api_Func) (r2 : List (List Int)) : Nat → Int → Option ((Unit) ⊕ T_prog_wrong)
  | 0, _ => none
  | k1 + 1, g6 => (if g6 < ((p1.Code.length : Nat) : Int) then jn0 (if inr_ g6 p1.Code.length then ob1 ((if (at_ p1.Code g6.toNat).Kind = 5 then if inr_ g6 r2.length then if inr_ (at_ p1.Code g6.toNat).A (at_ r2 g6.toNat).length then (if (band (at_ (at_ r2 g6.toNat) (at_ p1.Code g6.toNat).A.toNat) (2 : Int)) = 0 then some 0 else some 54) else none else none else (if (at_ p1.Code g6.toNat).Kind = 7 then if inr_ g6 r2.length then if inr_ (at_ p1.Code g6.toNat).B (at_ r2 g6.toNat).length then (if (band (at_ (at_ r2 g6.toNat) (at_ p1.Code g6.toNat).B.toNat) (3 : Int)) = 0 then some 0 else some 55) else none else none else (if (at_ p1.Code g6.toNat).Kind = 9 then if inr_ g6 r2.length then (prog_slots_l2 K r2 g6 K 0 0) else none else some 0)))) (fun g12 => (if g12 = 0 then some (.inl ()) else some (.inr (.inr (⟨g12, p0, g6⟩ : T_prog_wrong))))) else none) ((prog_slots_l1 K p0 p1 r2 k1 (wi (g6 + 1)))) else some (.inl ()))
/-- plunder/prog.slots -/
def prog_slots (K : Nat) (p0 : Int) (p1 : T_api_Func) : Option ((Unit) ⊕ T_prog_wrong) :=
  ob1 (prog_states K p1) (fun r2 => (prog_slots_l1 K p0 p1 r2 K 0))

theorem prog_slots_ok0 {z w : World} {L : List HProp} {K : Nat} {p0 : Int} {p1 : T_api_Func} {va1_Code : Option Addr} {vc1_Code : Nat} (H : prog_slots K p0 p1 = some (.inl ())) (h : Fit z (sepL (L)) w) (hv1_Code : RdRow L 5 enc_T_api_Instr va1_Code p1.Code) (hg0 : RdRow L 5 enc_T_anon155 (some ⟨0, 0, none⟩) gl0) :
    Calls Tryd.prog 50 #[vI p0, .agg #[vI p1.Params, vI p1.Regs, vI p1.Slots, .slice va1_Code p1.Code.length vc1_Code]] w fun e w => e = .returned (.tuple #[]) ∧ Fit z (sepL (L)) w := by
 unfold prog_slots at H
 refine enter Tryd.func50 rfl 70 rfl rfl [(0, vI p0), (1, .agg #[vI p1.Params, vI p1.Regs, vI p1.Slots, .slice va1_Code p1.Code.length vc1_Code])] ⟨rfl, rfl, trivial⟩ ?_
 intro j a hr
 refine sr ?_
 refine onew (wn rfl) hr h nb (#[vI p1.Params, vI p1.Regs, vI p1.Slots, .slice va1_Code p1.Code.length vc1_Code]) 76 fun b1 w a h hr => ?_
 refine ln ?_
 refine sr ?_
 refine ldm (wn rfl) hr (.agg #[vI p1.Params, vI p1.Regs, vI p1.Slots, .slice va1_Code p1.Code.length vc1_Code]) (cs := [vI p1.Params, vI p1.Regs, vI p1.Slots, .slice va1_Code p1.Code.length vc1_Code]) (h.held 0 rfl) fun a hr => ?_
 obtain ⟨r2, e3, H⟩ := bd1 H
 have hc := prog_states_ok (va0_Code := va1_Code) (vc0_Code := vc1_Code) (hv0_Code := (RdRow.up 1 hv1_Code)) (hg0 := RdRow.up 1 hg0) (H := e3) (h := h)
 refine cl (wn rfl) hr hc ?_; clear hc h
 rintro _ w ⟨car4, ccr5, rfl, h⟩; refine ⟨_, rfl, fun a hr => ?_⟩
 refine o1 hr (.slice car4 r2.length ccr5) fun a hr => ?_
 refine ln ?_
 refine sr ?_
 refine o1 hr (pA b1 3) fun a hr => ?_
 refine ld (wn rfl) hr (.slice va1_Code p1.Code.length vc1_Code) ((h.pick 1).cell 3 rfl) fun a hr => ?_
 refine oo [14, 15] [vI ((p1.Code.length : Nat) : Int), vI 0] hr fun a hr => ?_
 refine ln ?_
 refine wp_block ?_
 refine loop_rule (β := Nat) id (fun m a w => ∃ g6 : Int, (prog_slots_l1 K p0 p1 r2 m g6) = some (.inl ()) ∧ ∃ j, Rep 70 (lk [(0, vI p0), (4, .slice car4 r2.length ccr5), (13, .slice va1_Code p1.Code.length vc1_Code), (14, vI ((p1.Code.length : Nat) : Int)), (15, vI g6)] j) a ∧ Fit z (sepL (rn28 car4 ccr5 r2 :: L)) w) K ⟨0, H, hr.fj (h.se 2 [0])⟩ ?_
 clear h hr a H; rintro k1 a w ⟨g6, H, j, hr, h⟩
 cases k1 with
 | zero => exact absurd H (by simp [prog_slots_l1])
 | succ k1 =>
  rw [prog_slots_l1] at H
  refine sr ?_
  refine o1 hr (vB (decide (g6 < ((p1.Code.length : Nat) : Int)))) fun a hr => ?_
  refine ln ?_
  refine wp_seq ?_
  refine cD hr H (fun c7 H => ?_) fun c7 H => ?_
  ·
   refine wp_skip ?_
   refine then_normal ?_
   obtain ⟨o9, H, hK8⟩ := jd0 H
   refine cut_rule (β := Unit) (fun _ a w => .inl () = o9 ∧ ∃ j, Rep 70 (lk [(0, vI p0), (4, .slice car4 r2.length ccr5), (13, .slice va1_Code p1.Code.length vc1_Code), (14, vI ((p1.Code.length : Nat) : Int)), (15, vI g6)] j) a ∧ Fit z (sepL (rn28 car4 ccr5 r2 :: L)) w) ?_ ?_
   ·
    refine wp_block ?_
    refine sr ?_
    obtain ⟨c10, H⟩ := gd H
    refine o1 hr (vI g6) fun a hr => ?_
    refine opv (wn rfl) hr (pA (blk va1_Code) (offs va1_Code + g6.toNat * 5)) (ri_rd (k := .i64) (E := 108) (cc := vc1_Code) rfl (by kernel_rfl) (by kernel_rfl) rfl (by kernel_rfl) (by kernel_rfl) hv1_Code c10) fun a hr => ?_
    refine ldm (wn rfl) hr (ag_T_api_Instr (at_ p1.Code g6.toNat)) (cs := cl_T_api_Instr (at_ p1.Code g6.toNat)) ⟨hv1_Code.cell c10 (h.dn 1) 0 rfl, hv1_Code.cell c10 (h.dn 1) 1 rfl, hv1_Code.cell c10 (h.dn 1) 2 rfl, hv1_Code.cell c10 (h.dn 1) 3 rfl, hv1_Code.cell c10 (h.dn 1) 4 rfl, trivial⟩ fun a hr => ?_
    refine onew (wn rfl) hr h nb (#[vI 0, vI 0, vI 0, vI 0, vI 0]) 108 fun b11 w a h hr => ?_
    refine o1 hr (vI g6) fun a hr => ?_
    refine stm (wn rfl) hr h 0 (cl_T_api_Instr (at_ p1.Code g6.toNat)) (ob108 b11 (at_ p1.Code g6.toNat)) fun w h => ?_
    refine ln ?_
    refine sr ?_
    refine o1 hr (vI 0) fun a hr => ?_
    refine ln ?_
    obtain ⟨o14, H, hK13⟩ := kd1 H
    refine cut_rule (β := Unit) (fun _ a w => ∃ g12 : Int, g12 = o14 ∧ ∃ j, Rep 70 (lk [(0, vI p0), (4, .slice car4 r2.length ccr5), (5, vI g6), (7, vI g12), (13, .slice va1_Code p1.Code.length vc1_Code), (14, vI ((p1.Code.length : Nat) : Int)), (15, vI g6)] j) a ∧ Fit z (sepL (rn28 car4 ccr5 r2 :: L)) w) ?_ ?_
    ·
     refine sr ?_
     refine o1 hr (pA b11 0) fun a hr => ?_
     refine ld (wn rfl) hr (vI (at_ p1.Code g6.toNat).Kind) (h.cell 0 rfl) fun a hr => ?_
     refine ln ?_
     refine wp_block ?_
     refine sr ?_
     refine oo [23, 22] [vB ((at_ p1.Code g6.toNat).Kind == 5), vB ((at_ p1.Code g6.toNat).Kind == 5)] hr fun a hr => ?_
     refine ln ?_
     refine cD hr H (fun c15 H => ?_) fun c15 H => ?_
     ·
      refine wp_seq ?_
      obtain ⟨c16, H⟩ := gd H
      obtain ⟨cs20, h⟩ := h.m1.rowN_take (at_ok c16)
      obtain ⟨ca17, cc18, e19, h⟩ := own_sl28_op (h.m1); subst e19
      obtain ⟨c21, H⟩ := gd H
      refine regL [(blk car4, g6.toNat * 1, [.slice ca17 (at_ r2 g6.toNat).length cc18]), (b11, 1, [vI (at_ p1.Code g6.toNat).A]), (blk ca17, (at_ p1.Code g6.toNat).A.toNat * 1, [vI (at_ (at_ r2 g6.toNat) (at_ p1.Code g6.toNat).A.toNat)])] [2, 4, 6] 10 h (fun h => ⟨⟨(h.pick 1).rowH_cell (by decide) (f := 0) rfl, trivial⟩, ⟨(h.pick 2).cell 1 rfl, trivial⟩, ⟨h.row_cell encZ_i64_ok (f := 0) (at_ok c21) rfl, trivial⟩, trivial⟩) fun w h hd => ?_
      refine evs' hd 8 [(0, 24, .slice car4 r2.length ccr5), (1, 25, vI g6)] hr fun a hr => ?_
      refine eon hd 7 2 rfl (wn rfl) hr (pA (blk car4) (g6.toNat * 1)) (hrun := fun w => ri_rowH (k := .i64) (E := 28) rfl (by kernel_rfl) (by kernel_rfl) (by kernel_rfl) (by kernel_rfl) (h.pick 1) c16) fun a hr => ?_
      refine evs' hd 6 [(4, 28, pA b11 1)] hr fun a hr => ?_
      refine elx hd 0 5 3 hr (wn rfl) rfl rfl fun a hr => ?_
      refine elx hd 1 4 5 hr (wn rfl) rfl rfl fun a hr => ?_
      refine eon hd 3 6 rfl (wn rfl) hr (pA (blk ca17) ((at_ p1.Code g6.toNat).A.toNat * 1)) (hrun := fun w => ri_row (k := .i64) (E := 3) rfl (by kernel_rfl) (by kernel_rfl) (by kernel_rfl) (by kernel_rfl) h c21) fun a hr => ?_
      refine elx hd 2 2 7 hr (wn rfl) rfl rfl fun a hr => ?_
      refine eon hd 1 8 rfl (wn rfl) hr (vI (band (at_ (at_ r2 g6.toNat) (at_ p1.Code g6.toNat).A.toNat) (2 : Int))) (hrun := fun w => rand rfl (by kernel_rfl) (by kernel_rfl)) fun a hr => ?_
      refine evs' hd 0 [(9, 33, vB ((band (at_ (at_ r2 g6.toNat) (at_ p1.Code g6.toNat).A.toNat) (2 : Int)) != 0))] hr fun a hr => ?_
      refine een ?_
      refine then_normal ?_
      refine cN hr H (fun c22 H => ?_) fun c22 H => ?_
      ·
       refine wp_skip ?_
       refine blk_normal ?_
       refine then_normal ?_
       replace h := own_sl28_sh (x := (at_ r2 g6.toNat)) h
       replace h := (h.m1).rowH_same
       exact ⟨(), 0, sinj H, hr.fj (h.se 2 [0])⟩
      ·
       refine wp_region_lit ?_
       refine o1 hr (vI 54) fun a hr => ?_
       refine wpList_nil ?_
       refine blk_normal ?_
       refine then_normal ?_
       replace h := own_sl28_sh (x := (at_ r2 g6.toNat)) h
       replace h := (h.m1).rowH_same
       exact ⟨(), 54, sinj H, hr.fj (h.se 2 [0])⟩
     ·
      refine sr ?_
      refine oo [35, 34] [vB ((at_ p1.Code g6.toNat).Kind == 7), vB ((at_ p1.Code g6.toNat).Kind == 7)] hr fun a hr => ?_
      refine ln ?_
      refine cD hr H (fun c23 H => ?_) fun c23 H => ?_
      ·
       refine wp_seq ?_
       obtain ⟨c24, H⟩ := gd H
       obtain ⟨cs28, h⟩ := h.m1.rowN_take (at_ok c24)
       obtain ⟨ca25, cc26, e27, h⟩ := own_sl28_op (h.m1); subst e27
       obtain ⟨c29, H⟩ := gd H
       refine regL [(blk car4, g6.toNat * 1, [.slice ca25 (at_ r2 g6.toNat).length cc26]), (b11, 2, [vI (at_ p1.Code g6.toNat).B]), (blk ca25, (at_ p1.Code g6.toNat).B.toNat * 1, [vI (at_ (at_ r2 g6.toNat) (at_ p1.Code g6.toNat).B.toNat)])] [2, 4, 6] 10 h (fun h => ⟨⟨(h.pick 1).rowH_cell (by decide) (f := 0) rfl, trivial⟩, ⟨(h.pick 2).cell 2 rfl, trivial⟩, ⟨h.row_cell encZ_i64_ok (f := 0) (at_ok c29) rfl, trivial⟩, trivial⟩) fun w h hd => ?_
       refine evs' hd 8 [(0, 36, .slice car4 r2.length ccr5), (1, 37, vI g6)] hr fun a hr => ?_
       refine eon hd 7 2 rfl (wn rfl) hr (pA (blk car4) (g6.toNat * 1)) (hrun := fun w => ri_rowH (k := .i64) (E := 28) rfl (by kernel_rfl) (by kernel_rfl) (by kernel_rfl) (by kernel_rfl) (h.pick 1) c24) fun a hr => ?_
       refine evs' hd 6 [(4, 40, pA b11 2)] hr fun a hr => ?_
       refine elx hd 0 5 3 hr (wn rfl) rfl rfl fun a hr => ?_
       refine elx hd 1 4 5 hr (wn rfl) rfl rfl fun a hr => ?_
       refine eon hd 3 6 rfl (wn rfl) hr (pA (blk ca25) ((at_ p1.Code g6.toNat).B.toNat * 1)) (hrun := fun w => ri_row (k := .i64) (E := 3) rfl (by kernel_rfl) (by kernel_rfl) (by kernel_rfl) (by kernel_rfl) h c29) fun a hr => ?_
       refine elx hd 2 2 7 hr (wn rfl) rfl rfl fun a hr => ?_
       refine eon hd 1 8 rfl (wn rfl) hr (vI (band (at_ (at_ r2 g6.toNat) (at_ p1.Code g6.toNat).B.toNat) (3 : Int))) (hrun := fun w => rand rfl (by kernel_rfl) (by kernel_rfl)) fun a hr => ?_
       refine evs' hd 0 [(9, 45, vB ((band (at_ (at_ r2 g6.toNat) (at_ p1.Code g6.toNat).B.toNat) (3 : Int)) != 0))] hr fun a hr => ?_
       refine een ?_
       refine then_normal ?_
       refine cN hr H (fun c30 H => ?_) fun c30 H => ?_
       ·
        refine wp_skip ?_
        refine blk_normal ?_
        refine then_normal ?_
        replace h := own_sl28_sh (x := (at_ r2 g6.toNat)) h
        replace h := (h.m1).rowH_same
        exact ⟨(), 0, sinj H, hr.fj (h.se 2 [0])⟩
       ·
        refine wp_region_lit ?_
        refine o1 hr (vI 55) fun a hr => ?_
        refine wpList_nil ?_
        refine blk_normal ?_
        refine then_normal ?_
        replace h := own_sl28_sh (x := (at_ r2 g6.toNat)) h
        replace h := (h.m1).rowH_same
        exact ⟨(), 55, sinj H, hr.fj (h.se 2 [0])⟩
      ·
       refine sr ?_
       refine oo [47, 46] [vB ((at_ p1.Code g6.toNat).Kind == 9), vB ((at_ p1.Code g6.toNat).Kind == 9)] hr fun a hr => ?_
       refine ln ?_
       refine cD hr H (fun c31 H => ?_) fun c31 H => ?_
       ·
        refine sr ?_
        obtain ⟨c32, H⟩ := gd H
        refine oo [48, 49] [.slice car4 r2.length ccr5, vI g6] hr fun a hr => ?_
        refine opv (wn rfl) hr (pA (blk car4) (g6.toNat * 1)) (ri_rowN (k := .i64) (E := 28) rfl (by kernel_rfl) (by kernel_rfl) (by kernel_rfl) (by kernel_rfl) (h.pick 1) c32) fun a hr => ?_
        obtain ⟨cs36, h⟩ := h.m1.rowN_take (at_ok c32)
        obtain ⟨ca33, cc34, e35, h⟩ := own_sl28_op (h.m1); subst e35
        refine ld (wn rfl) hr (.slice ca33 (at_ r2 g6.toNat).length cc34) ((h.pick 1).rowH_cell (by decide) (f := 0) rfl) fun a hr => ?_
        refine oo [52, 53] [vI (((at_ r2 g6.toNat).length : Nat) : Int), vI 0] hr fun a hr => ?_
        refine ln ?_
        refine wp_block ?_
        refine loop_rule (β := Nat) id (fun m a w => ∃ g37 : Int, ∃ g38 : Int, (prog_slots_l2 K r2 g6 m g37 g38) = some o14 ∧ ∃ j, Rep 70 (lk [(0, vI p0), (4, .slice car4 r2.length ccr5), (5, vI g6), (7, vI g37), (13, .slice va1_Code p1.Code.length vc1_Code), (14, vI ((p1.Code.length : Nat) : Int)), (15, vI g6), (51, .slice ca33 (at_ r2 g6.toNat).length cc34), (52, vI (((at_ r2 g6.toNat).length : Nat) : Int)), (53, vI g38)] j) a ∧ Fit z (sepL (rowH 28 1 own_sl28 (.slice car4 r2.length ccr5) r2 g6.toNat [.slice ca33 (at_ r2 g6.toNat).length cc34] :: ro3 ca33 cc34 (at_ r2 g6.toNat) :: L)) w) K ⟨0, 0, H, hr.fj (h.se 3 [1, 0])⟩ ?_
        clear h hr a H; rintro k2 a w ⟨g37, g38, H, j, hr, h⟩
        cases k2 with
        | zero => exact absurd H (by simp [prog_slots_l2])
        | succ k2 =>
         rw [prog_slots_l2] at H
         refine sr ?_
         refine o1 hr (vB (decide (g38 < (((at_ r2 g6.toNat).length : Nat) : Int)))) fun a hr => ?_
         refine ln ?_
         refine wp_seq ?_
         refine cD hr H (fun c39 H => ?_) fun c39 H => ?_
         ·
          refine wp_skip ?_
          refine then_normal ?_
          refine wp_seq ?_
          refine wp_block ?_
          refine sr ?_
          obtain ⟨c40, H⟩ := gd H
          refine opv (wn rfl) hr (pA (blk ca33) (g38.toNat * 1)) (ri_row (k := .i64) (E := 3) rfl (by kernel_rfl) (by kernel_rfl) (by kernel_rfl) (by kernel_rfl) (h.pick 1) c40) fun a hr => ?_
          refine ld (wn rfl) hr (vI (at_ (at_ r2 g6.toNat) g38.toNat)) ((h.pick 1).row_cell encZ_i64_ok (f := 0) (at_ok c40) rfl) fun a hr => ?_
          refine o1 hr (vI (at_ (at_ r2 g6.toNat) g38.toNat)) fun a hr => ?_
          refine ln ?_
          refine sr ?_
          refine o1 hr (vI (at_ (at_ r2 g6.toNat) g38.toNat)) fun a hr => ?_
          refine opv (wn rfl) hr (vI (band (at_ (at_ r2 g6.toNat) g38.toNat) (2 : Int))) (rand rfl (by kernel_rfl) (by kernel_rfl)) fun a hr => ?_
          refine o1 hr (vB ((band (at_ (at_ r2 g6.toNat) g38.toNat) (2 : Int)) != 0)) fun a hr => ?_
          refine ln ?_
          refine cN hr H (fun c41 H => ?_) fun c41 H => ?_
          ·
           refine wp_skip ?_
           refine blk_normal ?_
           refine then_normal ?_
           refine wp_region_lit ?_
           refine oo [60, 53] [vI (wi (g38 + 1)), vI (wi (g38 + 1))] hr fun a hr => ?_
           refine ln ?_
           exact ⟨_, ⟨g37, (wi (g38 + 1)), H, hr.fj h⟩, Nat.lt_succ_self _⟩
          ·
           refine wp_region_lit ?_
           refine o1 hr (vI 56) fun a hr => ?_
           refine wpList_nil ?_
           refine blk_normal ?_
           refine then_normal ?_
           refine wp_region_lit ?_
           refine oo [60, 53] [vI (wi (g38 + 1)), vI (wi (g38 + 1))] hr fun a hr => ?_
           refine ln ?_
           exact ⟨_, ⟨56, (wi (g38 + 1)), H, hr.fj h⟩, Nat.lt_succ_self _⟩
         ·
          refine wp_exit ?_
          refine then_exit ?_
          refine then_exit ?_
          refine blk_here ?_
          refine blk_normal ?_
          refine then_normal ?_
          replace h := h.m1
          replace h := own_sl28_sh (x := (at_ r2 g6.toNat)) h
          replace h := (h.m1).rowH_same
          exact ⟨(), g37, sinj H, hr.fj h⟩
       ·
        refine wp_skip ?_
        refine blk_normal ?_
        refine then_normal ?_
        exact ⟨(), 0, sinj H, hr.fj (h.se 2 [1])⟩
    clear h hr a; rintro _ a w ⟨g12, rfl, j, hr, h⟩
    replace H := kk1 hK13
    refine sr ?_
    refine oo [61, 62] [vI g12, vB (g12 != 0)] hr fun a hr => ?_
    refine ln ?_
    refine cN hr H (fun c42 H => ?_) fun c42 H => ?_
    ·
     refine wp_skip ?_
     refine blk_normal ?_
     refine then_normal ?_
     exact ⟨(), sinj H, hr.fj h⟩
    ·
     refine wp_region_lit ?_
     refine oo [63, 64, 65, 66, 67, 68] [vI g12, vI p0, vI g6, .agg #[vI g12, vI p0, vI g6], .agg #[vI g12, vI p0, vI g6], .iface 138 (.agg #[vI g12, vI p0, vI g6])] hr fun a hr => ?_
     refine op_pan (wn rfl) hr rfl (T := 138) (u := .agg #[vI g12, vI p0, vI g6]) (by kernel_rfl) ?_
     refine blk_pan ?_
     refine then_pan ?_
     refine then_pan ?_
     refine blk_pan ?_
     refine end_pan hr ?_
     replace H := jx0 H hK8
     cases H
   clear h hr a; rintro _ a w ⟨rfl, j, hr, h⟩
   replace H := jk0 hK8
   refine wp_region_lit ?_
   refine oo [69, 15] [vI (wi (g6 + 1)), vI (wi (g6 + 1))] hr fun a hr => ?_
   refine ln ?_
   exact ⟨_, ⟨(wi (g6 + 1)), H, hr.fj h⟩, Nat.lt_succ_self _⟩
  ·
   refine wp_exit ?_
   refine then_exit ?_
   refine then_exit ?_
   refine blk_here ?_
   refine end_norm0 rfl hr ?_
   cases H
   exact ⟨rfl, h.se 1 []⟩

theorem prog_slots_ok1 {z w : World} {L : List HProp} {K : Nat} {p0 : Int} {p1 : T_api_Func} {va1_Code : Option Addr} {vc1_Code : Nat} {rP : T_prog_wrong} (H : prog_slots K p0 p1 = some (.inr rP)) (h : Fit z (sepL (L)) w) (hv1_Code : RdRow L 5 enc_T_api_Instr va1_Code p1.Code) (hg0 : RdRow L 5 enc_T_anon155 (some ⟨0, 0, none⟩) gl0) :
    Calls Tryd.prog 50 #[vI p0, .agg #[vI p1.Params, vI p1.Regs, vI p1.Slots, .slice va1_Code p1.Code.length vc1_Code]] w fun e w => e = .panicked [{ v := .iface 138 (ag_T_prog_wrong rP), recovered := false }] ∧ Fit z (sepL (L)) w := by
 unfold prog_slots at H
 refine enter Tryd.func50 rfl 70 rfl rfl [(0, vI p0), (1, .agg #[vI p1.Params, vI p1.Regs, vI p1.Slots, .slice va1_Code p1.Code.length vc1_Code])] ⟨rfl, rfl, trivial⟩ ?_
 intro j a hr
 refine sr ?_
 refine onew (wn rfl) hr h nb (#[vI p1.Params, vI p1.Regs, vI p1.Slots, .slice va1_Code p1.Code.length vc1_Code]) 76 fun b1 w a h hr => ?_
 refine ln ?_
 refine sr ?_
 refine ldm (wn rfl) hr (.agg #[vI p1.Params, vI p1.Regs, vI p1.Slots, .slice va1_Code p1.Code.length vc1_Code]) (cs := [vI p1.Params, vI p1.Regs, vI p1.Slots, .slice va1_Code p1.Code.length vc1_Code]) (h.held 0 rfl) fun a hr => ?_
 obtain ⟨r2, e3, H⟩ := bd1 H
 have hc := prog_states_ok (va0_Code := va1_Code) (vc0_Code := vc1_Code) (hv0_Code := (RdRow.up 1 hv1_Code)) (hg0 := RdRow.up 1 hg0) (H := e3) (h := h)
 refine cl (wn rfl) hr hc ?_; clear hc h
 rintro _ w ⟨car4, ccr5, rfl, h⟩; refine ⟨_, rfl, fun a hr => ?_⟩
 refine o1 hr (.slice car4 r2.length ccr5) fun a hr => ?_
 refine ln ?_
 refine sr ?_
 refine o1 hr (pA b1 3) fun a hr => ?_
 refine ld (wn rfl) hr (.slice va1_Code p1.Code.length vc1_Code) ((h.pick 1).cell 3 rfl) fun a hr => ?_
 refine oo [14, 15] [vI ((p1.Code.length : Nat) : Int), vI 0] hr fun a hr => ?_
 refine ln ?_
 refine wp_block ?_
 refine loop_rule (β := Nat) id (fun m a w => ∃ g6 : Int, (prog_slots_l1 K p0 p1 r2 m g6) = some (.inr rP) ∧ ∃ j, Rep 70 (lk [(0, vI p0), (4, .slice car4 r2.length ccr5), (13, .slice va1_Code p1.Code.length vc1_Code), (14, vI ((p1.Code.length : Nat) : Int)), (15, vI g6)] j) a ∧ Fit z (sepL (rn28 car4 ccr5 r2 :: L)) w) K ⟨0, H, hr.fj (h.se 2 [0])⟩ ?_
 clear h hr a H; rintro k1 a w ⟨g6, H, j, hr, h⟩
 cases k1 with
 | zero => exact absurd H (by simp [prog_slots_l1])
 | succ k1 =>
  rw [prog_slots_l1] at H
  refine sr ?_
  refine o1 hr (vB (decide (g6 < ((p1.Code.length : Nat) : Int)))) fun a hr => ?_
  refine ln ?_
  refine wp_seq ?_
  refine cD hr H (fun c7 H => ?_) fun c7 H => ?_
  ·
   refine wp_skip ?_
   refine then_normal ?_
   obtain ⟨o9, H, hK8⟩ := jd0 H
   refine cut_rule (β := Unit) (fun _ a w => .inl () = o9 ∧ ∃ j, Rep 70 (lk [(0, vI p0), (4, .slice car4 r2.length ccr5), (13, .slice va1_Code p1.Code.length vc1_Code), (14, vI ((p1.Code.length : Nat) : Int)), (15, vI g6)] j) a ∧ Fit z (sepL (rn28 car4 ccr5 r2 :: L)) w) ?_ ?_
   ·
    refine wp_block ?_
    refine sr ?_
    obtain ⟨c10, H⟩ := gd H
    refine o1 hr (vI g6) fun a hr => ?_
    refine opv (wn rfl) hr (pA (blk va1_Code) (offs va1_Code + g6.toNat * 5)) (ri_rd (k := .i64) (E := 108) (cc := vc1_Code) rfl (by kernel_rfl) (by kernel_rfl) rfl (by kernel_rfl) (by kernel_rfl) hv1_Code c10) fun a hr => ?_
    refine ldm (wn rfl) hr (ag_T_api_Instr (at_ p1.Code g6.toNat)) (cs := cl_T_api_Instr (at_ p1.Code g6.toNat)) ⟨hv1_Code.cell c10 (h.dn 1) 0 rfl, hv1_Code.cell c10 (h.dn 1) 1 rfl, hv1_Code.cell c10 (h.dn 1) 2 rfl, hv1_Code.cell c10 (h.dn 1) 3 rfl, hv1_Code.cell c10 (h.dn 1) 4 rfl, trivial⟩ fun a hr => ?_
    refine onew (wn rfl) hr h nb (#[vI 0, vI 0, vI 0, vI 0, vI 0]) 108 fun b11 w a h hr => ?_
    refine o1 hr (vI g6) fun a hr => ?_
    refine stm (wn rfl) hr h 0 (cl_T_api_Instr (at_ p1.Code g6.toNat)) (ob108 b11 (at_ p1.Code g6.toNat)) fun w h => ?_
    refine ln ?_
    refine sr ?_
    refine o1 hr (vI 0) fun a hr => ?_
    refine ln ?_
    obtain ⟨o14, H, hK13⟩ := kd1 H
    refine cut_rule (β := Unit) (fun _ a w => ∃ g12 : Int, g12 = o14 ∧ ∃ j, Rep 70 (lk [(0, vI p0), (4, .slice car4 r2.length ccr5), (5, vI g6), (7, vI g12), (13, .slice va1_Code p1.Code.length vc1_Code), (14, vI ((p1.Code.length : Nat) : Int)), (15, vI g6)] j) a ∧ Fit z (sepL (rn28 car4 ccr5 r2 :: L)) w) ?_ ?_
    ·
     refine sr ?_
     refine o1 hr (pA b11 0) fun a hr => ?_
     refine ld (wn rfl) hr (vI (at_ p1.Code g6.toNat).Kind) (h.cell 0 rfl) fun a hr => ?_
     refine ln ?_
     refine wp_block ?_
     refine sr ?_
     refine oo [23, 22] [vB ((at_ p1.Code g6.toNat).Kind == 5), vB ((at_ p1.Code g6.toNat).Kind == 5)] hr fun a hr => ?_
     refine ln ?_
     refine cD hr H (fun c15 H => ?_) fun c15 H => ?_
     ·
      refine wp_seq ?_
      obtain ⟨c16, H⟩ := gd H
      obtain ⟨cs20, h⟩ := h.m1.rowN_take (at_ok c16)
      obtain ⟨ca17, cc18, e19, h⟩ := own_sl28_op (h.m1); subst e19
      obtain ⟨c21, H⟩ := gd H
      refine regL [(blk car4, g6.toNat * 1, [.slice ca17 (at_ r2 g6.toNat).length cc18]), (b11, 1, [vI (at_ p1.Code g6.toNat).A]), (blk ca17, (at_ p1.Code g6.toNat).A.toNat * 1, [vI (at_ (at_ r2 g6.toNat) (at_ p1.Code g6.toNat).A.toNat)])] [2, 4, 6] 10 h (fun h => ⟨⟨(h.pick 1).rowH_cell (by decide) (f := 0) rfl, trivial⟩, ⟨(h.pick 2).cell 1 rfl, trivial⟩, ⟨h.row_cell encZ_i64_ok (f := 0) (at_ok c21) rfl, trivial⟩, trivial⟩) fun w h hd => ?_
      refine evs' hd 8 [(0, 24, .slice car4 r2.length ccr5), (1, 25, vI g6)] hr fun a hr => ?_
      refine eon hd 7 2 rfl (wn rfl) hr (pA (blk car4) (g6.toNat * 1)) (hrun := fun w => ri_rowH (k := .i64) (E := 28) rfl (by kernel_rfl) (by kernel_rfl) (by kernel_rfl) (by kernel_rfl) (h.pick 1) c16) fun a hr => ?_
      refine evs' hd 6 [(4, 28, pA b11 1)] hr fun a hr => ?_
      refine elx hd 0 5 3 hr (wn rfl) rfl rfl fun a hr => ?_
      refine elx hd 1 4 5 hr (wn rfl) rfl rfl fun a hr => ?_
      refine eon hd 3 6 rfl (wn rfl) hr (pA (blk ca17) ((at_ p1.Code g6.toNat).A.toNat * 1)) (hrun := fun w => ri_row (k := .i64) (E := 3) rfl (by kernel_rfl) (by kernel_rfl) (by kernel_rfl) (by kernel_rfl) h c21) fun a hr => ?_
      refine elx hd 2 2 7 hr (wn rfl) rfl rfl fun a hr => ?_
      refine eon hd 1 8 rfl (wn rfl) hr (vI (band (at_ (at_ r2 g6.toNat) (at_ p1.Code g6.toNat).A.toNat) (2 : Int))) (hrun := fun w => rand rfl (by kernel_rfl) (by kernel_rfl)) fun a hr => ?_
      refine evs' hd 0 [(9, 33, vB ((band (at_ (at_ r2 g6.toNat) (at_ p1.Code g6.toNat).A.toNat) (2 : Int)) != 0))] hr fun a hr => ?_
      refine een ?_
      refine then_normal ?_
      refine cN hr H (fun c22 H => ?_) fun c22 H => ?_
      ·
       refine wp_skip ?_
       refine blk_normal ?_
       refine then_normal ?_
       replace h := own_sl28_sh (x := (at_ r2 g6.toNat)) h
       replace h := (h.m1).rowH_same
       exact ⟨(), 0, sinj H, hr.fj (h.se 2 [0])⟩
      ·
       refine wp_region_lit ?_
       refine o1 hr (vI 54) fun a hr => ?_
       refine wpList_nil ?_
       refine blk_normal ?_
       refine then_normal ?_
       replace h := own_sl28_sh (x := (at_ r2 g6.toNat)) h
       replace h := (h.m1).rowH_same
       exact ⟨(), 54, sinj H, hr.fj (h.se 2 [0])⟩
     ·
      refine sr ?_
      refine oo [35, 34] [vB ((at_ p1.Code g6.toNat).Kind == 7), vB ((at_ p1.Code g6.toNat).Kind == 7)] hr fun a hr => ?_
      refine ln ?_
      refine cD hr H (fun c23 H => ?_) fun c23 H => ?_
      ·
       refine wp_seq ?_
       obtain ⟨c24, H⟩ := gd H
       obtain ⟨cs28, h⟩ := h.m1.rowN_take (at_ok c24)
       obtain ⟨ca25, cc26, e27, h⟩ := own_sl28_op (h.m1); subst e27
       obtain ⟨c29, H⟩ := gd H
       refine regL [(blk car4, g6.toNat * 1, [.slice ca25 (at_ r2 g6.toNat).length cc26]), (b11, 2, [vI (at_ p1.Code g6.toNat).B]), (blk ca25, (at_ p1.Code g6.toNat).B.toNat * 1, [vI (at_ (at_ r2 g6.toNat) (at_ p1.Code g6.toNat).B.toNat)])] [2, 4, 6] 10 h (fun h => ⟨⟨(h.pick 1).rowH_cell (by decide) (f := 0) rfl, trivial⟩, ⟨(h.pick 2).cell 2 rfl, trivial⟩, ⟨h.row_cell encZ_i64_ok (f := 0) (at_ok c29) rfl, trivial⟩, trivial⟩) fun w h hd => ?_
       refine evs' hd 8 [(0, 36, .slice car4 r2.length ccr5), (1, 37, vI g6)] hr fun a hr => ?_
       refine eon hd 7 2 rfl (wn rfl) hr (pA (blk car4) (g6.toNat * 1)) (hrun := fun w => ri_rowH (k := .i64) (E := 28) rfl (by kernel_rfl) (by kernel_rfl) (by kernel_rfl) (by kernel_rfl) (h.pick 1) c24) fun a hr => ?_
       refine evs' hd 6 [(4, 40, pA b11 2)] hr fun a hr => ?_
       refine elx hd 0 5 3 hr (wn rfl) rfl rfl fun a hr => ?_
       refine elx hd 1 4 5 hr (wn rfl) rfl rfl fun a hr => ?_
       refine eon hd 3 6 rfl (wn rfl) hr (pA (blk ca25) ((at_ p1.Code g6.toNat).B.toNat * 1)) (hrun := fun w => ri_row (k := .i64) (E := 3) rfl (by kernel_rfl) (by kernel_rfl) (by kernel_rfl) (by kernel_rfl) h c29) fun a hr => ?_
       refine elx hd 2 2 7 hr (wn rfl) rfl rfl fun a hr => ?_
       refine eon hd 1 8 rfl (wn rfl) hr (vI (band (at_ (at_ r2 g6.toNat) (at_ p1.Code g6.toNat).B.toNat) (3 : Int))) (hrun := fun w => rand rfl (by kernel_rfl) (by kernel_rfl)) fun a hr => ?_
       refine evs' hd 0 [(9, 45, vB ((band (at_ (at_ r2 g6.toNat) (at_ p1.Code g6.toNat).B.toNat) (3 : Int)) != 0))] hr fun a hr => ?_
       refine een ?_
       refine then_normal ?_
       refine cN hr H (fun c30 H => ?_) fun c30 H => ?_
       ·
        refine wp_skip ?_
        refine blk_normal ?_
        refine then_normal ?_
        replace h := own_sl28_sh (x := (at_ r2 g6.toNat)) h
        replace h := (h.m1).rowH_same
        exact ⟨(), 0, sinj H, hr.fj (h.se 2 [0])⟩
       ·
        refine wp_region_lit ?_
        refine o1 hr (vI 55) fun a hr => ?_
        refine wpList_nil ?_
        refine blk_normal ?_
        refine then_normal ?_
        replace h := own_sl28_sh (x := (at_ r2 g6.toNat)) h
        replace h := (h.m1).rowH_same
        exact ⟨(), 55, sinj H, hr.fj (h.se 2 [0])⟩
      ·
       refine sr ?_
       refine oo [47, 46] [vB ((at_ p1.Code g6.toNat).Kind == 9), vB ((at_ p1.Code g6.toNat).Kind == 9)] hr fun a hr => ?_
       refine ln ?_
       refine cD hr H (fun c31 H => ?_) fun c31 H => ?_
       ·
        refine sr ?_
        obtain ⟨c32, H⟩ := gd H
        refine oo [48, 49] [.slice car4 r2.length ccr5, vI g6] hr fun a hr => ?_
        refine opv (wn rfl) hr (pA (blk car4) (g6.toNat * 1)) (ri_rowN (k := .i64) (E := 28) rfl (by kernel_rfl) (by kernel_rfl) (by kernel_rfl) (by kernel_rfl) (h.pick 1) c32) fun a hr => ?_
        obtain ⟨cs36, h⟩ := h.m1.rowN_take (at_ok c32)
        obtain ⟨ca33, cc34, e35, h⟩ := own_sl28_op (h.m1); subst e35
        refine ld (wn rfl) hr (.slice ca33 (at_ r2 g6.toNat).length cc34) ((h.pick 1).rowH_cell (by decide) (f := 0) rfl) fun a hr => ?_
        refine oo [52, 53] [vI (((at_ r2 g6.toNat).length : Nat) : Int), vI 0] hr fun a hr => ?_
        refine ln ?_
        refine wp_block ?_
        refine loop_rule (β := Nat) id (fun m a w => ∃ g37 : Int, ∃ g38 : Int, (prog_slots_l2 K r2 g6 m g37 g38) = some o14 ∧ ∃ j, Rep 70 (lk [(0, vI p0), (4, .slice car4 r2.length ccr5), (5, vI g6), (7, vI g37), (13, .slice va1_Code p1.Code.length vc1_Code), (14, vI ((p1.Code.length : Nat) : Int)), (15, vI g6), (51, .slice ca33 (at_ r2 g6.toNat).length cc34), (52, vI (((at_ r2 g6.toNat).length : Nat) : Int)), (53, vI g38)] j) a ∧ Fit z (sepL (rowH 28 1 own_sl28 (.slice car4 r2.length ccr5) r2 g6.toNat [.slice ca33 (at_ r2 g6.toNat).length cc34] :: ro3 ca33 cc34 (at_ r2 g6.toNat) :: L)) w) K ⟨0, 0, H, hr.fj (h.se 3 [1, 0])⟩ ?_
        clear h hr a H; rintro k2 a w ⟨g37, g38, H, j, hr, h⟩
        cases k2 with
        | zero => exact absurd H (by simp [prog_slots_l2])
        | succ k2 =>
         rw [prog_slots_l2] at H
         refine sr ?_
         refine o1 hr (vB (decide (g38 < (((at_ r2 g6.toNat).length : Nat) : Int)))) fun a hr => ?_
         refine ln ?_
         refine wp_seq ?_
         refine cD hr H (fun c39 H => ?_) fun c39 H => ?_
         ·
          refine wp_skip ?_
          refine then_normal ?_
          refine wp_seq ?_
          refine wp_block ?_
          refine sr ?_
          obtain ⟨c40, H⟩ := gd H
          refine opv (wn rfl) hr (pA (blk ca33) (g38.toNat * 1)) (ri_row (k := .i64) (E := 3) rfl (by kernel_rfl) (by kernel_rfl) (by kernel_rfl) (by kernel_rfl) (h.pick 1) c40) fun a hr => ?_
          refine ld (wn rfl) hr (vI (at_ (at_ r2 g6.toNat) g38.toNat)) ((h.pick 1).row_cell encZ_i64_ok (f := 0) (at_ok c40) rfl) fun a hr => ?_
          refine o1 hr (vI (at_ (at_ r2 g6.toNat) g38.toNat)) fun a hr => ?_
          refine ln ?_
          refine sr ?_
          refine o1 hr (vI (at_ (at_ r2 g6.toNat) g38.toNat)) fun a hr => ?_
          refine opv (wn rfl) hr (vI (band (at_ (at_ r2 g6.toNat) g38.toNat) (2 : Int))) (rand rfl (by kernel_rfl) (by kernel_rfl)) fun a hr => ?_
          refine o1 hr (vB ((band (at_ (at_ r2 g6.toNat) g38.toNat) (2 : Int)) != 0)) fun a hr => ?_
          refine ln ?_
          refine cN hr H (fun c41 H => ?_) fun c41 H => ?_
          ·
           refine wp_skip ?_
           refine blk_normal ?_
           refine then_normal ?_
           refine wp_region_lit ?_
           refine oo [60, 53] [vI (wi (g38 + 1)), vI (wi (g38 + 1))] hr fun a hr => ?_
           refine ln ?_
           exact ⟨_, ⟨g37, (wi (g38 + 1)), H, hr.fj h⟩, Nat.lt_succ_self _⟩
          ·
           refine wp_region_lit ?_
           refine o1 hr (vI 56) fun a hr => ?_
           refine wpList_nil ?_
           refine blk_normal ?_
           refine then_normal ?_
           refine wp_region_lit ?_
           refine oo [60, 53] [vI (wi (g38 + 1)), vI (wi (g38 + 1))] hr fun a hr => ?_
           refine ln ?_
           exact ⟨_, ⟨56, (wi (g38 + 1)), H, hr.fj h⟩, Nat.lt_succ_self _⟩
         ·
          refine wp_exit ?_
          refine then_exit ?_
          refine then_exit ?_
          refine blk_here ?_
          refine blk_normal ?_
          refine then_normal ?_
          replace h := h.m1
          replace h := own_sl28_sh (x := (at_ r2 g6.toNat)) h
          replace h := (h.m1).rowH_same
          exact ⟨(), g37, sinj H, hr.fj h⟩
       ·
        refine wp_skip ?_
        refine blk_normal ?_
        refine then_normal ?_
        exact ⟨(), 0, sinj H, hr.fj (h.se 2 [1])⟩
    clear h hr a; rintro _ a w ⟨g12, rfl, j, hr, h⟩
    replace H := kk1 hK13
    refine sr ?_
    refine oo [61, 62] [vI g12, vB (g12 != 0)] hr fun a hr => ?_
    refine ln ?_
    refine cN hr H (fun c42 H => ?_) fun c42 H => ?_
    ·
     refine wp_skip ?_
     refine blk_normal ?_
     refine then_normal ?_
     exact ⟨(), sinj H, hr.fj h⟩
    ·
     refine wp_region_lit ?_
     refine oo [63, 64, 65, 66, 67, 68] [vI g12, vI p0, vI g6, .agg #[vI g12, vI p0, vI g6], .agg #[vI g12, vI p0, vI g6], .iface 138 (.agg #[vI g12, vI p0, vI g6])] hr fun a hr => ?_
     refine op_pan (wn rfl) hr rfl (T := 138) (u := .agg #[vI g12, vI p0, vI g6]) (by kernel_rfl) ?_
     refine blk_pan ?_
     refine then_pan ?_
     refine then_pan ?_
     refine blk_pan ?_
     refine end_pan hr ?_
     replace H := jx0 H hK8
     replace H := ejR H; subst H
     exact ⟨rfl, h.se 1 []⟩
   clear h hr a; rintro _ a w ⟨rfl, j, hr, h⟩
   replace H := jk0 hK8
   refine wp_region_lit ?_
   refine oo [69, 15] [vI (wi (g6 + 1)), vI (wi (g6 + 1))] hr fun a hr => ?_
   refine ln ?_
   exact ⟨_, ⟨(wi (g6 + 1)), H, hr.fj h⟩, Nat.lt_succ_self _⟩
  ·
   refine wp_exit ?_
   refine then_exit ?_
   refine then_exit ?_
   refine blk_here ?_
   refine end_norm0 rfl hr ?_
   cases H

def prog_Check_l1 (K : Nat) (p0 : T_api_Program) : Nat → Int → Option ((Unit) ⊕ (T_api_Fault))
  | 0, _ => none
  | k1 + 1, g9 => (if g9 < ((p0.Funcs.length : Nat) : Int) then if inr_ g9 p0.Funcs.length then ob1 (prog_shapeOK (at_ p0.Funcs g9.toNat)) (fun r13 => (if r13 = true then (prog_Check_l1 K p0 k1 (wi (g9 + 1))) else some (.inr (⟨51, g9, 0⟩ : T_api_Fault)))) else none else some (.inl ()))
def prog_Check_l2 (K : Nat) (p0 : T_api_Program) : Nat → Int → Option ((Unit) ⊕ (T_api_Fault))
  | 0, _ => none
  | k2 + 1, g18 => (if g18 < ((p0.Funcs.length : Nat) : Int) then if inr_ g18 p0.Funcs.length then ob1 (prog_instructions K g18 (at_ p0.Funcs g18.toNat) p0.Funcs) (fun r22 => (match r22 with | .inl q24 => (prog_Check_l2 K p0 k2 (wi (g18 + 1))) | .inr q25 => some (.inr (⟨q25.fault_Err, q25.fault_Func, q25.fault_At⟩ : T_api_Fault)))) else none else some (.inl ()))
def prog_Check_l3 (K : Nat) (p0 : T_api_Program) : Nat → Int → Option (T_api_Fault)
  | 0, _ => none
  | k3 + 1, g26 => (if g26 < ((p0.Funcs.length : Nat) : Int) then if inr_ g26 p0.Funcs.length then ob1 (prog_slots K g26 (at_ p0.Funcs g26.toNat)) (fun r30 => (match r30 with | .inl q32 => (prog_Check_l3 K p0 k3 (wi (g26 + 1))) | .inr q33 => some (⟨q33.fault_Err, q33.fault_Func, q33.fault_At⟩ : T_api_Fault))) else none else some (⟨0, 0, 0⟩ : T_api_Fault))
/-- plunder/prog.Check -/
def prog_Check (K : Nat) (p0 : T_api_Program) : Option (T_api_Fault) :=
  jn0 ((if ((p0.Funcs.length : Nat) : Int) < 1 then some (.inr (⟨50, 0, 0⟩ : T_api_Fault)) else (if ((p0.Funcs.length : Nat) : Int) > 32 then some (.inr (⟨50, 0, 0⟩ : T_api_Fault)) else some (.inl ())))) (jn0 ((prog_Check_l1 K p0 K 0)) (jn0 ((prog_Check_l2 K p0 K 0)) ((prog_Check_l3 K p0 K 0))))

theorem prog_Check_ok {z w : World} {L : List HProp} {K : Nat} {p0 : T_api_Program} {va0_Funcs : Option Addr} {vc0_Funcs : Nat} {hs0_Funcs : Nat → Option Addr × Nat} {r0 : T_api_Fault} (H : prog_Check K p0 = some r0) (h : Fit z (sepL (L)) w) (hv0_Funcs : Rd76 L va0_Funcs hs0_Funcs p0.Funcs) (hg0 : RdRow L 5 enc_T_anon155 (some ⟨0, 0, none⟩) gl0) :
    Calls Tryd.prog 31 #[.agg #[.slice va0_Funcs p0.Funcs.length vc0_Funcs]] w fun e w => e = .returned (ag_T_api_Fault r0) ∧ Fit z (sepL (L)) w := by
 unfold prog_Check at H
 refine enterD Tryd.func31 rfl 62 rfl rfl [(0, .agg #[.slice va0_Funcs p0.Funcs.length vc0_Funcs])] ⟨rfl, trivial⟩ ?_
 intro j a hr
 refine sr ?_
 refine onew (wn rfl) hr h nb (#[.slice va0_Funcs p0.Funcs.length vc0_Funcs]) 24 fun b1 w a h hr => ?_
 refine onew (wn rfl) hr h nb (#[vI 0, vI 0, vI 0]) 104 fun b2 w a h hr => ?_
 refine ln ?_
 refine sr ?_
 refine o1 hr (.func (.func 47) #[] #[pA b2 0]) fun a hr => ?_
 refine op_defer (wn rfl) rfl hr (q := { target := .fn (.func 47) #[pA b2 0], args := #[] }) (by kernel_rfl) fun a hr => ?_
 refine ln ?_
 obtain ⟨o4, H, hK3⟩ := jd0 H
 refine cut_rule (β := Unit) (fun _ a w => .inl () = o4 ∧ ∃ j, RepD [qChk b2] 62 (lk [(1, pA b1 0), (2, pA b2 0)] j) a ∧ Fit z (sepL (pts b1 (.cells #[.slice va0_Funcs p0.Funcs.length vc0_Funcs] 24) :: pts b2 (.cells #[vI 0, vI 0, vI 0] 104) :: L)) w) ?_ ?_
 ·
  refine sr ?_
  refine o1 hr (pA b1 0) fun a hr => ?_
  refine ld (wn rfl) hr (.slice va0_Funcs p0.Funcs.length vc0_Funcs) ((h.pick 1).cell 0 rfl) fun a hr => ?_
  refine oo [12, 13, 14] [vI ((p0.Funcs.length : Nat) : Int), vB (decide (((p0.Funcs.length : Nat) : Int) < 1)), vB (decide (((p0.Funcs.length : Nat) : Int) < 1))] hr fun a hr => ?_
  by_cases c5 : ((p0.Funcs.length : Nat) : Int) < 1
  ·
   replace H := ifT c5 H
   refine offl (decide_eq_true c5) [15, 16, 17, 18] hr fun a hr => ?_
   refine opv (wn rfl) hr (vB true) (rp_t (b := (decide (((p0.Funcs.length : Nat) : Int) < 1))) rfl (by kernel_rfl) (decide_eq_true c5) (by kernel_rfl)) fun a hr => ?_
   refine ln ?_
   refine cond_tt hr (b := true) rfl ?_
   refine sr ?_
   refine o1 hr (.agg #[vI 50, vI 0, vI 0]) fun a hr => ?_
   refine stm (wn rfl) hr h 0 ([vI 50, vI 0, vI 0]) (pts b2 (.cells #[vI 50, vI 0, vI 0] 104)) fun w h => ?_
   refine ln ?_
   refine wp_ret ?_
   refine then_ret ?_
   refine endChk_ret hr rfl (by kernel_rfl) h ?_
   replace H := jx0 H hK3
   replace H := ej1 H; subst H
   exact ⟨rfl, h.se 2 []⟩
  ·
   replace H := ifF c5 H
   refine onl (decide_eq_false c5) [15] [pA b1 0] hr fun a hr => ?_
   refine ld (wgt hr (decide_eq_false c5)) hr (.slice va0_Funcs p0.Funcs.length vc0_Funcs) ((h.pick 1).cell 0 rfl) fun a hr => ?_
   refine onl (decide_eq_false c5) [17, 18] [vI ((p0.Funcs.length : Nat) : Int), vB (decide (((p0.Funcs.length : Nat) : Int) > 32))] hr fun a hr => ?_
   refine opv (wn rfl) hr (vB (decide (((p0.Funcs.length : Nat) : Int) > 32))) (rp_f (b := (decide (((p0.Funcs.length : Nat) : Int) < 1))) rfl (by kernel_rfl) (decide_eq_false c5) (by kernel_rfl)) fun a hr => ?_
   refine ln ?_
   refine cD hr H (fun c6 H => ?_) fun c6 H => ?_
   ·
    refine sr ?_
    refine o1 hr (.agg #[vI 50, vI 0, vI 0]) fun a hr => ?_
    refine stm (wn rfl) hr h 0 ([vI 50, vI 0, vI 0]) (pts b2 (.cells #[vI 50, vI 0, vI 0] 104)) fun w h => ?_
    refine ln ?_
    refine wp_ret ?_
    refine then_ret ?_
    refine endChk_ret hr rfl (by kernel_rfl) h ?_
    replace H := jx0 H hK3
    replace H := ej1 H; subst H
    exact ⟨rfl, h.se 2 []⟩
   ·
    refine wp_skip ?_
    refine then_normal ?_
    exact ⟨(), sinj H, hr.fj (h.se 2 [1, 0])⟩
 clear h hr a; rintro _ a w ⟨rfl, j, hr, h⟩
 replace H := jk0 hK3
 obtain ⟨o8, H, hK7⟩ := jd0 H
 refine cut_rule (β := Unit) (fun _ a w => .inl () = o8 ∧ ∃ j, RepD [qChk b2] 62 (lk [(1, pA b1 0), (2, pA b2 0)] j) a ∧ Fit z (sepL (pts b1 (.cells #[.slice va0_Funcs p0.Funcs.length vc0_Funcs] 24) :: pts b2 (.cells #[vI 0, vI 0, vI 0] 104) :: L)) w) ?_ ?_
 ·
  refine sr ?_
  refine o1 hr (pA b1 0) fun a hr => ?_
  refine ld (wn rfl) hr (.slice va0_Funcs p0.Funcs.length vc0_Funcs) (h.cell 0 rfl) fun a hr => ?_
  refine oo [23, 24] [vI ((p0.Funcs.length : Nat) : Int), vI 0] hr fun a hr => ?_
  refine ln ?_
  refine wp_block ?_
  refine loop_rule (β := Nat) id (fun m a w => ∃ g9 : Int, (prog_Check_l1 K p0 m g9) = some o8 ∧ ∃ j, RepD [qChk b2] 62 (lk [(1, pA b1 0), (2, pA b2 0), (22, .slice va0_Funcs p0.Funcs.length vc0_Funcs), (23, vI ((p0.Funcs.length : Nat) : Int)), (24, vI g9)] j) a ∧ Fit z (sepL (pts b1 (.cells #[.slice va0_Funcs p0.Funcs.length vc0_Funcs] 24) :: pts b2 (.cells #[vI 0, vI 0, vI 0] 104) :: L)) w) K ⟨0, H, hr.fj h⟩ ?_
  clear h hr a H; rintro k1 a w ⟨g9, H, j, hr, h⟩
  cases k1 with
  | zero => exact absurd H (by simp [prog_Check_l1])
  | succ k1 =>
   rw [prog_Check_l1] at H
   refine sr ?_
   refine o1 hr (vB (decide (g9 < ((p0.Funcs.length : Nat) : Int)))) fun a hr => ?_
   refine ln ?_
   refine wp_seq ?_
   refine cD hr H (fun c10 H => ?_) fun c10 H => ?_
   ·
    refine wp_skip ?_
    refine then_normal ?_
    refine wp_seq ?_
    refine wp_block ?_
    refine sr ?_
    obtain ⟨c11, H⟩ := gd H
    refine o1 hr (vI g9) fun a hr => ?_
    refine opv (wn rfl) hr (pA (blk va0_Funcs) (offs va0_Funcs + g9.toNat * 4)) (ri_rn (k := .i64) (E := 76) (cc := vc0_Funcs) rfl (by kernel_rfl) (by kernel_rfl) rfl (by kernel_rfl) (by kernel_rfl) hv0_Funcs c11) fun a hr => ?_
    refine ldm (wn rfl) hr (.agg #[vI (at_ p0.Funcs g9.toNat).Params, vI (at_ p0.Funcs g9.toNat).Regs, vI (at_ p0.Funcs g9.toNat).Slots, .slice ((hs0_Funcs g9.toNat).1) (at_ p0.Funcs g9.toNat).Code.length ((hs0_Funcs g9.toNat).2)]) (cs := [vI (at_ p0.Funcs g9.toNat).Params, vI (at_ p0.Funcs g9.toNat).Regs, vI (at_ p0.Funcs g9.toNat).Slots, .slice ((hs0_Funcs g9.toNat).1) (at_ p0.Funcs g9.toNat).Code.length ((hs0_Funcs g9.toNat).2)]) ⟨hv0_Funcs.cell c11 (h.dn 2) 0 rfl, hv0_Funcs.cell c11 (h.dn 2) 1 rfl, hv0_Funcs.cell c11 (h.dn 2) 2 rfl, hv0_Funcs.cell c11 (h.dn 2) 3 rfl, trivial⟩ fun a hr => ?_
    refine onew (wn rfl) hr h nb (#[vI 0, vI 0, vI 0, .slice none 0 0]) 76 fun b12 w a h hr => ?_
    refine o1 hr (vI g9) fun a hr => ?_
    refine stm (wn rfl) hr h 0 ([vI (at_ p0.Funcs g9.toNat).Params, vI (at_ p0.Funcs g9.toNat).Regs, vI (at_ p0.Funcs g9.toNat).Slots, .slice ((hs0_Funcs g9.toNat).1) (at_ p0.Funcs g9.toNat).Code.length ((hs0_Funcs g9.toNat).2)]) (ob76 b12 (at_ p0.Funcs g9.toNat) ((hs0_Funcs g9.toNat).1) ((hs0_Funcs g9.toNat).2)) fun w h => ?_
    refine ln ?_
    refine sr ?_
    refine ldm (wn rfl) hr (.agg #[vI (at_ p0.Funcs g9.toNat).Params, vI (at_ p0.Funcs g9.toNat).Regs, vI (at_ p0.Funcs g9.toNat).Slots, .slice ((hs0_Funcs g9.toNat).1) (at_ p0.Funcs g9.toNat).Code.length ((hs0_Funcs g9.toNat).2)]) (cs := [vI (at_ p0.Funcs g9.toNat).Params, vI (at_ p0.Funcs g9.toNat).Regs, vI (at_ p0.Funcs g9.toNat).Slots, .slice ((hs0_Funcs g9.toNat).1) (at_ p0.Funcs g9.toNat).Code.length ((hs0_Funcs g9.toNat).2)]) (h.held 0 rfl) fun a hr => ?_
    obtain ⟨r13, e14, H⟩ := bd1 H
    have hc := prog_shapeOK_ok (va0_Code := ((hs0_Funcs g9.toNat).1)) (vc0_Code := ((hs0_Funcs g9.toNat).2)) (hv0_Code := (RdRow.up 3 (hv0_Funcs.inn c11))) (H := e14) (h := h)
    refine cl (wn rfl) hr hc ?_; clear hc h
    rintro _ w ⟨rfl, h⟩; refine ⟨_, rfl, fun a hr => ?_⟩
    refine o1 hr (vB (!r13)) fun a hr => ?_
    refine ln ?_
    refine cM hr H (fun c15 H => ?_) fun c15 H => ?_
    ·
     refine wp_skip ?_
     refine blk_normal ?_
     refine then_normal ?_
     refine wp_region_lit ?_
     refine oo [34, 24] [vI (wi (g9 + 1)), vI (wi (g9 + 1))] hr fun a hr => ?_
     refine ln ?_
     exact ⟨_, ⟨(wi (g9 + 1)), H, hr.fj (h.se 3 [1, 2])⟩, Nat.lt_succ_self _⟩
    ·
     refine sr ?_
     refine oo [32, 33] [vI g9, .agg #[vI 51, vI g9, vI 0]] hr fun a hr => ?_
     replace h := h.m2
     refine stm (wn rfl) hr h 0 ([vI 51, vI g9, vI 0]) (pts b2 (.cells #[vI 51, vI g9, vI 0] 104)) fun w h => ?_
     refine ln ?_
     refine wp_ret ?_
     refine blk_ret ?_
     refine then_ret ?_
     refine then_ret ?_
     refine blk_ret ?_
     refine then_ret ?_
     refine endChk_ret hr rfl (by kernel_rfl) h ?_
     replace H := jx0 H hK7
     replace H := ej1 H; subst H
     exact ⟨rfl, h.se 3 []⟩
   ·
    refine wp_exit ?_
    refine then_exit ?_
    refine then_exit ?_
    refine blk_here ?_
    refine then_normal ?_
    exact ⟨(), sinj H, hr.fj h⟩
 clear h hr a; rintro _ a w ⟨rfl, j, hr, h⟩
 replace H := jk0 hK7
 obtain ⟨o17, H, hK16⟩ := jd0 H
 refine cut_rule (β := Unit) (fun _ a w => .inl () = o17 ∧ ∃ j, RepD [qChk b2] 62 (lk [(1, pA b1 0), (2, pA b2 0)] j) a ∧ Fit z (sepL (pts b1 (.cells #[.slice va0_Funcs p0.Funcs.length vc0_Funcs] 24) :: pts b2 (.cells #[vI 0, vI 0, vI 0] 104) :: L)) w) ?_ ?_
 ·
  refine sr ?_
  refine o1 hr (pA b1 0) fun a hr => ?_
  refine ld (wn rfl) hr (.slice va0_Funcs p0.Funcs.length vc0_Funcs) (h.cell 0 rfl) fun a hr => ?_
  refine oo [37, 38] [vI ((p0.Funcs.length : Nat) : Int), vI 0] hr fun a hr => ?_
  refine ln ?_
  refine wp_block ?_
  refine loop_rule (β := Nat) id (fun m a w => ∃ g18 : Int, (prog_Check_l2 K p0 m g18) = some o17 ∧ ∃ j, RepD [qChk b2] 62 (lk [(1, pA b1 0), (2, pA b2 0), (36, .slice va0_Funcs p0.Funcs.length vc0_Funcs), (37, vI ((p0.Funcs.length : Nat) : Int)), (38, vI g18)] j) a ∧ Fit z (sepL (pts b1 (.cells #[.slice va0_Funcs p0.Funcs.length vc0_Funcs] 24) :: pts b2 (.cells #[vI 0, vI 0, vI 0] 104) :: L)) w) K ⟨0, H, hr.fj h⟩ ?_
  clear h hr a H; rintro k2 a w ⟨g18, H, j, hr, h⟩
  cases k2 with
  | zero => exact absurd H (by simp [prog_Check_l2])
  | succ k2 =>
   rw [prog_Check_l2] at H
   refine sr ?_
   refine o1 hr (vB (decide (g18 < ((p0.Funcs.length : Nat) : Int)))) fun a hr => ?_
   refine ln ?_
   refine wp_seq ?_
   refine cD hr H (fun c19 H => ?_) fun c19 H => ?_
   ·
    refine wp_skip ?_
    refine then_normal ?_
    refine wp_seq ?_
    refine wp_block ?_
    refine sr ?_
    obtain ⟨c20, H⟩ := gd H
    refine o1 hr (vI g18) fun a hr => ?_
    refine opv (wn rfl) hr (pA (blk va0_Funcs) (offs va0_Funcs + g18.toNat * 4)) (ri_rn (k := .i64) (E := 76) (cc := vc0_Funcs) rfl (by kernel_rfl) (by kernel_rfl) rfl (by kernel_rfl) (by kernel_rfl) hv0_Funcs c20) fun a hr => ?_
    refine ldm (wn rfl) hr (.agg #[vI (at_ p0.Funcs g18.toNat).Params, vI (at_ p0.Funcs g18.toNat).Regs, vI (at_ p0.Funcs g18.toNat).Slots, .slice ((hs0_Funcs g18.toNat).1) (at_ p0.Funcs g18.toNat).Code.length ((hs0_Funcs g18.toNat).2)]) (cs := [vI (at_ p0.Funcs g18.toNat).Params, vI (at_ p0.Funcs g18.toNat).Regs, vI (at_ p0.Funcs g18.toNat).Slots, .slice ((hs0_Funcs g18.toNat).1) (at_ p0.Funcs g18.toNat).Code.length ((hs0_Funcs g18.toNat).2)]) ⟨hv0_Funcs.cell c20 (h.dn 2) 0 rfl, hv0_Funcs.cell c20 (h.dn 2) 1 rfl, hv0_Funcs.cell c20 (h.dn 2) 2 rfl, hv0_Funcs.cell c20 (h.dn 2) 3 rfl, trivial⟩ fun a hr => ?_
    refine onew (wn rfl) hr h nb (#[vI 0, vI 0, vI 0, .slice none 0 0]) 76 fun b21 w a h hr => ?_
    refine o1 hr (vI g18) fun a hr => ?_
    refine stm (wn rfl) hr h 0 ([vI (at_ p0.Funcs g18.toNat).Params, vI (at_ p0.Funcs g18.toNat).Regs, vI (at_ p0.Funcs g18.toNat).Slots, .slice ((hs0_Funcs g18.toNat).1) (at_ p0.Funcs g18.toNat).Code.length ((hs0_Funcs g18.toNat).2)]) (ob76 b21 (at_ p0.Funcs g18.toNat) ((hs0_Funcs g18.toNat).1) ((hs0_Funcs g18.toNat).2)) fun w h => ?_
    refine ln ?_
    refine wp_region_lit ?_
    refine o1 hr (vI g18) fun a hr => ?_
    refine ldm (wn rfl) hr (.agg #[vI (at_ p0.Funcs g18.toNat).Params, vI (at_ p0.Funcs g18.toNat).Regs, vI (at_ p0.Funcs g18.toNat).Slots, .slice ((hs0_Funcs g18.toNat).1) (at_ p0.Funcs g18.toNat).Code.length ((hs0_Funcs g18.toNat).2)]) (cs := [vI (at_ p0.Funcs g18.toNat).Params, vI (at_ p0.Funcs g18.toNat).Regs, vI (at_ p0.Funcs g18.toNat).Slots, .slice ((hs0_Funcs g18.toNat).1) (at_ p0.Funcs g18.toNat).Code.length ((hs0_Funcs g18.toNat).2)]) (h.held 0 rfl) fun a hr => ?_
    refine o1 hr (pA b1 0) fun a hr => ?_
    refine ld (wn rfl) hr (.slice va0_Funcs p0.Funcs.length vc0_Funcs) ((h.pick 1).cell 0 rfl) fun a hr => ?_
    obtain ⟨r22, e23, H⟩ := bd1 H
    cases r22 with
    | inl q24 =>
     have hc := prog_instructions_ok0 (va2 := va0_Funcs) (vc2 := vc0_Funcs) (hv2 := (RdN.up 3 hv0_Funcs)) (va1_Code := ((hs0_Funcs g18.toNat).1)) (vc1_Code := ((hs0_Funcs g18.toNat).2)) (hv1_Code := (RdRow.up 3 (hv0_Funcs.inn c20))) (hg0 := RdRow.up 3 hg0) (hs2 := hs0_Funcs) (H := e23) (h := h)
     refine cl (wn rfl) hr hc ?_; clear hc h
     rintro _ w ⟨rfl, h⟩; refine ⟨_, rfl, fun a hr => ?_⟩
     refine wpList_nil ?_
     refine blk_normal ?_
     refine then_normal ?_
     refine wp_region_lit ?_
     refine oo [48, 38] [vI (wi (g18 + 1)), vI (wi (g18 + 1))] hr fun a hr => ?_
     refine ln ?_
     exact ⟨_, ⟨(wi (g18 + 1)), H, hr.fj (h.se 3 [1, 2])⟩, Nat.lt_succ_self _⟩
    | inr q25 =>
     have hc := prog_instructions_ok1 (va2 := va0_Funcs) (vc2 := vc0_Funcs) (hv2 := (RdN.up 3 hv0_Funcs)) (va1_Code := ((hs0_Funcs g18.toNat).1)) (vc1_Code := ((hs0_Funcs g18.toNat).2)) (hv1_Code := (RdRow.up 3 (hv0_Funcs.inn c20))) (hg0 := RdRow.up 3 hg0) (hs2 := hs0_Funcs) (H := e23) (h := h)
     refine op_callP (wn rfl) hr (f := 49) (args := #[vI g18, .agg #[vI (at_ p0.Funcs g18.toNat).Params, vI (at_ p0.Funcs g18.toNat).Regs, vI (at_ p0.Funcs g18.toNat).Slots, .slice ((hs0_Funcs g18.toNat).1) (at_ p0.Funcs g18.toNat).Code.length ((hs0_Funcs g18.toNat).2)], .slice va0_Funcs p0.Funcs.length vc0_Funcs]) (by kernel_rfl) hc ?_; clear hc h
     rintro _ w ⟨rfl, h⟩; refine ⟨_, rfl, ?_⟩
     refine blk_pan ?_
     refine then_pan ?_
     refine then_pan ?_
     refine blk_pan ?_
     refine then_pan ?_
     replace h := h.m2
     refine endChk_pan hr rfl (by kernel_rfl) h fun w h => ?_
     replace H := jx0 H hK16
     replace H := ej1 H; subst H
     exact ⟨rfl, h.se 3 []⟩
   ·
    refine wp_exit ?_
    refine then_exit ?_
    refine then_exit ?_
    refine blk_here ?_
    refine then_normal ?_
    exact ⟨(), sinj H, hr.fj h⟩
 clear h hr a; rintro _ a w ⟨rfl, j, hr, h⟩
 replace H := jk0 hK16
 refine wp_seq ?_
 refine sr ?_
 refine o1 hr (pA b1 0) fun a hr => ?_
 refine ld (wn rfl) hr (.slice va0_Funcs p0.Funcs.length vc0_Funcs) (h.cell 0 rfl) fun a hr => ?_
 refine oo [51, 52] [vI ((p0.Funcs.length : Nat) : Int), vI 0] hr fun a hr => ?_
 refine ln ?_
 refine wp_block ?_
 refine loop_rule (β := Nat) id (fun m a w => ∃ g26 : Int, (prog_Check_l3 K p0 m g26) = some r0 ∧ ∃ j, RepD [qChk b2] 62 (lk [(2, pA b2 0), (50, .slice va0_Funcs p0.Funcs.length vc0_Funcs), (51, vI ((p0.Funcs.length : Nat) : Int)), (52, vI g26)] j) a ∧ Fit z (sepL (pts b2 (.cells #[vI 0, vI 0, vI 0] 104) :: L)) w) K ⟨0, H, hr.fj (h.se 2 [1])⟩ ?_
 clear h hr a H; rintro k3 a w ⟨g26, H, j, hr, h⟩
 cases k3 with
 | zero => exact absurd H (by simp [prog_Check_l3])
 | succ k3 =>
  rw [prog_Check_l3] at H
  refine sr ?_
  refine o1 hr (vB (decide (g26 < ((p0.Funcs.length : Nat) : Int)))) fun a hr => ?_
  refine ln ?_
  refine wp_seq ?_
  refine cD hr H (fun c27 H => ?_) fun c27 H => ?_
  ·
   refine wp_skip ?_
   refine then_normal ?_
   refine wp_seq ?_
   refine wp_block ?_
   refine sr ?_
   obtain ⟨c28, H⟩ := gd H
   refine o1 hr (vI g26) fun a hr => ?_
   refine opv (wn rfl) hr (pA (blk va0_Funcs) (offs va0_Funcs + g26.toNat * 4)) (ri_rn (k := .i64) (E := 76) (cc := vc0_Funcs) rfl (by kernel_rfl) (by kernel_rfl) rfl (by kernel_rfl) (by kernel_rfl) hv0_Funcs c28) fun a hr => ?_
   refine ldm (wn rfl) hr (.agg #[vI (at_ p0.Funcs g26.toNat).Params, vI (at_ p0.Funcs g26.toNat).Regs, vI (at_ p0.Funcs g26.toNat).Slots, .slice ((hs0_Funcs g26.toNat).1) (at_ p0.Funcs g26.toNat).Code.length ((hs0_Funcs g26.toNat).2)]) (cs := [vI (at_ p0.Funcs g26.toNat).Params, vI (at_ p0.Funcs g26.toNat).Regs, vI (at_ p0.Funcs g26.toNat).Slots, .slice ((hs0_Funcs g26.toNat).1) (at_ p0.Funcs g26.toNat).Code.length ((hs0_Funcs g26.toNat).2)]) ⟨hv0_Funcs.cell c28 (h.dn 1) 0 rfl, hv0_Funcs.cell c28 (h.dn 1) 1 rfl, hv0_Funcs.cell c28 (h.dn 1) 2 rfl, hv0_Funcs.cell c28 (h.dn 1) 3 rfl, trivial⟩ fun a hr => ?_
   refine onew (wn rfl) hr h nb (#[vI 0, vI 0, vI 0, .slice none 0 0]) 76 fun b29 w a h hr => ?_
   refine o1 hr (vI g26) fun a hr => ?_
   refine stm (wn rfl) hr h 0 ([vI (at_ p0.Funcs g26.toNat).Params, vI (at_ p0.Funcs g26.toNat).Regs, vI (at_ p0.Funcs g26.toNat).Slots, .slice ((hs0_Funcs g26.toNat).1) (at_ p0.Funcs g26.toNat).Code.length ((hs0_Funcs g26.toNat).2)]) (ob76 b29 (at_ p0.Funcs g26.toNat) ((hs0_Funcs g26.toNat).1) ((hs0_Funcs g26.toNat).2)) fun w h => ?_
   refine ln ?_
   refine wp_region_lit ?_
   refine o1 hr (vI g26) fun a hr => ?_
   refine ldm (wn rfl) hr (.agg #[vI (at_ p0.Funcs g26.toNat).Params, vI (at_ p0.Funcs g26.toNat).Regs, vI (at_ p0.Funcs g26.toNat).Slots, .slice ((hs0_Funcs g26.toNat).1) (at_ p0.Funcs g26.toNat).Code.length ((hs0_Funcs g26.toNat).2)]) (cs := [vI (at_ p0.Funcs g26.toNat).Params, vI (at_ p0.Funcs g26.toNat).Regs, vI (at_ p0.Funcs g26.toNat).Slots, .slice ((hs0_Funcs g26.toNat).1) (at_ p0.Funcs g26.toNat).Code.length ((hs0_Funcs g26.toNat).2)]) (h.held 0 rfl) fun a hr => ?_
   obtain ⟨r30, e31, H⟩ := bd1 H
   cases r30 with
   | inl q32 =>
    have hc := prog_slots_ok0 (va1_Code := ((hs0_Funcs g26.toNat).1)) (vc1_Code := ((hs0_Funcs g26.toNat).2)) (hv1_Code := (RdRow.up 2 (hv0_Funcs.inn c28))) (hg0 := RdRow.up 2 hg0) (H := e31) (h := h)
    refine cl (wn rfl) hr hc ?_; clear hc h
    rintro _ w ⟨rfl, h⟩; refine ⟨_, rfl, fun a hr => ?_⟩
    refine wpList_nil ?_
    refine blk_normal ?_
    refine then_normal ?_
    refine wp_region_lit ?_
    refine oo [60, 52] [vI (wi (g26 + 1)), vI (wi (g26 + 1))] hr fun a hr => ?_
    refine ln ?_
    exact ⟨_, ⟨(wi (g26 + 1)), H, hr.fj (h.se 2 [1])⟩, Nat.lt_succ_self _⟩
   | inr q33 =>
    have hc := prog_slots_ok1 (va1_Code := ((hs0_Funcs g26.toNat).1)) (vc1_Code := ((hs0_Funcs g26.toNat).2)) (hv1_Code := (RdRow.up 2 (hv0_Funcs.inn c28))) (hg0 := RdRow.up 2 hg0) (H := e31) (h := h)
    refine op_callP (wn rfl) hr (f := 50) (args := #[vI g26, .agg #[vI (at_ p0.Funcs g26.toNat).Params, vI (at_ p0.Funcs g26.toNat).Regs, vI (at_ p0.Funcs g26.toNat).Slots, .slice ((hs0_Funcs g26.toNat).1) (at_ p0.Funcs g26.toNat).Code.length ((hs0_Funcs g26.toNat).2)]]) (by kernel_rfl) hc ?_; clear hc h
    rintro _ w ⟨rfl, h⟩; refine ⟨_, rfl, ?_⟩
    refine blk_pan ?_
    refine then_pan ?_
    refine then_pan ?_
    refine blk_pan ?_
    refine then_pan ?_
    replace h := h.m1
    refine endChk_pan hr rfl (by kernel_rfl) h fun w h => ?_
    replace H := ej1 H; subst H
    exact ⟨rfl, h.se 2 []⟩
  ·
   refine wp_exit ?_
   refine then_exit ?_
   refine then_exit ?_
   refine blk_here ?_
   refine then_normal ?_
   refine sr ?_
   refine o1 hr (.agg #[vI 0, vI 0, vI 0]) fun a hr => ?_
   refine stm (wn rfl) hr h 0 ([vI 0, vI 0, vI 0]) (pts b2 (.cells #[vI 0, vI 0, vI 0] 104)) fun w h => ?_
   refine ln ?_
   refine wp_ret ?_
   refine endChk_ret hr rfl (by kernel_rfl) h ?_
   replace H := ej1 H; subst H
   exact ⟨rfl, h.se 1 []⟩

/-- plunder/plunderref11.badLimits -/
def plunderref11_badLimits (p0 : T_api_Limits) : Option (Bool) :=
  (if p0.Frames < 1 then some true else (if p0.Frames > 4096 then some true else (if p0.First < 1 then some true else (if p0.First > p0.Most then some true else some (decide (p0.Most > 4096))))))

theorem plunderref11_badLimits_ok {z w : World} {L : List HProp} {p0 : T_api_Limits} {r0 : Bool} (H : plunderref11_badLimits p0 = some r0) (h : Fit z (sepL (L)) w)  :
    Calls Tryd.prog 26 #[ag_T_api_Limits p0] w fun e w => e = .returned (vB r0) ∧ Fit z (sepL (L)) w := by
 unfold plunderref11_badLimits at H
 refine enter Tryd.func26 rfl 28 rfl rfl [(0, ag_T_api_Limits p0)] ⟨rfl, trivial⟩ ?_
 intro j a hr
 refine sr ?_
 refine onew (wn rfl) hr h nb (ca_T_api_Limits p0) 27 fun b1 w a h hr => ?_
 refine o1 hr (vB false) fun a hr => ?_
 refine ln ?_
 refine sr ?_
 refine o1 hr (pA b1 0) fun a hr => ?_
 refine ld (wn rfl) hr (vI p0.Frames) (h.cell 0 rfl) fun a hr => ?_
 refine oo [5, 6] [vB (decide (p0.Frames < 1)), vB (decide (p0.Frames < 1))] hr fun a hr => ?_
 by_cases c2 : p0.Frames < 1
 ·
  replace H := ifT c2 H
  refine offl (decide_eq_true c2) [7, 8, 9] hr fun a hr => ?_
  refine opv (wn rfl) hr (vB true) (rp_t (b := (decide (p0.Frames < 1))) rfl (by kernel_rfl) (decide_eq_true c2) (by kernel_rfl)) fun a hr => ?_
  refine o1 hr (vB true) fun a hr => ?_
  refine offl (rfl : true = true) [12, 13, 14] hr fun a hr => ?_
  refine oo [15, 16] [vB true, vB true] hr fun a hr => ?_
  refine offl (rfl : true = true) [17, 18, 19, 20, 21] hr fun a hr => ?_
  refine oo [22, 23] [vB true, vB true] hr fun a hr => ?_
  refine offl (rfl : true = true) [24, 25, 26] hr fun a hr => ?_
  refine oo [27, 2] [vB true, vB true] hr fun a hr => ?_
  refine ln ?_
  refine wp_ret ?_
  refine end_ret1 (v := vB true) rfl hr (by kernel_rfl) ?_
  replace H := ej1 H; subst H
  exact ⟨rfl, h.se 1 []⟩
 ·
  replace H := ifF c2 H
  refine onl (decide_eq_false c2) [7] [pA b1 0] hr fun a hr => ?_
  refine ld (wgt hr (decide_eq_false c2)) hr (vI p0.Frames) (h.cell 0 rfl) fun a hr => ?_
  refine onl (decide_eq_false c2) [9] [vB (decide (p0.Frames > 4096))] hr fun a hr => ?_
  refine opv (wn rfl) hr (vB (decide (p0.Frames > 4096))) (rp_f (b := (decide (p0.Frames < 1))) rfl (by kernel_rfl) (decide_eq_false c2) (by kernel_rfl)) fun a hr => ?_
  refine o1 hr (vB (decide (p0.Frames > 4096))) fun a hr => ?_
  by_cases c3 : p0.Frames > 4096
  ·
   replace H := ifT c3 H
   refine offl (decide_eq_true c3) [12, 13, 14] hr fun a hr => ?_
   refine opv (wn rfl) hr (vB true) (rp_t (b := (decide (p0.Frames > 4096))) rfl (by kernel_rfl) (decide_eq_true c3) (by kernel_rfl)) fun a hr => ?_
   refine o1 hr (vB true) fun a hr => ?_
   refine offl (rfl : true = true) [17, 18, 19, 20, 21] hr fun a hr => ?_
   refine oo [22, 23] [vB true, vB true] hr fun a hr => ?_
   refine offl (rfl : true = true) [24, 25, 26] hr fun a hr => ?_
   refine oo [27, 2] [vB true, vB true] hr fun a hr => ?_
   refine ln ?_
   refine wp_ret ?_
   refine end_ret1 (v := vB true) rfl hr (by kernel_rfl) ?_
   replace H := ej1 H; subst H
   exact ⟨rfl, h.se 1 []⟩
  ·
   replace H := ifF c3 H
   refine onl (decide_eq_false c3) [12] [pA b1 1] hr fun a hr => ?_
   refine ld (wgt hr (decide_eq_false c3)) hr (vI p0.First) (h.cell 1 rfl) fun a hr => ?_
   refine onl (decide_eq_false c3) [14] [vB (decide (p0.First < 1))] hr fun a hr => ?_
   refine opv (wn rfl) hr (vB (decide (p0.First < 1))) (rp_f (b := (decide (p0.Frames > 4096))) rfl (by kernel_rfl) (decide_eq_false c3) (by kernel_rfl)) fun a hr => ?_
   refine o1 hr (vB (decide (p0.First < 1))) fun a hr => ?_
   by_cases c4 : p0.First < 1
   ·
    replace H := ifT c4 H
    refine offl (decide_eq_true c4) [17, 18, 19, 20, 21] hr fun a hr => ?_
    refine opv (wn rfl) hr (vB true) (rp_t (b := (decide (p0.First < 1))) rfl (by kernel_rfl) (decide_eq_true c4) (by kernel_rfl)) fun a hr => ?_
    refine o1 hr (vB true) fun a hr => ?_
    refine offl (rfl : true = true) [24, 25, 26] hr fun a hr => ?_
    refine oo [27, 2] [vB true, vB true] hr fun a hr => ?_
    refine ln ?_
    refine wp_ret ?_
    refine end_ret1 (v := vB true) rfl hr (by kernel_rfl) ?_
    replace H := ej1 H; subst H
    exact ⟨rfl, h.se 1 []⟩
   ·
    replace H := ifF c4 H
    refine onl (decide_eq_false c4) [17] [pA b1 1] hr fun a hr => ?_
    refine ld (wgt hr (decide_eq_false c4)) hr (vI p0.First) (h.cell 1 rfl) fun a hr => ?_
    refine onl (decide_eq_false c4) [19] [pA b1 2] hr fun a hr => ?_
    refine ld (wgt hr (decide_eq_false c4)) hr (vI p0.Most) (h.cell 2 rfl) fun a hr => ?_
    refine onl (decide_eq_false c4) [21] [vB (decide (p0.First > p0.Most))] hr fun a hr => ?_
    refine opv (wn rfl) hr (vB (decide (p0.First > p0.Most))) (rp_f (b := (decide (p0.First < 1))) rfl (by kernel_rfl) (decide_eq_false c4) (by kernel_rfl)) fun a hr => ?_
    refine o1 hr (vB (decide (p0.First > p0.Most))) fun a hr => ?_
    by_cases c5 : p0.First > p0.Most
    ·
     replace H := ifT c5 H
     refine offl (decide_eq_true c5) [24, 25, 26] hr fun a hr => ?_
     refine opv (wn rfl) hr (vB true) (rp_t (b := (decide (p0.First > p0.Most))) rfl (by kernel_rfl) (decide_eq_true c5) (by kernel_rfl)) fun a hr => ?_
     refine o1 hr (vB true) fun a hr => ?_
     refine ln ?_
     refine wp_ret ?_
     refine end_ret1 (v := vB true) rfl hr (by kernel_rfl) ?_
     replace H := ej1 H; subst H
     exact ⟨rfl, h.se 1 []⟩
    ·
     replace H := ifF c5 H
     refine onl (decide_eq_false c5) [24] [pA b1 2] hr fun a hr => ?_
     refine ld (wgt hr (decide_eq_false c5)) hr (vI p0.Most) (h.cell 2 rfl) fun a hr => ?_
     refine onl (decide_eq_false c5) [26] [vB (decide (p0.Most > 4096))] hr fun a hr => ?_
     refine opv (wn rfl) hr (vB (decide (p0.Most > 4096))) (rp_f (b := (decide (p0.First > p0.Most))) rfl (by kernel_rfl) (decide_eq_false c5) (by kernel_rfl)) fun a hr => ?_
     refine o1 hr (vB (decide (p0.Most > 4096))) fun a hr => ?_
     refine ln ?_
     refine wp_ret ?_
     refine end_ret1 (v := vB (decide (p0.Most > 4096))) rfl hr (by kernel_rfl) ?_
     replace H := ej1 H; subst H
     exact ⟨rfl, h.se 1 []⟩

/-- plunder/plunderref11.Refused -/
def plunderref11_Refused (K : Nat) (p0 : T_api_Program) (p1 : List Int) (p2 : Int) (p3 : T_api_Limits) : Option (Int) :=
  ob1 (plunderref5_Check K p0) (fun r3 => (if r3.Err = 0 then if inr_ (0 : Int) p0.Funcs.length then (if ((p1.length : Nat) : Int) = (at_ p0.Funcs 0).Params then (if p2 < 1 then some 110 else (if p2 > 64 then some 110 else ob1 (plunderref11_badLimits p3) (fun r11 => (if r11 = true then some 111 else some 0)))) else some 61) else none else some 60))

theorem plunderref11_Refused_ok {z w : World} {L : List HProp} {K : Nat} {p0 : T_api_Program} {p1 : List Int} {p2 r0 : Int} {p3 : T_api_Limits} {va0_Funcs va1 : Option Addr} {vc0_Funcs vc1 : Nat} {hs0_Funcs : Nat → Option Addr × Nat} (H : plunderref11_Refused K p0 p1 p2 p3 = some r0) (h : Fit z (sepL (L)) w) (hv0_Funcs : Rd76 L va0_Funcs hs0_Funcs p0.Funcs) (hv1 : RdRow L 1 encZ_i64 va1 p1) :
    Calls Tryd.prog 6 #[.agg #[.slice va0_Funcs p0.Funcs.length vc0_Funcs], .slice va1 p1.length vc1, vI p2, ag_T_api_Limits p3] w fun e w => e = .returned (vI r0) ∧ Fit z (sepL (L)) w := by
 unfold plunderref11_Refused at H
 refine enter Tryd.func6 rfl 35 rfl rfl [(0, .agg #[.slice va0_Funcs p0.Funcs.length vc0_Funcs]), (1, .slice va1 p1.length vc1), (2, vI p2), (3, ag_T_api_Limits p3)] ⟨rfl, rfl, rfl, rfl, trivial⟩ ?_
 intro j a hr
 refine sr ?_
 refine onew (wn rfl) hr h nb (#[.slice va0_Funcs p0.Funcs.length vc0_Funcs]) 24 fun b1 w a h hr => ?_
 refine onew (wn rfl) hr h nb (ca_T_api_Limits p3) 27 fun b2 w a h hr => ?_
 refine o1 hr (vI 0) fun a hr => ?_
 refine ln ?_
 refine sr ?_
 refine ldm (wn rfl) hr (.agg #[.slice va0_Funcs p0.Funcs.length vc0_Funcs]) (cs := [.slice va0_Funcs p0.Funcs.length vc0_Funcs]) ⟨(h.pick 1).cell 0 rfl, trivial⟩ fun a hr => ?_
 obtain ⟨r3, e4, H⟩ := bd1 H
 have hc := plunderref5_Check_ok (va0_Funcs := va0_Funcs) (vc0_Funcs := vc0_Funcs) (hv0_Funcs := (RdN.up 2 hv0_Funcs)) (hs0_Funcs := hs0_Funcs) (H := e4) (h := h)
 refine cl (wn rfl) hr hc ?_; clear hc h
 rintro _ w ⟨rfl, h⟩; refine ⟨_, rfl, fun a hr => ?_⟩
 refine onew (wn rfl) hr h nb (#[vI 0, vI 0, vI 0]) 104 fun b5 w a h hr => ?_
 refine stm (wn rfl) hr h 0 (cl_T_api_Fault r3) (ob104 b5 r3) fun w h => ?_
 refine ln ?_
 refine wp_seq ?_
 refine wp_block ?_
 refine sr ?_
 refine o1 hr (pA b5 0) fun a hr => ?_
 refine ld (wn rfl) hr (vI r3.Err) (h.cell 0 rfl) fun a hr => ?_
 refine oo [15, 12] [vB (r3.Err != 0), vB (r3.Err != 0)] hr fun a hr => ?_
 refine ln ?_
 refine cN hr H (fun c6 H => ?_) fun c6 H => ?_
 ·
  refine sr ?_
  refine oo [17, 18, 19] [.slice va1 p1.length vc1, vI ((p1.length : Nat) : Int), pA b1 0] hr fun a hr => ?_
  refine ld (wn rfl) hr (.slice va0_Funcs p0.Funcs.length vc0_Funcs) ((h.pick 2).cell 0 rfl) fun a hr => ?_
  obtain ⟨c7, H⟩ := gd H
  refine opv (wn rfl) hr (pA (blk va0_Funcs) (offs va0_Funcs + 0 * 4)) (ri_rn (k := .i64) (E := 76) (cc := vc0_Funcs) rfl (by kernel_rfl) (by kernel_rfl) rfl (by kernel_rfl) (by kernel_rfl) hv0_Funcs c7) fun a hr => ?_
  refine o1 hr (pA (blk va0_Funcs) (offs va0_Funcs + 0 * 4)) fun a hr => ?_
  refine ld (wn rfl) hr (vI (at_ p0.Funcs 0).Params) (hv0_Funcs.cell c7 (h.dn 3) 0 rfl) fun a hr => ?_
  refine oo [24, 16] [vB (((p1.length : Nat) : Int) != (at_ p0.Funcs 0).Params), vB (((p1.length : Nat) : Int) != (at_ p0.Funcs 0).Params)] hr fun a hr => ?_
  refine ln ?_
  refine cN hr H (fun c8 H => ?_) fun c8 H => ?_
  ·
   refine sr ?_
   refine oo [26, 27, 28] [vI p2, vB (decide (p2 < 1)), vB (decide (p2 < 1))] hr fun a hr => ?_
   by_cases c9 : p2 < 1
   ·
    replace H := ifT c9 H
    refine offl (decide_eq_true c9) [29, 30] hr fun a hr => ?_
    refine opv (wn rfl) hr (vB true) (rp_t (b := (decide (p2 < 1))) rfl (by kernel_rfl) (decide_eq_true c9) (by kernel_rfl)) fun a hr => ?_
    refine o1 hr (vB true) fun a hr => ?_
    refine ln ?_
    refine cond_tt hr (b := true) rfl ?_
    refine sr ?_
    refine o1 hr (vI 110) fun a hr => ?_
    refine ln ?_
    refine wp_ret ?_
    refine blk_ret ?_
    refine then_ret ?_
    refine end_ret1 (v := vI 110) rfl hr (by kernel_rfl) ?_
    replace H := ej1 H; subst H
    exact ⟨rfl, h.se 3 []⟩
   ·
    replace H := ifF c9 H
    refine onl (decide_eq_false c9) [29, 30] [vI p2, vB (decide (p2 > 64))] hr fun a hr => ?_
    refine opv (wn rfl) hr (vB (decide (p2 > 64))) (rp_f (b := (decide (p2 < 1))) rfl (by kernel_rfl) (decide_eq_false c9) (by kernel_rfl)) fun a hr => ?_
    refine o1 hr (vB (decide (p2 > 64))) fun a hr => ?_
    refine ln ?_
    refine cD hr H (fun c10 H => ?_) fun c10 H => ?_
    ·
     refine sr ?_
     refine o1 hr (vI 110) fun a hr => ?_
     refine ln ?_
     refine wp_ret ?_
     refine blk_ret ?_
     refine then_ret ?_
     refine end_ret1 (v := vI 110) rfl hr (by kernel_rfl) ?_
     replace H := ej1 H; subst H
     exact ⟨rfl, h.se 3 []⟩
    ·
     refine sr ?_
     refine ldm (wn rfl) hr (ag_T_api_Limits p3) (cs := cl_T_api_Limits p3) ((h.pick 1).held 0 rfl) fun a hr => ?_
     obtain ⟨r11, e12, H⟩ := bd1 H
     have hc := plunderref11_badLimits_ok (H := e12) (h := h)
     refine cl (wn rfl) hr hc ?_; clear hc h
     rintro _ w ⟨rfl, h⟩; refine ⟨_, rfl, fun a hr => ?_⟩
     refine o1 hr (vB r11) fun a hr => ?_
     refine ln ?_
     refine cV hr H (fun c13 H => ?_) fun c13 H => ?_
     ·
      refine sr ?_
      refine o1 hr (vI 111) fun a hr => ?_
      refine ln ?_
      refine wp_ret ?_
      refine blk_ret ?_
      refine then_ret ?_
      refine end_ret1 (v := vI 111) rfl hr (by kernel_rfl) ?_
      replace H := ej1 H; subst H
      exact ⟨rfl, h.se 3 []⟩
     ·
      refine wp_skip ?_
      refine blk_normal ?_
      refine then_normal ?_
      refine sr ?_
      refine o1 hr (vI 0) fun a hr => ?_
      refine ln ?_
      refine wp_ret ?_
      refine end_ret1 (v := vI 0) rfl hr (by kernel_rfl) ?_
      replace H := ej1 H; subst H
      exact ⟨rfl, h.se 3 []⟩
  ·
   refine sr ?_
   refine o1 hr (vI 61) fun a hr => ?_
   refine ln ?_
   refine wp_ret ?_
   refine blk_ret ?_
   refine then_ret ?_
   refine end_ret1 (v := vI 61) rfl hr (by kernel_rfl) ?_
   replace H := ej1 H; subst H
   exact ⟨rfl, h.se 3 []⟩
 ·
  refine sr ?_
  refine o1 hr (vI 60) fun a hr => ?_
  refine ln ?_
  refine wp_ret ?_
  refine blk_ret ?_
  refine then_ret ?_
  refine end_ret1 (v := vI 60) rfl hr (by kernel_rfl) ?_
  replace H := ej1 H; subst H
  exact ⟨rfl, h.se 3 []⟩

def plunderlaw11_twin_l2 (K : Nat) (p0 : T_plunderlaw11_Case) (g12 : Int) : Nat → (List T_api_Instr) → Int → Option ((List T_api_Instr))
  | 0, _, _ => none
  | k2 + 1, l28, g29 => (if g29 < (((at_ p0.P_Funcs g12.toNat).Code.length : Nat) : Int) then if inr_ g29 (at_ p0.P_Funcs g12.toNat).Code.length then if (l28.length + 1) * 40 ≤ 140737488355328 then (plunderlaw11_twin_l2 K p0 g12 k2 (l28 ++ [at_ (at_ p0.P_Funcs g12.toNat).Code g29.toNat]) (wi (g29 + 1))) else none else none else some l28)
def plunderlaw11_twin_l1 (K : Nat) (p0 : T_plunderlaw11_Case) : Nat → (List T_api_Func) → Int → Option ((List T_api_Func))
  | 0, _, _ => none
  | k1 + 1, l11, g12 => (if g12 < ((p0.P_Funcs.length : Nat) : Int) then ob1 (if inr_ g12 p0.P_Funcs.length then ob1 ((plunderlaw11_twin_l2 K p0 g12 K ([] : List T_api_Instr) 0)) (fun l23 => if (l11.length + 1) * 48 ≤ 140737488355328 then some (l11 ++ [{ at_ p0.P_Funcs g12.toNat with Code := l23 }]) else none) else none) (fun l16 => (plunderlaw11_twin_l1 K p0 k1 l16 (wi (g12 + 1)))) else some l11)
def plunderlaw11_twin_l3 (K : Nat) (p0 : T_plunderlaw11_Case) : Nat → (List Int) → Int → Option ((List Int))
  | 0, _, _ => none
  | k3 + 1, l47, g48 => (if g48 < ((p0.Args.length : Nat) : Int) then if inr_ g48 p0.Args.length then if (l47.length + 1) * 8 ≤ 140737488355328 then (plunderlaw11_twin_l3 K p0 k3 (l47 ++ [(at_ p0.Args g48.toNat)]) (wi (g48 + 1))) else none else none else some l47)
def plunderlaw11_twin_l4 (K : Nat) (p0 : T_plunderlaw11_Case) : Nat → (List Int) → Int → Option ((List Int))
  | 0, _, _ => none
  | k4 + 1, l62, g63 => (if g63 < ((p0.S_Picks.length : Nat) : Int) then if inr_ g63 p0.S_Picks.length then if (l62.length + 1) * 8 ≤ 140737488355328 then (plunderlaw11_twin_l4 K p0 k4 (l62 ++ [(at_ p0.S_Picks g63.toNat)]) (wi (g63 + 1))) else none else none else some l62)
def plunderlaw11_twin_l5 (K : Nat) (p0 : T_plunderlaw11_Case) (l6 : List T_api_Func) (l42 : List Int) (l57 : List Int) : Nat → (List Int) → Int → Option (T_plunderlaw11_Case)
  | 0, _, _ => none
  | k5 + 1, l72, g73 => (if g73 < ((p0.S_Draws.length : Nat) : Int) then if inr_ g73 p0.S_Draws.length then if (l72.length + 1) * 8 ≤ 140737488355328 then (plunderlaw11_twin_l5 K p0 l6 l42 l57 k5 (l72 ++ [(at_ p0.S_Draws g73.toNat)]) (wi (g73 + 1))) else none else none else some ({ p0 with P_Funcs := l6, Args := l42, S_Picks := l57, S_Draws := l72 }))
/-- plunder/plunderlaw11.twin -/
def plunderlaw11_twin (K : Nat) (p0 : T_plunderlaw11_Case) : Option (T_plunderlaw11_Case) :=
  ob1 ((plunderlaw11_twin_l1 K p0 K ([] : List T_api_Func) 0)) (fun l6 => ob1 ((plunderlaw11_twin_l3 K p0 K ([] : List Int) 0)) (fun l42 => ob1 ((plunderlaw11_twin_l4 K p0 K ([] : List Int) 0)) (fun l57 => (plunderlaw11_twin_l5 K p0 l6 l42 l57 K ([] : List Int) 0))))

theorem plunderlaw11_twin_ok {z w : World} {L : List HProp} {K : Nat} {p0 r0 : T_plunderlaw11_Case} {va0_P_Funcs va0_Args va0_S_Picks va0_S_Draws : Option Addr} {vc0_P_Funcs vc0_Args vc0_S_Picks vc0_S_Draws : Nat} {hs0_P_Funcs : Nat → Option Addr × Nat} (H : plunderlaw11_twin K p0 = some r0) (h : Fit z (sepL (L)) w) (hv0_P_Funcs : Rd76 L va0_P_Funcs hs0_P_Funcs p0.P_Funcs) (hv0_Args : RdRow L 1 encZ_i64 va0_Args p0.Args) (hv0_S_Picks : RdRow L 1 encZ_i64 va0_S_Picks p0.S_Picks) (hv0_S_Draws : RdRow L 1 encZ_i64 va0_S_Draws p0.S_Draws) :
    Calls Tryd.prog 9 #[.agg #[.slice va0_P_Funcs p0.P_Funcs.length vc0_P_Funcs, .slice va0_Args p0.Args.length vc0_Args, vI p0.Workers, vI p0.Lim_Frames, vI p0.Lim_First, vI p0.Lim_Most, .slice va0_S_Picks p0.S_Picks.length vc0_S_Picks, .slice va0_S_Draws p0.S_Draws.length vc0_S_Draws]] w fun e w => ∃ car0_1 ccr0_2 car0_3 ccr0_4 car0_5 ccr0_6 car0_7 ccr0_8, e = .returned (.agg #[.slice car0_1 r0.P_Funcs.length ccr0_2, .slice car0_3 r0.Args.length ccr0_4, vI r0.Workers, vI r0.Lim_Frames, vI r0.Lim_First, vI r0.Lim_Most, .slice car0_5 r0.S_Picks.length ccr0_6, .slice car0_7 r0.S_Draws.length ccr0_8]) ∧ Fit z (sepL (rn76 car0_1 ccr0_2 r0.P_Funcs :: ro2 car0_3 ccr0_4 r0.Args :: ro3 car0_5 ccr0_6 r0.S_Picks :: ro3 car0_7 ccr0_8 r0.S_Draws :: L)) w := by
 unfold plunderlaw11_twin at H
 refine enter Tryd.func9 rfl 117 rfl rfl [(0, .agg #[.slice va0_P_Funcs p0.P_Funcs.length vc0_P_Funcs, .slice va0_Args p0.Args.length vc0_Args, vI p0.Workers, vI p0.Lim_Frames, vI p0.Lim_First, vI p0.Lim_Most, .slice va0_S_Picks p0.S_Picks.length vc0_S_Picks, .slice va0_S_Draws p0.S_Draws.length vc0_S_Draws])] ⟨rfl, trivial⟩ ?_
 intro j a hr
 refine sr ?_
 refine onew (wn rfl) hr h nb (#[.slice va0_P_Funcs p0.P_Funcs.length vc0_P_Funcs, .slice va0_Args p0.Args.length vc0_Args, vI p0.Workers, vI p0.Lim_Frames, vI p0.Lim_First, vI p0.Lim_Most, .slice va0_S_Picks p0.S_Picks.length vc0_S_Picks, .slice va0_S_Draws p0.S_Draws.length vc0_S_Draws]) 32 fun b1 w a h hr => ?_
 refine onew (wn rfl) hr h nb (#[.slice none 0 0, .slice none 0 0, vI 0, vI 0, vI 0, vI 0, .slice none 0 0, .slice none 0 0]) 32 fun b2 w a h hr => ?_
 refine ln ?_
 refine sr ?_
 refine ldm (wn rfl) hr (.agg #[.slice va0_P_Funcs p0.P_Funcs.length vc0_P_Funcs, .slice va0_Args p0.Args.length vc0_Args, vI p0.Workers, vI p0.Lim_Frames, vI p0.Lim_First, vI p0.Lim_Most, .slice va0_S_Picks p0.S_Picks.length vc0_S_Picks, .slice va0_S_Draws p0.S_Draws.length vc0_S_Draws]) (cs := [.slice va0_P_Funcs p0.P_Funcs.length vc0_P_Funcs, .slice va0_Args p0.Args.length vc0_Args, vI p0.Workers, vI p0.Lim_Frames, vI p0.Lim_First, vI p0.Lim_Most, .slice va0_S_Picks p0.S_Picks.length vc0_S_Picks, .slice va0_S_Draws p0.S_Draws.length vc0_S_Draws]) ((h.pick 1).held 0 rfl) fun a hr => ?_
 refine onew (wn rfl) hr h nb (#[.slice none 0 0, .slice none 0 0, vI 0, vI 0, vI 0, vI 0, .slice none 0 0, .slice none 0 0]) 32 fun b3 w a h hr => ?_
 refine stm (wn rfl) hr h 0 ([.slice va0_P_Funcs p0.P_Funcs.length vc0_P_Funcs, .slice va0_Args p0.Args.length vc0_Args, vI p0.Workers, vI p0.Lim_Frames, vI p0.Lim_First, vI p0.Lim_Most, .slice va0_S_Picks p0.S_Picks.length vc0_S_Picks, .slice va0_S_Draws p0.S_Draws.length vc0_S_Draws]) (ob32 b3 p0 va0_P_Funcs vc0_P_Funcs va0_Args vc0_Args va0_S_Picks vc0_S_Picks va0_S_Draws vc0_S_Draws) fun w h => ?_
 refine ln ?_
 refine sr ?_
 refine oo [12, 13] [.agg #[.slice none 0 0], pA b3 0] hr fun a hr => ?_
 refine stm (wn rfl) hr h 0 ([.slice none 0 0]) (pts b3 (.cells #[.slice none 0 0, .slice va0_Args p0.Args.length vc0_Args, vI p0.Workers, vI p0.Lim_Frames, vI p0.Lim_First, vI p0.Lim_Most, .slice va0_S_Picks p0.S_Picks.length vc0_S_Picks, .slice va0_S_Draws p0.S_Draws.length vc0_S_Draws] 32)) fun w h => ?_
 refine ln ?_
 obtain ⟨o8, H, hK7⟩ := kd1 H
 refine cut_rule (β := Unit) (fun _ a w => ∃ ca4 : Option Addr, ∃ cc5 : Nat, ∃ l6 : List T_api_Func, l6 = o8 ∧ ∃ j, Rep 117 (lk [(1, pA b1 0), (2, pA b2 0), (3, pA b3 0)] j) a ∧ Fit z (sepL (ob32 b1 p0 va0_P_Funcs vc0_P_Funcs va0_Args vc0_Args va0_S_Picks vc0_S_Picks va0_S_Draws vc0_S_Draws :: pts b2 (.cells #[.slice none 0 0, .slice none 0 0, vI 0, vI 0, vI 0, vI 0, .slice none 0 0, .slice none 0 0] 32) :: pts b3 (.cells #[.slice ca4 l6.length cc5, .slice va0_Args p0.Args.length vc0_Args, vI p0.Workers, vI p0.Lim_Frames, vI p0.Lim_First, vI p0.Lim_Most, .slice va0_S_Picks p0.S_Picks.length vc0_S_Picks, .slice va0_S_Draws p0.S_Draws.length vc0_S_Draws] 32) :: rn76 ca4 cc5 l6 :: L)) w) ?_ ?_
 ·
  refine sr ?_
  refine o1 hr (vI 0) fun a hr => ?_
  refine ln ?_
  refine wp_block ?_
  replace h := h.rowN_nil (e := 76) (sz := 4) (own := own_T_api_Func)
  refine loop_rule (β := Nat) id (fun m a w => ∃ ca9 : Option Addr, ∃ cc10 : Nat, ∃ l11 : List T_api_Func, ∃ g12 : Int, (plunderlaw11_twin_l1 K p0 m l11 g12) = some o8 ∧ ∃ j, Rep 117 (lk [(1, pA b1 0), (2, pA b2 0), (3, pA b3 0), (4, vI g12)] j) a ∧ Fit z (sepL (ob32 b1 p0 va0_P_Funcs vc0_P_Funcs va0_Args vc0_Args va0_S_Picks vc0_S_Picks va0_S_Draws vc0_S_Draws :: pts b2 (.cells #[.slice none 0 0, .slice none 0 0, vI 0, vI 0, vI 0, vI 0, .slice none 0 0, .slice none 0 0] 32) :: pts b3 (.cells #[.slice ca9 l11.length cc10, .slice va0_Args p0.Args.length vc0_Args, vI p0.Workers, vI p0.Lim_Frames, vI p0.Lim_First, vI p0.Lim_Most, .slice va0_S_Picks p0.S_Picks.length vc0_S_Picks, .slice va0_S_Draws p0.S_Draws.length vc0_S_Draws] 32) :: rn76 ca9 cc10 l11 :: L)) w) K ⟨none, 0, ([] : List T_api_Func), 0, H, hr.fj (h.se 4 [3, 2, 1, 0])⟩ ?_
  clear h hr a H; rintro k1 a w ⟨ca9, cc10, l11, g12, H, j, hr, h⟩
  cases k1 with
  | zero => exact absurd H (by simp [plunderlaw11_twin_l1])
  | succ k1 =>
   rw [plunderlaw11_twin_l1] at H
   refine wp_seq ?_
   refine sr ?_
   refine oo [14, 15, 16] [vI g12, pA b1 0, pA b1 0] hr fun a hr => ?_
   refine ld (wn rfl) hr (.slice va0_P_Funcs p0.P_Funcs.length vc0_P_Funcs) (h.cell 0 rfl) fun a hr => ?_
   refine oo [18, 19] [vI ((p0.P_Funcs.length : Nat) : Int), vB (decide (g12 < ((p0.P_Funcs.length : Nat) : Int)))] hr fun a hr => ?_
   refine ln ?_
   refine cD hr H (fun c13 H => ?_) fun c13 H => ?_
   ·
    refine wp_skip ?_
    refine then_normal ?_
    obtain ⟨o18, H, hK17⟩ := kd1 H
    refine cut_rule (β := Unit) (fun _ a w => ∃ ca14 : Option Addr, ∃ cc15 : Nat, ∃ l16 : List T_api_Func, l16 = o18 ∧ ∃ j, Rep 117 (lk [(1, pA b1 0), (2, pA b2 0), (3, pA b3 0), (4, vI g12)] j) a ∧ Fit z (sepL (ob32 b1 p0 va0_P_Funcs vc0_P_Funcs va0_Args vc0_Args va0_S_Picks vc0_S_Picks va0_S_Draws vc0_S_Draws :: pts b2 (.cells #[.slice none 0 0, .slice none 0 0, vI 0, vI 0, vI 0, vI 0, .slice none 0 0, .slice none 0 0] 32) :: pts b3 (.cells #[.slice ca14 l16.length cc15, .slice va0_Args p0.Args.length vc0_Args, vI p0.Workers, vI p0.Lim_Frames, vI p0.Lim_First, vI p0.Lim_Most, .slice va0_S_Picks p0.S_Picks.length vc0_S_Picks, .slice va0_S_Draws p0.S_Draws.length vc0_S_Draws] 32) :: rn76 ca14 cc15 l16 :: L)) w) ?_ ?_
    ·
     refine wp_block ?_
     refine sr ?_
     refine oo [22, 23] [pA b1 0, pA b1 0] hr fun a hr => ?_
     refine ld (wn rfl) hr (.slice va0_P_Funcs p0.P_Funcs.length vc0_P_Funcs) (h.cell 0 rfl) fun a hr => ?_
     obtain ⟨c19, H⟩ := gd H
     refine o1 hr (vI g12) fun a hr => ?_
     refine opv (wn rfl) hr (pA (blk va0_P_Funcs) (offs va0_P_Funcs + g12.toNat * 4)) (ri_rn (k := .i64) (E := 76) (cc := vc0_P_Funcs) rfl (by kernel_rfl) (by kernel_rfl) rfl (by kernel_rfl) (by kernel_rfl) hv0_P_Funcs c19) fun a hr => ?_
     refine ldm (wn rfl) hr (.agg #[vI (at_ p0.P_Funcs g12.toNat).Params, vI (at_ p0.P_Funcs g12.toNat).Regs, vI (at_ p0.P_Funcs g12.toNat).Slots, .slice ((hs0_P_Funcs g12.toNat).1) (at_ p0.P_Funcs g12.toNat).Code.length ((hs0_P_Funcs g12.toNat).2)]) (cs := [vI (at_ p0.P_Funcs g12.toNat).Params, vI (at_ p0.P_Funcs g12.toNat).Regs, vI (at_ p0.P_Funcs g12.toNat).Slots, .slice ((hs0_P_Funcs g12.toNat).1) (at_ p0.P_Funcs g12.toNat).Code.length ((hs0_P_Funcs g12.toNat).2)]) ⟨hv0_P_Funcs.cell c19 (h.dn 4) 0 rfl, hv0_P_Funcs.cell c19 (h.dn 4) 1 rfl, hv0_P_Funcs.cell c19 (h.dn 4) 2 rfl, hv0_P_Funcs.cell c19 (h.dn 4) 3 rfl, trivial⟩ fun a hr => ?_
     refine onew (wn rfl) hr h nb (#[vI 0, vI 0, vI 0, .slice none 0 0]) 76 fun b20 w a h hr => ?_
     refine stm (wn rfl) hr h 0 ([vI (at_ p0.P_Funcs g12.toNat).Params, vI (at_ p0.P_Funcs g12.toNat).Regs, vI (at_ p0.P_Funcs g12.toNat).Slots, .slice ((hs0_P_Funcs g12.toNat).1) (at_ p0.P_Funcs g12.toNat).Code.length ((hs0_P_Funcs g12.toNat).2)]) (ob76 b20 (at_ p0.P_Funcs g12.toNat) ((hs0_P_Funcs g12.toNat).1) ((hs0_P_Funcs g12.toNat).2)) fun w h => ?_
     refine ln ?_
     refine sr ?_
     refine o1 hr (pA b20 3) fun a hr => ?_
     refine ld (wn rfl) hr (.slice ((hs0_P_Funcs g12.toNat).1) (at_ p0.P_Funcs g12.toNat).Code.length ((hs0_P_Funcs g12.toNat).2)) (h.cell 3 rfl) fun a hr => ?_
     refine o1 hr (.slice ((hs0_P_Funcs g12.toNat).1) (at_ p0.P_Funcs g12.toNat).Code.length ((hs0_P_Funcs g12.toNat).2)) fun a hr => ?_
     refine ln ?_
     refine sr ?_
     refine o1 hr (pA b20 3) fun a hr => ?_
     refine st1 (wn rfl) hr h 3 (.slice none 0 0) (pts b20 (.cells #[vI (at_ p0.P_Funcs g12.toNat).Params, vI (at_ p0.P_Funcs g12.toNat).Regs, vI (at_ p0.P_Funcs g12.toNat).Slots, .slice none 0 0] 76)) fun w h => ?_
     refine ln ?_
     obtain ⟨o25, H, hK24⟩ := kd1 H
     refine cut_rule (β := Unit) (fun _ a w => ∃ ca21 : Option Addr, ∃ cc22 : Nat, ∃ l23 : List T_api_Instr, l23 = o25 ∧ ∃ j, Rep 117 (lk [(1, pA b1 0), (2, pA b2 0), (3, pA b3 0), (4, vI g12), (5, pA b20 0)] j) a ∧ Fit z (sepL (ob32 b1 p0 va0_P_Funcs vc0_P_Funcs va0_Args vc0_Args va0_S_Picks vc0_S_Picks va0_S_Draws vc0_S_Draws :: pts b2 (.cells #[.slice none 0 0, .slice none 0 0, vI 0, vI 0, vI 0, vI 0, .slice none 0 0, .slice none 0 0] 32) :: pts b3 (.cells #[.slice ca9 l11.length cc10, .slice va0_Args p0.Args.length vc0_Args, vI p0.Workers, vI p0.Lim_Frames, vI p0.Lim_First, vI p0.Lim_Most, .slice va0_S_Picks p0.S_Picks.length vc0_S_Picks, .slice va0_S_Draws p0.S_Draws.length vc0_S_Draws] 32) :: rn76 ca9 cc10 l11 :: pts b20 (.cells #[vI (at_ p0.P_Funcs g12.toNat).Params, vI (at_ p0.P_Funcs g12.toNat).Regs, vI (at_ p0.P_Funcs g12.toNat).Slots, .slice ca21 l23.length cc22] 76) :: ro108 ca21 cc22 l23 :: L)) w) ?_ ?_
     ·
      refine sr ?_
      refine o1 hr (vI 0) fun a hr => ?_
      refine ln ?_
      refine wp_block ?_
      replace h := h.row_nil (e := 108) (sz := 5) (enc := enc_T_api_Instr)
      refine loop_rule (β := Nat) id (fun m a w => ∃ ca26 : Option Addr, ∃ cc27 : Nat, ∃ l28 : List T_api_Instr, ∃ g29 : Int, (plunderlaw11_twin_l2 K p0 g12 m l28 g29) = some o25 ∧ ∃ j, Rep 117 (lk [(1, pA b1 0), (2, pA b2 0), (3, pA b3 0), (4, vI g12), (5, pA b20 0), (6, .slice ((hs0_P_Funcs g12.toNat).1) (at_ p0.P_Funcs g12.toNat).Code.length ((hs0_P_Funcs g12.toNat).2)), (7, vI g29)] j) a ∧ Fit z (sepL (ob32 b1 p0 va0_P_Funcs vc0_P_Funcs va0_Args vc0_Args va0_S_Picks vc0_S_Picks va0_S_Draws vc0_S_Draws :: pts b2 (.cells #[.slice none 0 0, .slice none 0 0, vI 0, vI 0, vI 0, vI 0, .slice none 0 0, .slice none 0 0] 32) :: pts b3 (.cells #[.slice ca9 l11.length cc10, .slice va0_Args p0.Args.length vc0_Args, vI p0.Workers, vI p0.Lim_Frames, vI p0.Lim_First, vI p0.Lim_Most, .slice va0_S_Picks p0.S_Picks.length vc0_S_Picks, .slice va0_S_Draws p0.S_Draws.length vc0_S_Draws] 32) :: rn76 ca9 cc10 l11 :: pts b20 (.cells #[vI (at_ p0.P_Funcs g12.toNat).Params, vI (at_ p0.P_Funcs g12.toNat).Regs, vI (at_ p0.P_Funcs g12.toNat).Slots, .slice ca26 l28.length cc27] 76) :: ro108 ca26 cc27 l28 :: L)) w) K ⟨none, 0, ([] : List T_api_Instr), 0, H, hr.fj (h.se 6 [2, 3, 4, 5, 1, 0])⟩ ?_
      clear h hr a H; rintro k2 a w ⟨ca26, cc27, l28, g29, H, j, hr, h⟩
      cases k2 with
      | zero => exact absurd H (by simp [plunderlaw11_twin_l2])
      | succ k2 =>
       rw [plunderlaw11_twin_l2] at H
       refine wp_seq ?_
       refine sr ?_
       refine oo [31, 32, 33, 34] [vI g29, .slice ((hs0_P_Funcs g12.toNat).1) (at_ p0.P_Funcs g12.toNat).Code.length ((hs0_P_Funcs g12.toNat).2), vI (((at_ p0.P_Funcs g12.toNat).Code.length : Nat) : Int), vB (decide (g29 < (((at_ p0.P_Funcs g12.toNat).Code.length : Nat) : Int)))] hr fun a hr => ?_
       refine ln ?_
       refine cD hr H (fun c30 H => ?_) fun c30 H => ?_
       ·
        refine wp_skip ?_
        refine then_normal ?_
        refine wp_seq ?_
        refine wp_block ?_
        obtain ⟨c31, H⟩ := gd H
        obtain ⟨c35, H⟩ := gd H
        refine regL [(b20, 3, [.slice ca26 l28.length cc27]), (blk ((hs0_P_Funcs g12.toNat).1), offs ((hs0_P_Funcs g12.toNat).1) + g29.toNat * 5, cl_T_api_Instr (at_ (at_ p0.P_Funcs g12.toNat).Code g29.toNat))] [0, 4] 10 h (fun h => ⟨⟨(h.pick 4).cell 3 rfl, trivial⟩, ⟨(hv0_P_Funcs.inn c19).cell c31 (h.dn 6) 0 rfl, (hv0_P_Funcs.inn c19).cell c31 (h.dn 6) 1 rfl, (hv0_P_Funcs.inn c19).cell c31 (h.dn 6) 2 rfl, (hv0_P_Funcs.inn c19).cell c31 (h.dn 6) 3 rfl, (hv0_P_Funcs.inn c19).cell c31 (h.dn 6) 4 rfl, trivial⟩, trivial⟩) fun w h hd => ?_
        refine evs' hd 7 [(0, 37, pA b20 3), (2, 39, .slice ((hs0_P_Funcs g12.toNat).1) (at_ p0.P_Funcs g12.toNat).Code.length ((hs0_P_Funcs g12.toNat).2)), (3, 40, vI g29)] hr fun a hr => ?_
        refine eon hd 6 4 rfl (wn rfl) hr (pA (blk ((hs0_P_Funcs g12.toNat).1)) (offs ((hs0_P_Funcs g12.toNat).1) + g29.toNat * 5)) (hrun := fun w => ri_rd (k := .i64) (E := 108) (cc := ((hs0_P_Funcs g12.toNat).2)) rfl (by kernel_rfl) (by kernel_rfl) rfl (by kernel_rfl) (by kernel_rfl) (hv0_P_Funcs.inn c19) c31) fun a hr => ?_
        refine elx hd 0 5 1 hr (wn rfl) rfl rfl fun a hr => ?_
        refine elm hd 1 4 5 hr (wn rfl) rfl rfl fun a hr => ?_
        refine eo1 6 rfl ?_
        refine onew (wn rfl) hr h (fun b => .slice (some ⟨b, 0, none⟩) 1 1) (ca_T_api_Instr (at_ (at_ p0.P_Funcs g12.toNat).Code g29.toNat)) 108 fun b32 w a h hr => ?_
        refine ln ?_
        refine xE ?_
        refine eo1 7 rfl ?_
        replace h := h.m6
        refine op_append (n0 := l28.length) (c := 1) (bytes := 40) (wn rfl) rfl rfl hr rfl (by kernel_rfl) (by kernel_rfl) enc_T_api_Instr_ok (E := 108) (xs := l28) (by kernel_rfl) (by kernel_rfl) h (news := [at_ (at_ p0.P_Funcs g12.toNat).Code g29.toNat]) (m := 1) rfl ((h.pick 1).news rfl) c35 rfl fun ca33 cc34 w a h hr => ?_
        refine ln ?_
        refine xE ?_
        refine evs 1 8 rfl (wn rfl) hr (pA b20 3) fun a hr => ?_
        refine eo1 9 rfl ?_
        replace h := h.m6
        refine st1 (wn rfl) hr h 3 (.slice ca33 (l28 ++ [at_ (at_ p0.P_Funcs g12.toNat).Code g29.toNat]).length cc34) (pts b20 (.cells #[vI (at_ p0.P_Funcs g12.toNat).Params, vI (at_ p0.P_Funcs g12.toNat).Regs, vI (at_ p0.P_Funcs g12.toNat).Slots, .slice ca33 (l28 ++ [at_ (at_ p0.P_Funcs g12.toNat).Code g29.toNat]).length cc34] 76)) fun w h => ?_
        refine ln ?_
        refine xE ?_
        refine een ?_
        refine blk_normal ?_
        refine then_normal ?_
        refine wp_region_lit ?_
        refine oo [35, 36, 7] [vI g29, vI (wi (g29 + 1)), vI (wi (g29 + 1))] hr fun a hr => ?_
        refine ln ?_
        exact ⟨_, ⟨ca33, cc34, (l28 ++ [at_ (at_ p0.P_Funcs g12.toNat).Code g29.toNat]), (wi (g29 + 1)), H, hr.fj (h.se 7 [3, 4, 5, 6, 0, 1])⟩, Nat.lt_succ_self _⟩
       ·
        refine wp_exit ?_
        refine then_exit ?_
        refine then_exit ?_
        refine blk_here ?_
        refine then_normal ?_
        exact ⟨(), ca26, cc27, l28, sinj H, hr.fj h⟩
     clear h hr a; rintro _ a w ⟨ca21, cc22, l23, rfl, j, hr, h⟩
     replace H := kk1 hK24
     refine wp_region_lit ?_
     refine oo [46, 47] [pA b3 0, pA b3 0] hr fun a hr => ?_
     refine ld (wn rfl) hr (.slice ca9 l11.length cc10) ((h.pick 2).cell 0 rfl) fun a hr => ?_
     refine ldm (wn rfl) hr (.agg #[vI (at_ p0.P_Funcs g12.toNat).Params, vI (at_ p0.P_Funcs g12.toNat).Regs, vI (at_ p0.P_Funcs g12.toNat).Slots, .slice ca21 l23.length cc22]) (cs := [vI (at_ p0.P_Funcs g12.toNat).Params, vI (at_ p0.P_Funcs g12.toNat).Regs, vI (at_ p0.P_Funcs g12.toNat).Slots, .slice ca21 l23.length cc22]) ((h.pick 4).held 0 rfl) fun a hr => ?_
     refine onew (wn rfl) hr h (fun b => .slice (some ⟨b, 0, none⟩) 1 1) (#[vI (at_ p0.P_Funcs g12.toNat).Params, vI (at_ p0.P_Funcs g12.toNat).Regs, vI (at_ p0.P_Funcs g12.toNat).Slots, .slice ca21 l23.length cc22]) 76 fun b36 w a h hr => ?_
     replace h := h.m6
     replace h := own_T_api_Func_sh (x := ({ at_ p0.P_Funcs g12.toNat with Code := l23 })) h
     obtain ⟨c37, H⟩ := gd H
     replace h := h.m5
     refine op_append_N (n0 := l11.length) (c := 1) (bytes := 48) (sz := 4) (wn rfl) rfl rfl hr rfl (by kernel_rfl) (by kernel_rfl) (E := 76) (xs := l11) (by kernel_rfl) (by kernel_rfl) rfl rfl rfl h ((h.pick 2).news rfl) c37 rfl fun ca38 cc39 w a h hr => ?_
     refine oo [52, 53] [pA b3 0, pA b3 0] hr fun a hr => ?_
     replace h := h.m4
     refine st1 (wn rfl) hr h 0 (.slice ca38 (l11 ++ [{ at_ p0.P_Funcs g12.toNat with Code := l23 }]).length cc39) (pts b3 (.cells #[.slice ca38 (l11 ++ [{ at_ p0.P_Funcs g12.toNat with Code := l23 }]).length cc39, .slice va0_Args p0.Args.length vc0_Args, vI p0.Workers, vI p0.Lim_Frames, vI p0.Lim_First, vI p0.Lim_Most, .slice va0_S_Picks p0.S_Picks.length vc0_S_Picks, .slice va0_S_Draws p0.S_Draws.length vc0_S_Draws] 32)) fun w h => ?_
     refine wpList_nil ?_
     refine blk_normal ?_
     refine then_normal ?_
     exact ⟨(), ca38, cc39, (l11 ++ [{ at_ p0.P_Funcs g12.toNat with Code := l23 }]), sinj H, hr.fj (h.se 6 [3, 4, 0, 1])⟩
    clear h hr a; rintro _ a w ⟨ca14, cc15, l16, rfl, j, hr, h⟩
    replace H := kk1 hK17
    refine wp_region_lit ?_
    refine oo [20, 21, 4] [vI g12, vI (wi (g12 + 1)), vI (wi (g12 + 1))] hr fun a hr => ?_
    refine ln ?_
    exact ⟨_, ⟨ca14, cc15, l16, (wi (g12 + 1)), H, hr.fj h⟩, Nat.lt_succ_self _⟩
   ·
    refine wp_exit ?_
    refine then_exit ?_
    refine then_exit ?_
    refine blk_here ?_
    refine then_normal ?_
    exact ⟨(), ca9, cc10, l11, sinj H, hr.fj h⟩
 clear h hr a; rintro _ a w ⟨ca4, cc5, l6, rfl, j, hr, h⟩
 replace H := kk1 hK7
 refine sr ?_
 refine o1 hr (pA b3 1) fun a hr => ?_
 replace h := h.m2
 refine st1 (wn rfl) hr h 1 (.slice none 0 0) (pts b3 (.cells #[.slice ca4 l6.length cc5, .slice none 0 0, vI p0.Workers, vI p0.Lim_Frames, vI p0.Lim_First, vI p0.Lim_Most, .slice va0_S_Picks p0.S_Picks.length vc0_S_Picks, .slice va0_S_Draws p0.S_Draws.length vc0_S_Draws] 32)) fun w h => ?_
 refine ln ?_
 obtain ⟨o44, H, hK43⟩ := kd1 H
 refine cut_rule (β := Unit) (fun _ a w => ∃ ca40 : Option Addr, ∃ cc41 : Nat, ∃ l42 : List Int, l42 = o44 ∧ ∃ j, Rep 117 (lk [(1, pA b1 0), (2, pA b2 0), (3, pA b3 0)] j) a ∧ Fit z (sepL (ob32 b1 p0 va0_P_Funcs vc0_P_Funcs va0_Args vc0_Args va0_S_Picks vc0_S_Picks va0_S_Draws vc0_S_Draws :: pts b2 (.cells #[.slice none 0 0, .slice none 0 0, vI 0, vI 0, vI 0, vI 0, .slice none 0 0, .slice none 0 0] 32) :: pts b3 (.cells #[.slice ca4 l6.length cc5, .slice ca40 l42.length cc41, vI p0.Workers, vI p0.Lim_Frames, vI p0.Lim_First, vI p0.Lim_Most, .slice va0_S_Picks p0.S_Picks.length vc0_S_Picks, .slice va0_S_Draws p0.S_Draws.length vc0_S_Draws] 32) :: rn76 ca4 cc5 l6 :: ro2 ca40 cc41 l42 :: L)) w) ?_ ?_
 ·
  refine sr ?_
  refine o1 hr (vI 0) fun a hr => ?_
  refine ln ?_
  refine wp_block ?_
  replace h := h.row_nil (e := 2) (sz := 1) (enc := encZ_i64)
  refine loop_rule (β := Nat) id (fun m a w => ∃ ca45 : Option Addr, ∃ cc46 : Nat, ∃ l47 : List Int, ∃ g48 : Int, (plunderlaw11_twin_l3 K p0 m l47 g48) = some o44 ∧ ∃ j, Rep 117 (lk [(1, pA b1 0), (2, pA b2 0), (3, pA b3 0), (8, vI g48)] j) a ∧ Fit z (sepL (ob32 b1 p0 va0_P_Funcs vc0_P_Funcs va0_Args vc0_Args va0_S_Picks vc0_S_Picks va0_S_Draws vc0_S_Draws :: pts b2 (.cells #[.slice none 0 0, .slice none 0 0, vI 0, vI 0, vI 0, vI 0, .slice none 0 0, .slice none 0 0] 32) :: pts b3 (.cells #[.slice ca4 l6.length cc5, .slice ca45 l47.length cc46, vI p0.Workers, vI p0.Lim_Frames, vI p0.Lim_First, vI p0.Lim_Most, .slice va0_S_Picks p0.S_Picks.length vc0_S_Picks, .slice va0_S_Draws p0.S_Draws.length vc0_S_Draws] 32) :: rn76 ca4 cc5 l6 :: ro2 ca45 cc46 l47 :: L)) w) K ⟨none, 0, ([] : List Int), 0, H, hr.fj (h.se 5 [2, 3, 1, 4, 0])⟩ ?_
  clear h hr a H; rintro k3 a w ⟨ca45, cc46, l47, g48, H, j, hr, h⟩
  cases k3 with
  | zero => exact absurd H (by simp [plunderlaw11_twin_l3])
  | succ k3 =>
   rw [plunderlaw11_twin_l3] at H
   refine wp_seq ?_
   refine sr ?_
   refine oo [55, 56] [vI g48, pA b1 1] hr fun a hr => ?_
   refine ld (wn rfl) hr (.slice va0_Args p0.Args.length vc0_Args) (h.cell 1 rfl) fun a hr => ?_
   refine oo [58, 59] [vI ((p0.Args.length : Nat) : Int), vB (decide (g48 < ((p0.Args.length : Nat) : Int)))] hr fun a hr => ?_
   refine ln ?_
   refine cD hr H (fun c49 H => ?_) fun c49 H => ?_
   ·
    refine wp_skip ?_
    refine then_normal ?_
    refine wp_seq ?_
    refine wp_block ?_
    obtain ⟨c50, H⟩ := gd H
    obtain ⟨c54, H⟩ := gd H
    refine regL [(b3, 1, [.slice ca45 l47.length cc46]), (b1, 1, [.slice va0_Args p0.Args.length vc0_Args]), (blk va0_Args, offs va0_Args + g48.toNat * 1, [vI (at_ p0.Args g48.toNat)])] [0, 2, 5] 11 h (fun h => ⟨⟨(h.pick 2).cell 1 rfl, trivial⟩, ⟨h.cell 1 rfl, trivial⟩, ⟨hv0_Args.cell c50 (h.dn 5) 0 rfl, trivial⟩, trivial⟩) fun w h hd => ?_
    refine evs' hd 8 [(0, 62, pA b3 1), (2, 64, pA b1 1), (4, 66, vI g48)] hr fun a hr => ?_
    refine elx hd 0 7 1 hr (wn rfl) rfl rfl fun a hr => ?_
    refine elx hd 1 6 3 hr (wn rfl) rfl rfl fun a hr => ?_
    refine eon hd 5 5 rfl (wn rfl) hr (pA (blk va0_Args) (offs va0_Args + g48.toNat * 1)) (hrun := fun w => ri_rd (k := .i64) (E := 2) (cc := vc0_Args) rfl (by kernel_rfl) (by kernel_rfl) rfl (by kernel_rfl) (by kernel_rfl) hv0_Args c50) fun a hr => ?_
    refine elx hd 2 4 6 hr (wn rfl) rfl rfl fun a hr => ?_
    refine eo1 7 rfl ?_
    refine onew (wn rfl) hr h (fun b => .slice (some ⟨b, 0, none⟩) 1 1) (#[vI (at_ p0.Args g48.toNat)]) 2 fun b51 w a h hr => ?_
    refine ln ?_
    refine xE ?_
    refine eo1 8 rfl ?_
    replace h := h.m5
    refine op_append (n0 := l47.length) (c := 1) (bytes := 8) (wn rfl) rfl rfl hr rfl (by kernel_rfl) (by kernel_rfl) encZ_i64_ok (E := 2) (xs := l47) (by kernel_rfl) (by kernel_rfl) h (news := [(at_ p0.Args g48.toNat)]) (m := 1) rfl ((h.pick 1).news rfl) c54 rfl fun ca52 cc53 w a h hr => ?_
    refine ln ?_
    refine xE ?_
    refine evs 1 9 rfl (wn rfl) hr (pA b3 1) fun a hr => ?_
    refine eo1 10 rfl ?_
    replace h := h.m4
    refine st1 (wn rfl) hr h 1 (.slice ca52 (l47 ++ [(at_ p0.Args g48.toNat)]).length cc53) (pts b3 (.cells #[.slice ca4 l6.length cc5, .slice ca52 (l47 ++ [(at_ p0.Args g48.toNat)]).length cc53, vI p0.Workers, vI p0.Lim_Frames, vI p0.Lim_First, vI p0.Lim_Most, .slice va0_S_Picks p0.S_Picks.length vc0_S_Picks, .slice va0_S_Draws p0.S_Draws.length vc0_S_Draws] 32)) fun w h => ?_
    refine ln ?_
    refine xE ?_
    refine een ?_
    refine blk_normal ?_
    refine then_normal ?_
    refine wp_region_lit ?_
    refine oo [60, 61, 8] [vI g48, vI (wi (g48 + 1)), vI (wi (g48 + 1))] hr fun a hr => ?_
    refine ln ?_
    exact ⟨_, ⟨ca52, cc53, (l47 ++ [(at_ p0.Args g48.toNat)]), (wi (g48 + 1)), H, hr.fj (h.se 6 [3, 4, 0, 5, 1])⟩, Nat.lt_succ_self _⟩
   ·
    refine wp_exit ?_
    refine then_exit ?_
    refine then_exit ?_
    refine blk_here ?_
    refine then_normal ?_
    exact ⟨(), ca45, cc46, l47, sinj H, hr.fj h⟩
 clear h hr a; rintro _ a w ⟨ca40, cc41, l42, rfl, j, hr, h⟩
 replace H := kk1 hK43
 refine sr ?_
 refine oo [72, 73] [.agg #[.slice none 0 0, .slice none 0 0], pA b3 6] hr fun a hr => ?_
 replace h := h.m2
 refine stm (wn rfl) hr h 6 ([.slice none 0 0, .slice none 0 0]) (pts b3 (.cells #[.slice ca4 l6.length cc5, .slice ca40 l42.length cc41, vI p0.Workers, vI p0.Lim_Frames, vI p0.Lim_First, vI p0.Lim_Most, .slice none 0 0, .slice none 0 0] 32)) fun w h => ?_
 refine ln ?_
 obtain ⟨o59, H, hK58⟩ := kd1 H
 refine cut_rule (β := Unit) (fun _ a w => ∃ ca55 : Option Addr, ∃ cc56 : Nat, ∃ l57 : List Int, l57 = o59 ∧ ∃ j, Rep 117 (lk [(1, pA b1 0), (2, pA b2 0), (3, pA b3 0)] j) a ∧ Fit z (sepL (ob32 b1 p0 va0_P_Funcs vc0_P_Funcs va0_Args vc0_Args va0_S_Picks vc0_S_Picks va0_S_Draws vc0_S_Draws :: pts b2 (.cells #[.slice none 0 0, .slice none 0 0, vI 0, vI 0, vI 0, vI 0, .slice none 0 0, .slice none 0 0] 32) :: pts b3 (.cells #[.slice ca4 l6.length cc5, .slice ca40 l42.length cc41, vI p0.Workers, vI p0.Lim_Frames, vI p0.Lim_First, vI p0.Lim_Most, .slice ca55 l57.length cc56, .slice none 0 0] 32) :: rn76 ca4 cc5 l6 :: ro2 ca40 cc41 l42 :: ro3 ca55 cc56 l57 :: L)) w) ?_ ?_
 ·
  refine sr ?_
  refine o1 hr (vI 0) fun a hr => ?_
  refine ln ?_
  refine wp_block ?_
  replace h := h.row_nil (e := 3) (sz := 1) (enc := encZ_i64)
  refine loop_rule (β := Nat) id (fun m a w => ∃ ca60 : Option Addr, ∃ cc61 : Nat, ∃ l62 : List Int, ∃ g63 : Int, (plunderlaw11_twin_l4 K p0 m l62 g63) = some o59 ∧ ∃ j, Rep 117 (lk [(1, pA b1 0), (2, pA b2 0), (3, pA b3 0), (9, vI g63)] j) a ∧ Fit z (sepL (ob32 b1 p0 va0_P_Funcs vc0_P_Funcs va0_Args vc0_Args va0_S_Picks vc0_S_Picks va0_S_Draws vc0_S_Draws :: pts b2 (.cells #[.slice none 0 0, .slice none 0 0, vI 0, vI 0, vI 0, vI 0, .slice none 0 0, .slice none 0 0] 32) :: pts b3 (.cells #[.slice ca4 l6.length cc5, .slice ca40 l42.length cc41, vI p0.Workers, vI p0.Lim_Frames, vI p0.Lim_First, vI p0.Lim_Most, .slice ca60 l62.length cc61, .slice none 0 0] 32) :: rn76 ca4 cc5 l6 :: ro2 ca40 cc41 l42 :: ro3 ca60 cc61 l62 :: L)) w) K ⟨none, 0, ([] : List Int), 0, H, hr.fj (h.se 6 [2, 3, 1, 4, 5, 0])⟩ ?_
  clear h hr a H; rintro k4 a w ⟨ca60, cc61, l62, g63, H, j, hr, h⟩
  cases k4 with
  | zero => exact absurd H (by simp [plunderlaw11_twin_l4])
  | succ k4 =>
   rw [plunderlaw11_twin_l4] at H
   refine wp_seq ?_
   refine sr ?_
   refine oo [74, 75, 76] [vI g63, pA b1 6, pA b1 6] hr fun a hr => ?_
   refine ld (wn rfl) hr (.slice va0_S_Picks p0.S_Picks.length vc0_S_Picks) (h.cell 6 rfl) fun a hr => ?_
   refine oo [78, 79] [vI ((p0.S_Picks.length : Nat) : Int), vB (decide (g63 < ((p0.S_Picks.length : Nat) : Int)))] hr fun a hr => ?_
   refine ln ?_
   refine cD hr H (fun c64 H => ?_) fun c64 H => ?_
   ·
    refine wp_skip ?_
    refine then_normal ?_
    refine wp_seq ?_
    refine wp_block ?_
    obtain ⟨c65, H⟩ := gd H
    obtain ⟨c69, H⟩ := gd H
    refine regL [(b3, 6, [.slice ca60 l62.length cc61]), (b1, 6, [.slice va0_S_Picks p0.S_Picks.length vc0_S_Picks]), (blk va0_S_Picks, offs va0_S_Picks + g63.toNat * 1, [vI (at_ p0.S_Picks g63.toNat)])] [0, 1, 3, 4, 7] 14 h (fun h => ⟨⟨(h.pick 2).cell 6 rfl, trivial⟩, ⟨h.cell 6 rfl, trivial⟩, ⟨hv0_S_Picks.cell c65 (h.dn 6) 0 rfl, trivial⟩, trivial⟩) fun w h hd => ?_
    refine evs' hd 9 [(0, 82, pA b3 6), (1, 83, pA b3 6), (3, 85, pA b1 6), (4, 86, pA b1 6), (6, 88, vI g63)] hr fun a hr => ?_
    refine elx hd 0 8 2 hr (wn rfl) rfl rfl fun a hr => ?_
    refine elx hd 1 7 5 hr (wn rfl) rfl rfl fun a hr => ?_
    refine eon hd 6 7 rfl (wn rfl) hr (pA (blk va0_S_Picks) (offs va0_S_Picks + g63.toNat * 1)) (hrun := fun w => ri_rd (k := .i64) (E := 3) (cc := vc0_S_Picks) rfl (by kernel_rfl) (by kernel_rfl) rfl (by kernel_rfl) (by kernel_rfl) hv0_S_Picks c65) fun a hr => ?_
    refine elx hd 2 5 8 hr (wn rfl) rfl rfl fun a hr => ?_
    refine eo1 9 rfl ?_
    refine onew (wn rfl) hr h (fun b => .slice (some ⟨b, 0, none⟩) 1 1) (#[vI (at_ p0.S_Picks g63.toNat)]) 3 fun b66 w a h hr => ?_
    refine ln ?_
    refine xE ?_
    refine eo1 10 rfl ?_
    replace h := h.m6
    refine op_append (n0 := l62.length) (c := 1) (bytes := 8) (wn rfl) rfl rfl hr rfl (by kernel_rfl) (by kernel_rfl) encZ_i64_ok (E := 3) (xs := l62) (by kernel_rfl) (by kernel_rfl) h (news := [(at_ p0.S_Picks g63.toNat)]) (m := 1) rfl ((h.pick 1).news rfl) c69 rfl fun ca67 cc68 w a h hr => ?_
    refine ln ?_
    refine xE ?_
    refine evs 2 11 rfl (wn rfl) hr (pA b3 6) fun a hr => ?_
    refine evs 1 12 rfl (wn rfl) hr (pA b3 6) fun a hr => ?_
    refine eo1 13 rfl ?_
    replace h := h.m4
    refine st1 (wn rfl) hr h 6 (.slice ca67 (l62 ++ [(at_ p0.S_Picks g63.toNat)]).length cc68) (pts b3 (.cells #[.slice ca4 l6.length cc5, .slice ca40 l42.length cc41, vI p0.Workers, vI p0.Lim_Frames, vI p0.Lim_First, vI p0.Lim_Most, .slice ca67 (l62 ++ [(at_ p0.S_Picks g63.toNat)]).length cc68, .slice none 0 0] 32)) fun w h => ?_
    refine ln ?_
    refine xE ?_
    refine een ?_
    refine blk_normal ?_
    refine then_normal ?_
    refine wp_region_lit ?_
    refine oo [80, 81, 9] [vI g63, vI (wi (g63 + 1)), vI (wi (g63 + 1))] hr fun a hr => ?_
    refine ln ?_
    exact ⟨_, ⟨ca67, cc68, (l62 ++ [(at_ p0.S_Picks g63.toNat)]), (wi (g63 + 1)), H, hr.fj (h.se 7 [3, 4, 0, 5, 6, 1])⟩, Nat.lt_succ_self _⟩
   ·
    refine wp_exit ?_
    refine then_exit ?_
    refine then_exit ?_
    refine blk_here ?_
    refine then_normal ?_
    exact ⟨(), ca60, cc61, l62, sinj H, hr.fj h⟩
 clear h hr a; rintro _ a w ⟨ca55, cc56, l57, rfl, j, hr, h⟩
 replace H := kk1 hK58
 refine wp_seq ?_
 refine sr ?_
 refine o1 hr (vI 0) fun a hr => ?_
 refine ln ?_
 refine wp_block ?_
 replace h := h.row_nil (e := 3) (sz := 1) (enc := encZ_i64)
 refine loop_rule (β := Nat) id (fun m a w => ∃ ca70 : Option Addr, ∃ cc71 : Nat, ∃ l72 : List Int, ∃ g73 : Int, (plunderlaw11_twin_l5 K p0 l6 l42 l57 m l72 g73) = some r0 ∧ ∃ j, Rep 117 (lk [(1, pA b1 0), (2, pA b2 0), (3, pA b3 0), (10, vI g73)] j) a ∧ Fit z (sepL (ob32 b1 p0 va0_P_Funcs vc0_P_Funcs va0_Args vc0_Args va0_S_Picks vc0_S_Picks va0_S_Draws vc0_S_Draws :: pts b2 (.cells #[.slice none 0 0, .slice none 0 0, vI 0, vI 0, vI 0, vI 0, .slice none 0 0, .slice none 0 0] 32) :: pts b3 (.cells #[.slice ca4 l6.length cc5, .slice ca40 l42.length cc41, vI p0.Workers, vI p0.Lim_Frames, vI p0.Lim_First, vI p0.Lim_Most, .slice ca55 l57.length cc56, .slice ca70 l72.length cc71] 32) :: rn76 ca4 cc5 l6 :: ro2 ca40 cc41 l42 :: ro3 ca55 cc56 l57 :: ro3 ca70 cc71 l72 :: L)) w) K ⟨none, 0, ([] : List Int), 0, H, hr.fj (h.se 7 [1, 2, 3, 4, 5, 6, 0])⟩ ?_
 clear h hr a H; rintro k5 a w ⟨ca70, cc71, l72, g73, H, j, hr, h⟩
 cases k5 with
 | zero => exact absurd H (by simp [plunderlaw11_twin_l5])
 | succ k5 =>
  rw [plunderlaw11_twin_l5] at H
  refine wp_seq ?_
  refine sr ?_
  refine oo [95, 96, 97] [vI g73, pA b1 6, pA b1 7] hr fun a hr => ?_
  refine ld (wn rfl) hr (.slice va0_S_Draws p0.S_Draws.length vc0_S_Draws) (h.cell 7 rfl) fun a hr => ?_
  refine oo [99, 100] [vI ((p0.S_Draws.length : Nat) : Int), vB (decide (g73 < ((p0.S_Draws.length : Nat) : Int)))] hr fun a hr => ?_
  refine ln ?_
  refine cD hr H (fun c74 H => ?_) fun c74 H => ?_
  ·
   refine wp_skip ?_
   refine then_normal ?_
   refine wp_seq ?_
   refine wp_block ?_
   obtain ⟨c75, H⟩ := gd H
   obtain ⟨c79, H⟩ := gd H
   refine regL [(b3, 7, [.slice ca70 l72.length cc71]), (b1, 7, [.slice va0_S_Draws p0.S_Draws.length vc0_S_Draws]), (blk va0_S_Draws, offs va0_S_Draws + g73.toNat * 1, [vI (at_ p0.S_Draws g73.toNat)])] [0, 1, 3, 4, 7] 14 h (fun h => ⟨⟨(h.pick 2).cell 7 rfl, trivial⟩, ⟨h.cell 7 rfl, trivial⟩, ⟨hv0_S_Draws.cell c75 (h.dn 7) 0 rfl, trivial⟩, trivial⟩) fun w h hd => ?_
   refine evs' hd 9 [(0, 103, pA b3 6), (1, 104, pA b3 7), (3, 106, pA b1 6), (4, 107, pA b1 7), (6, 109, vI g73)] hr fun a hr => ?_
   refine elx hd 0 8 2 hr (wn rfl) rfl rfl fun a hr => ?_
   refine elx hd 1 7 5 hr (wn rfl) rfl rfl fun a hr => ?_
   refine eon hd 6 7 rfl (wn rfl) hr (pA (blk va0_S_Draws) (offs va0_S_Draws + g73.toNat * 1)) (hrun := fun w => ri_rd (k := .i64) (E := 3) (cc := vc0_S_Draws) rfl (by kernel_rfl) (by kernel_rfl) rfl (by kernel_rfl) (by kernel_rfl) hv0_S_Draws c75) fun a hr => ?_
   refine elx hd 2 5 8 hr (wn rfl) rfl rfl fun a hr => ?_
   refine eo1 9 rfl ?_
   refine onew (wn rfl) hr h (fun b => .slice (some ⟨b, 0, none⟩) 1 1) (#[vI (at_ p0.S_Draws g73.toNat)]) 3 fun b76 w a h hr => ?_
   refine ln ?_
   refine xE ?_
   refine eo1 10 rfl ?_
   replace h := h.m7
   refine op_append (n0 := l72.length) (c := 1) (bytes := 8) (wn rfl) rfl rfl hr rfl (by kernel_rfl) (by kernel_rfl) encZ_i64_ok (E := 3) (xs := l72) (by kernel_rfl) (by kernel_rfl) h (news := [(at_ p0.S_Draws g73.toNat)]) (m := 1) rfl ((h.pick 1).news rfl) c79 rfl fun ca77 cc78 w a h hr => ?_
   refine ln ?_
   refine xE ?_
   refine evs 2 11 rfl (wn rfl) hr (pA b3 6) fun a hr => ?_
   refine evs 1 12 rfl (wn rfl) hr (pA b3 7) fun a hr => ?_
   refine eo1 13 rfl ?_
   replace h := h.m4
   refine st1 (wn rfl) hr h 7 (.slice ca77 (l72 ++ [(at_ p0.S_Draws g73.toNat)]).length cc78) (pts b3 (.cells #[.slice ca4 l6.length cc5, .slice ca40 l42.length cc41, vI p0.Workers, vI p0.Lim_Frames, vI p0.Lim_First, vI p0.Lim_Most, .slice ca55 l57.length cc56, .slice ca77 (l72 ++ [(at_ p0.S_Draws g73.toNat)]).length cc78] 32)) fun w h => ?_
   refine ln ?_
   refine xE ?_
   refine een ?_
   refine blk_normal ?_
   refine then_normal ?_
   refine wp_region_lit ?_
   refine oo [101, 102, 10] [vI g73, vI (wi (g73 + 1)), vI (wi (g73 + 1))] hr fun a hr => ?_
   refine ln ?_
   exact ⟨_, ⟨ca77, cc78, (l72 ++ [(at_ p0.S_Draws g73.toNat)]), (wi (g73 + 1)), H, hr.fj (h.se 8 [3, 4, 0, 5, 6, 7, 1])⟩, Nat.lt_succ_self _⟩
  ·
   refine wp_exit ?_
   refine then_exit ?_
   refine then_exit ?_
   refine blk_here ?_
   refine then_normal ?_
   refine sr ?_
   refine ldm (wn rfl) hr (.agg #[.slice ca4 l6.length cc5, .slice ca40 l42.length cc41, vI p0.Workers, vI p0.Lim_Frames, vI p0.Lim_First, vI p0.Lim_Most, .slice ca55 l57.length cc56, .slice ca70 l72.length cc71]) (cs := [.slice ca4 l6.length cc5, .slice ca40 l42.length cc41, vI p0.Workers, vI p0.Lim_Frames, vI p0.Lim_First, vI p0.Lim_Most, .slice ca55 l57.length cc56, .slice ca70 l72.length cc71]) ((h.pick 2).held 0 rfl) fun a hr => ?_
   replace h := h.m1
   refine stm (wn rfl) hr h 0 ([.slice ca4 l6.length cc5, .slice ca40 l42.length cc41, vI p0.Workers, vI p0.Lim_Frames, vI p0.Lim_First, vI p0.Lim_Most, .slice ca55 l57.length cc56, .slice ca70 l72.length cc71]) (pts b2 (.cells #[.slice ca4 l6.length cc5, .slice ca40 l42.length cc41, vI p0.Workers, vI p0.Lim_Frames, vI p0.Lim_First, vI p0.Lim_Most, .slice ca55 l57.length cc56, .slice ca70 l72.length cc71] 32)) fun w h => ?_
   refine ln ?_
   refine wp_ret ?_
   refine end_retC (cs := [.slice ca4 l6.length cc5, .slice ca40 l42.length cc41, vI p0.Workers, vI p0.Lim_Frames, vI p0.Lim_First, vI p0.Lim_Most, .slice ca55 l57.length cc56, .slice ca70 l72.length cc71]) rfl hr (by kernel_rfl) (by kernel_rfl) (by kernel_rfl) (h.held 0 rfl) ?_
   replace H := ej1 H; subst H
   exact ⟨ca4, cc5, ca40, cc41, ca55, cc56, ca70, cc71, rfl, h.se 7 [3, 4, 5, 6]⟩

def plunderlaw11_sameInts_l1 (K : Nat) (p0 : List Int) (p1 : List Int) : Nat → Int → Option (Bool)
  | 0, _ => none
  | k1 + 1, g2 => (if g2 < ((p0.length : Nat) : Int) then if inr_ g2 p0.length then if inr_ g2 p1.length then (if (at_ p0 g2.toNat) = (at_ p1 g2.toNat) then (plunderlaw11_sameInts_l1 K p0 p1 k1 (wi (g2 + 1))) else some false) else none else none else some true)
/-- plunder/plunderlaw11.sameInts -/
def plunderlaw11_sameInts (K : Nat) (p0 : List Int) (p1 : List Int) : Option (Bool) :=
  (if ((p0.length : Nat) : Int) = ((p1.length : Nat) : Int) then (plunderlaw11_sameInts_l1 K p0 p1 K 0) else some false)

theorem plunderlaw11_sameInts_ok {z w : World} {L : List HProp} {K : Nat} {p0 p1 : List Int} {va0 va1 : Option Addr} {vc0 vc1 : Nat} {r0 : Bool} (H : plunderlaw11_sameInts K p0 p1 = some r0) (h : Fit z (sepL (L)) w) (hv0 : RdRow L 1 encZ_i64 va0 p0) (hv1 : RdRow L 1 encZ_i64 va1 p1) :
    Calls Tryd.prog 27 #[.slice va0 p0.length vc0, .slice va1 p1.length vc1] w fun e w => e = .returned (vB r0) ∧ Fit z (sepL (L)) w := by
 unfold plunderlaw11_sameInts at H
 refine enter Tryd.func27 rfl 26 rfl rfl [(0, .slice va0 p0.length vc0), (1, .slice va1 p1.length vc1)] ⟨rfl, rfl, trivial⟩ ?_
 intro j a hr
 refine sr ?_
 refine o1 hr (vB false) fun a hr => ?_
 refine ln ?_
 refine wp_seq ?_
 refine sr ?_
 refine oo [6, 7, 8, 9, 10] [.slice va0 p0.length vc0, vI ((p0.length : Nat) : Int), .slice va1 p1.length vc1, vI ((p1.length : Nat) : Int), vB (((p0.length : Nat) : Int) != ((p1.length : Nat) : Int))] hr fun a hr => ?_
 refine ln ?_
 refine cN hr H (fun c1 H => ?_) fun c1 H => ?_
 ·
  refine wp_skip ?_
  refine then_normal ?_
  refine wp_seq ?_
  refine sr ?_
  refine o1 hr (vI 0) fun a hr => ?_
  refine ln ?_
  refine wp_block ?_
  refine loop_rule (β := Nat) id (fun m a w => ∃ g2 : Int, (plunderlaw11_sameInts_l1 K p0 p1 m g2) = some r0 ∧ ∃ j, Rep 26 (lk [(0, .slice va0 p0.length vc0), (1, .slice va1 p1.length vc1), (5, vI g2)] j) a ∧ Fit z (sepL (L)) w) K ⟨0, H, hr.fj h⟩ ?_
  clear h hr a H; rintro k1 a w ⟨g2, H, j, hr, h⟩
  cases k1 with
  | zero => exact absurd H (by simp [plunderlaw11_sameInts_l1])
  | succ k1 =>
   rw [plunderlaw11_sameInts_l1] at H
   refine wp_seq ?_
   refine sr ?_
   refine oo [11, 12, 13, 14] [vI g2, .slice va0 p0.length vc0, vI ((p0.length : Nat) : Int), vB (decide (g2 < ((p0.length : Nat) : Int)))] hr fun a hr => ?_
   refine ln ?_
   refine cD hr H (fun c3 H => ?_) fun c3 H => ?_
   ·
    refine wp_skip ?_
    refine then_normal ?_
    refine wp_seq ?_
    refine wp_block ?_
    refine wp_seq ?_
    obtain ⟨c4, H⟩ := gd H
    obtain ⟨c5, H⟩ := gd H
    refine regL [(blk va0, offs va0 + g2.toNat * 1, [vI (at_ p0 g2.toNat)]), (blk va1, offs va1 + g2.toNat * 1, [vI (at_ p1 g2.toNat)])] [2, 6] 9 h (fun h => ⟨⟨hv0.cell c4 (h.dn 0) 0 rfl, trivial⟩, ⟨hv1.cell c5 (h.dn 0) 0 rfl, trivial⟩, trivial⟩) fun w h hd => ?_
    refine evs' hd 7 [(0, 17, .slice va0 p0.length vc0), (1, 18, vI g2)] hr fun a hr => ?_
    refine eon hd 6 2 rfl (wn rfl) hr (pA (blk va0) (offs va0 + g2.toNat * 1)) (hrun := fun w => ri_rd (k := .i64) (E := 3) (cc := vc0) rfl (by kernel_rfl) (by kernel_rfl) rfl (by kernel_rfl) (by kernel_rfl) hv0 c4) fun a hr => ?_
    refine evs' hd 4 [(4, 21, .slice va1 p1.length vc1), (5, 22, vI g2)] hr fun a hr => ?_
    refine eon hd 3 6 rfl (wn rfl) hr (pA (blk va1) (offs va1 + g2.toNat * 1)) (hrun := fun w => ri_rd (k := .i64) (E := 3) (cc := vc1) rfl (by kernel_rfl) (by kernel_rfl) rfl (by kernel_rfl) (by kernel_rfl) hv1 c5) fun a hr => ?_
    refine elx hd 0 2 3 hr (wn rfl) rfl rfl fun a hr => ?_
    refine elx hd 1 1 7 hr (wn rfl) rfl rfl fun a hr => ?_
    refine evs' hd 0 [(8, 25, vB ((at_ p0 g2.toNat) != (at_ p1 g2.toNat)))] hr fun a hr => ?_
    refine een ?_
    refine then_normal ?_
    refine cN hr H (fun c6 H => ?_) fun c6 H => ?_
    ·
     refine wp_skip ?_
     refine blk_normal ?_
     refine then_normal ?_
     refine wp_region_lit ?_
     refine oo [15, 16, 5] [vI g2, vI (wi (g2 + 1)), vI (wi (g2 + 1))] hr fun a hr => ?_
     refine ln ?_
     exact ⟨_, ⟨(wi (g2 + 1)), H, hr.fj h⟩, Nat.lt_succ_self _⟩
    ·
     refine sr ?_
     refine o1 hr (vB false) fun a hr => ?_
     refine ln ?_
     refine wp_ret ?_
     refine blk_ret ?_
     refine then_ret ?_
     refine then_ret ?_
     refine blk_ret ?_
     refine then_ret ?_
     refine end_ret1 (v := vB false) rfl hr (by kernel_rfl) ?_
     replace H := ej1 H; subst H
     exact ⟨rfl, h⟩
   ·
    refine wp_exit ?_
    refine then_exit ?_
    refine then_exit ?_
    refine blk_here ?_
    refine then_normal ?_
    refine sr ?_
    refine o1 hr (vB true) fun a hr => ?_
    refine ln ?_
    refine wp_ret ?_
    refine end_ret1 (v := vB true) rfl hr (by kernel_rfl) ?_
    replace H := ej1 H; subst H
    exact ⟨rfl, h⟩
 ·
  refine sr ?_
  refine o1 hr (vB false) fun a hr => ?_
  refine ln ?_
  refine wp_ret ?_
  refine then_ret ?_
  refine end_ret1 (v := vB false) rfl hr (by kernel_rfl) ?_
  replace H := ej1 H; subst H
  exact ⟨rfl, h⟩

def plunderlaw11_unchanged_l2 (K : Nat) (p0 : T_plunderlaw11_Case) (p1 : T_plunderlaw11_Case) (g9 : Int) : Nat → Int → Option ((Unit) ⊕ ((Unit) ⊕ (Bool)))
  | 0, _ => none
  | k2 + 1, g23 => (if g23 < (((at_ p0.P_Funcs g9.toNat).Code.length : Nat) : Int) then if inr_ g23 (at_ p0.P_Funcs g9.toNat).Code.length then if inr_ g23 (at_ p1.P_Funcs g9.toNat).Code.length then (if at_ (at_ p0.P_Funcs g9.toNat).Code g23.toNat = at_ (at_ p1.P_Funcs g9.toNat).Code g23.toNat then (plunderlaw11_unchanged_l2 K p0 p1 g9 k2 (wi (g23 + 1))) else some (.inr (.inr false))) else none else none else some (.inl ()))
def plunderlaw11_unchanged_l1 (K : Nat) (p0 : T_plunderlaw11_Case) (p1 : T_plunderlaw11_Case) : Nat → Int → Option ((Unit) ⊕ (Bool))
  | 0, _ => none
  | k1 + 1, g9 => (if g9 < ((p0.P_Funcs.length : Nat) : Int) then jn0 (if inr_ g9 p0.P_Funcs.length then if inr_ g9 p1.P_Funcs.length then jn0 ((if (at_ p0.P_Funcs g9.toNat).Params = (at_ p1.P_Funcs g9.toNat).Params then (if (at_ p0.P_Funcs g9.toNat).Regs = (at_ p1.P_Funcs g9.toNat).Regs then (if (at_ p0.P_Funcs g9.toNat).Slots = (at_ p1.P_Funcs g9.toNat).Slots then (if (((at_ p0.P_Funcs g9.toNat).Code.length : Nat) : Int) = (((at_ p1.P_Funcs g9.toNat).Code.length : Nat) : Int) then some (.inl ()) else some (.inr (.inr (.inr false)))) else some (.inr (.inr (.inr false)))) else some (.inr (.inr (.inr false)))) else some (.inr (.inr (.inr false))))) ((plunderlaw11_unchanged_l2 K p0 p1 g9 K 0)) else none else none) ((plunderlaw11_unchanged_l1 K p0 p1 k1 (wi (g9 + 1)))) else some (.inl ()))
def plunderlaw11_unchanged_l3 (K : Nat) (p0 : T_plunderlaw11_Case) (p1 : T_plunderlaw11_Case) : Nat → Int → Option ((Unit) ⊕ (Bool))
  | 0, _ => none
  | k3 + 1, g30 => (if g30 < ((p0.Args.length : Nat) : Int) then if inr_ g30 p0.Args.length then if inr_ g30 p1.Args.length then (if (at_ p0.Args g30.toNat) = (at_ p1.Args g30.toNat) then (plunderlaw11_unchanged_l3 K p0 p1 k3 (wi (g30 + 1))) else some (.inr false)) else none else none else some (.inl ()))
/-- plunder/plunderlaw11.unchanged -/
def plunderlaw11_unchanged (K : Nat) (p0 : T_plunderlaw11_Case) (p1 : T_plunderlaw11_Case) : Option (Bool) :=
  jn0 ((if ((p0.P_Funcs.length : Nat) : Int) = ((p1.P_Funcs.length : Nat) : Int) then (if ((p0.Args.length : Nat) : Int) = ((p1.Args.length : Nat) : Int) then some (.inl ()) else some (.inr false)) else some (.inr false))) (jn0 ((plunderlaw11_unchanged_l1 K p0 p1 K 0)) (jn0 ((plunderlaw11_unchanged_l3 K p0 p1 K 0)) (ob1 (plunderlaw11_sameInts K p0.S_Picks p1.S_Picks) (fun r35 => (if r35 = true then ob1 (plunderlaw11_sameInts K p0.S_Draws p1.S_Draws) (fun r38 => some r38) else some false)))))


end
end Go.Proofs.YtpikpffbcjpmcaaDoor.Mo
