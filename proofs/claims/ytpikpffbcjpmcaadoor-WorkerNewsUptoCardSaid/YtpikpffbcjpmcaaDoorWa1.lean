/- what the functions compute, as plain Lean functions, and that they do -/
import Derived.Test.YtpikpffbcjpmcaaDoorWa0
namespace Go.Proofs.YtpikpffbcjpmcaaDoor.Mo
open Go Go.RowKit Go.Proofs.YtpikpffbcjpmcaaDoor.SL Go.Proofs.YtpikpffbcjpmcaaDoor.GX
set_option linter.unusedVariables false
set_option linter.unusedSimpArgs false
set_option maxRecDepth 100000
set_option maxHeartbeats 4000000
noncomputable section

/-- plunder/plunderref5.shaped -/
def plunderref5_shaped (p0 : T_api_Func) : Option (Bool) :=
  jn0 ((if p0.Params < 0 then some (.inr false) else (if p0.Params > 8 then some (.inr false) else (if p0.Regs < 1 then some (.inr false) else (if p0.Regs < p0.Params then some (.inr false) else (if p0.Regs > 16 then some (.inr false) else some (.inl ()))))))) ((if p0.Slots ≥ 0 then (if p0.Slots ≤ 8 then (if ((p0.Code.length : Nat) : Int) ≥ 1 then some (decide (((p0.Code.length : Nat) : Int) ≤ 512)) else some false) else some false) else some false))

theorem plunderref5_shaped_ok {z w : World} {L : List HProp} {p0 : T_api_Func} {va0_Code : Option Addr} {vc0_Code : Nat} {r0 : Bool} (H : plunderref5_shaped p0 = some r0) (h : Fit z (sepL (L)) w) (hv0_Code : RdRow L 5 enc_T_api_Instr va0_Code p0.Code) :
    Calls Tryd.prog 40 #[.agg #[vI p0.Params, vI p0.Regs, vI p0.Slots, .slice va0_Code p0.Code.length vc0_Code]] w fun e w => e = .returned (vB r0) ∧ Fit z (sepL (L)) w := by
 unfold plunderref5_shaped at H
 refine enter Tryd.func40 rfl 48 rfl rfl [(0, .agg #[vI p0.Params, vI p0.Regs, vI p0.Slots, .slice va0_Code p0.Code.length vc0_Code])] ⟨rfl, trivial⟩ ?_
 intro j a hr
 refine sr ?_
 refine onew (wn rfl) hr h nb (#[vI p0.Params, vI p0.Regs, vI p0.Slots, .slice va0_Code p0.Code.length vc0_Code]) 76 fun b1 w a h hr => ?_
 refine o1 hr (vB false) fun a hr => ?_
 refine ln ?_
 obtain ⟨o3, H, hK2⟩ := jd0 H
 refine cut_rule (β := Unit) (fun _ a w => .inl () = o3 ∧ ∃ j, Rep 48 (lk [(1, pA b1 0)] j) a ∧ Fit z (sepL (ob76 b1 p0 va0_Code vc0_Code :: L)) w) ?_ ?_
 ·
  refine sr ?_
  refine o1 hr (pA b1 0) fun a hr => ?_
  refine ld (wn rfl) hr (vI p0.Params) (h.cell 0 rfl) fun a hr => ?_
  refine oo [5, 6] [vB (decide (p0.Params < 0)), vB (decide (p0.Params < 0))] hr fun a hr => ?_
  by_cases c4 : p0.Params < 0
  ·
   replace H := ifT c4 H
   refine offl (decide_eq_true c4) [7, 8, 9] hr fun a hr => ?_
   refine opv (wn rfl) hr (vB true) (rp_t (b := (decide (p0.Params < 0))) rfl (by kernel_rfl) (decide_eq_true c4) (by kernel_rfl)) fun a hr => ?_
   refine o1 hr (vB true) fun a hr => ?_
   refine offl (rfl : true = true) [12, 13, 14] hr fun a hr => ?_
   refine oo [15, 16] [vB true, vB true] hr fun a hr => ?_
   refine offl (rfl : true = true) [17, 18, 19, 20, 21] hr fun a hr => ?_
   refine oo [22, 23] [vB true, vB true] hr fun a hr => ?_
   refine offl (rfl : true = true) [24, 25, 26] hr fun a hr => ?_
   refine o1 hr (vB true) fun a hr => ?_
   refine ln ?_
   refine cond_tt hr (b := true) rfl ?_
   refine sr ?_
   refine o1 hr (vB false) fun a hr => ?_
   refine ln ?_
   refine wp_ret ?_
   refine then_ret ?_
   refine end_ret1 (v := vB false) rfl hr (by kernel_rfl) ?_
   replace H := jx0 H hK2
   replace H := ej1 H; subst H
   exact ⟨rfl, h.se 1 []⟩
  ·
   replace H := ifF c4 H
   refine onl (decide_eq_false c4) [7] [pA b1 0] hr fun a hr => ?_
   refine ld (wgt hr (decide_eq_false c4)) hr (vI p0.Params) (h.cell 0 rfl) fun a hr => ?_
   refine onl (decide_eq_false c4) [9] [vB (decide (p0.Params > 8))] hr fun a hr => ?_
   refine opv (wn rfl) hr (vB (decide (p0.Params > 8))) (rp_f (b := (decide (p0.Params < 0))) rfl (by kernel_rfl) (decide_eq_false c4) (by kernel_rfl)) fun a hr => ?_
   refine o1 hr (vB (decide (p0.Params > 8))) fun a hr => ?_
   by_cases c5 : p0.Params > 8
   ·
    replace H := ifT c5 H
    refine offl (decide_eq_true c5) [12, 13, 14] hr fun a hr => ?_
    refine opv (wn rfl) hr (vB true) (rp_t (b := (decide (p0.Params > 8))) rfl (by kernel_rfl) (decide_eq_true c5) (by kernel_rfl)) fun a hr => ?_
    refine o1 hr (vB true) fun a hr => ?_
    refine offl (rfl : true = true) [17, 18, 19, 20, 21] hr fun a hr => ?_
    refine oo [22, 23] [vB true, vB true] hr fun a hr => ?_
    refine offl (rfl : true = true) [24, 25, 26] hr fun a hr => ?_
    refine o1 hr (vB true) fun a hr => ?_
    refine ln ?_
    refine cond_tt hr (b := true) rfl ?_
    refine sr ?_
    refine o1 hr (vB false) fun a hr => ?_
    refine ln ?_
    refine wp_ret ?_
    refine then_ret ?_
    refine end_ret1 (v := vB false) rfl hr (by kernel_rfl) ?_
    replace H := jx0 H hK2
    replace H := ej1 H; subst H
    exact ⟨rfl, h.se 1 []⟩
   ·
    replace H := ifF c5 H
    refine onl (decide_eq_false c5) [12] [pA b1 1] hr fun a hr => ?_
    refine ld (wgt hr (decide_eq_false c5)) hr (vI p0.Regs) (h.cell 1 rfl) fun a hr => ?_
    refine onl (decide_eq_false c5) [14] [vB (decide (p0.Regs < 1))] hr fun a hr => ?_
    refine opv (wn rfl) hr (vB (decide (p0.Regs < 1))) (rp_f (b := (decide (p0.Params > 8))) rfl (by kernel_rfl) (decide_eq_false c5) (by kernel_rfl)) fun a hr => ?_
    refine o1 hr (vB (decide (p0.Regs < 1))) fun a hr => ?_
    by_cases c6 : p0.Regs < 1
    ·
     replace H := ifT c6 H
     refine offl (decide_eq_true c6) [17, 18, 19, 20, 21] hr fun a hr => ?_
     refine opv (wn rfl) hr (vB true) (rp_t (b := (decide (p0.Regs < 1))) rfl (by kernel_rfl) (decide_eq_true c6) (by kernel_rfl)) fun a hr => ?_
     refine o1 hr (vB true) fun a hr => ?_
     refine offl (rfl : true = true) [24, 25, 26] hr fun a hr => ?_
     refine o1 hr (vB true) fun a hr => ?_
     refine ln ?_
     refine cond_tt hr (b := true) rfl ?_
     refine sr ?_
     refine o1 hr (vB false) fun a hr => ?_
     refine ln ?_
     refine wp_ret ?_
     refine then_ret ?_
     refine end_ret1 (v := vB false) rfl hr (by kernel_rfl) ?_
     replace H := jx0 H hK2
     replace H := ej1 H; subst H
     exact ⟨rfl, h.se 1 []⟩
    ·
     replace H := ifF c6 H
     refine onl (decide_eq_false c6) [17] [pA b1 1] hr fun a hr => ?_
     refine ld (wgt hr (decide_eq_false c6)) hr (vI p0.Regs) (h.cell 1 rfl) fun a hr => ?_
     refine onl (decide_eq_false c6) [19] [pA b1 0] hr fun a hr => ?_
     refine ld (wgt hr (decide_eq_false c6)) hr (vI p0.Params) (h.cell 0 rfl) fun a hr => ?_
     refine onl (decide_eq_false c6) [21] [vB (decide (p0.Regs < p0.Params))] hr fun a hr => ?_
     refine opv (wn rfl) hr (vB (decide (p0.Regs < p0.Params))) (rp_f (b := (decide (p0.Regs < 1))) rfl (by kernel_rfl) (decide_eq_false c6) (by kernel_rfl)) fun a hr => ?_
     refine o1 hr (vB (decide (p0.Regs < p0.Params))) fun a hr => ?_
     by_cases c7 : p0.Regs < p0.Params
     ·
      replace H := ifT c7 H
      refine offl (decide_eq_true c7) [24, 25, 26] hr fun a hr => ?_
      refine opv (wn rfl) hr (vB true) (rp_t (b := (decide (p0.Regs < p0.Params))) rfl (by kernel_rfl) (decide_eq_true c7) (by kernel_rfl)) fun a hr => ?_
      refine ln ?_
      refine cond_tt hr (b := true) rfl ?_
      refine sr ?_
      refine o1 hr (vB false) fun a hr => ?_
      refine ln ?_
      refine wp_ret ?_
      refine then_ret ?_
      refine end_ret1 (v := vB false) rfl hr (by kernel_rfl) ?_
      replace H := jx0 H hK2
      replace H := ej1 H; subst H
      exact ⟨rfl, h.se 1 []⟩
     ·
      replace H := ifF c7 H
      refine onl (decide_eq_false c7) [24] [pA b1 1] hr fun a hr => ?_
      refine ld (wgt hr (decide_eq_false c7)) hr (vI p0.Regs) (h.cell 1 rfl) fun a hr => ?_
      refine onl (decide_eq_false c7) [26] [vB (decide (p0.Regs > 16))] hr fun a hr => ?_
      refine opv (wn rfl) hr (vB (decide (p0.Regs > 16))) (rp_f (b := (decide (p0.Regs < p0.Params))) rfl (by kernel_rfl) (decide_eq_false c7) (by kernel_rfl)) fun a hr => ?_
      refine ln ?_
      refine cD hr H (fun c8 H => ?_) fun c8 H => ?_
      ·
       refine sr ?_
       refine o1 hr (vB false) fun a hr => ?_
       refine ln ?_
       refine wp_ret ?_
       refine then_ret ?_
       refine end_ret1 (v := vB false) rfl hr (by kernel_rfl) ?_
       replace H := jx0 H hK2
       replace H := ej1 H; subst H
       exact ⟨rfl, h.se 1 []⟩
      ·
       refine wp_skip ?_
       refine then_normal ?_
       exact ⟨(), sinj H, hr.fj h⟩
 clear h hr a; rintro _ a w ⟨rfl, j, hr, h⟩
 replace H := jk0 hK2
 refine sr ?_
 refine o1 hr (pA b1 2) fun a hr => ?_
 refine ld (wn rfl) hr (vI p0.Slots) (h.cell 2 rfl) fun a hr => ?_
 refine oo [30, 31] [vB (decide (p0.Slots ≥ 0)), vB (decide (p0.Slots ≥ 0))] hr fun a hr => ?_
 by_cases c9 : p0.Slots ≥ 0
 ·
  replace H := ifT c9 H
  refine onl (decide_eq_true c9) [32] [pA b1 2] hr fun a hr => ?_
  refine ld (wgt hr (decide_eq_true c9)) hr (vI p0.Slots) (h.cell 2 rfl) fun a hr => ?_
  refine onl (decide_eq_true c9) [34] [vB (decide (p0.Slots ≤ 8))] hr fun a hr => ?_
  refine opv (wn rfl) hr (vB (decide (p0.Slots ≤ 8))) (rp_t (b := (decide (p0.Slots ≥ 0))) rfl (by kernel_rfl) (decide_eq_true c9) (by kernel_rfl)) fun a hr => ?_
  refine o1 hr (vB (decide (p0.Slots ≤ 8))) fun a hr => ?_
  by_cases c10 : p0.Slots ≤ 8
  ·
   replace H := ifT c10 H
   refine onl (decide_eq_true c10) [37] [pA b1 3] hr fun a hr => ?_
   refine ld (wgt hr (decide_eq_true c10)) hr (.slice va0_Code p0.Code.length vc0_Code) (h.cell 3 rfl) fun a hr => ?_
   refine onl (decide_eq_true c10) [39, 40] [vI ((p0.Code.length : Nat) : Int), vB (decide (((p0.Code.length : Nat) : Int) ≥ 1))] hr fun a hr => ?_
   refine opv (wn rfl) hr (vB (decide (((p0.Code.length : Nat) : Int) ≥ 1))) (rp_t (b := (decide (p0.Slots ≤ 8))) rfl (by kernel_rfl) (decide_eq_true c10) (by kernel_rfl)) fun a hr => ?_
   refine o1 hr (vB (decide (((p0.Code.length : Nat) : Int) ≥ 1))) fun a hr => ?_
   by_cases c11 : ((p0.Code.length : Nat) : Int) ≥ 1
   ·
    replace H := ifT c11 H
    refine onl (decide_eq_true c11) [43] [pA b1 3] hr fun a hr => ?_
    refine ld (wgt hr (decide_eq_true c11)) hr (.slice va0_Code p0.Code.length vc0_Code) (h.cell 3 rfl) fun a hr => ?_
    refine onl (decide_eq_true c11) [45, 46] [vI ((p0.Code.length : Nat) : Int), vB (decide (((p0.Code.length : Nat) : Int) ≤ 512))] hr fun a hr => ?_
    refine opv (wn rfl) hr (vB (decide (((p0.Code.length : Nat) : Int) ≤ 512))) (rp_t (b := (decide (((p0.Code.length : Nat) : Int) ≥ 1))) rfl (by kernel_rfl) (decide_eq_true c11) (by kernel_rfl)) fun a hr => ?_
    refine o1 hr (vB (decide (((p0.Code.length : Nat) : Int) ≤ 512))) fun a hr => ?_
    refine ln ?_
    refine wp_ret ?_
    refine end_ret1 (v := vB (decide (((p0.Code.length : Nat) : Int) ≤ 512))) rfl hr (by kernel_rfl) ?_
    replace H := ej1 H; subst H
    exact ⟨rfl, h.se 1 []⟩
   ·
    replace H := ifF c11 H
    refine offl (decide_eq_false c11) [43, 44, 45, 46] hr fun a hr => ?_
    refine opv (wn rfl) hr (vB false) (rp_f (b := (decide (((p0.Code.length : Nat) : Int) ≥ 1))) rfl (by kernel_rfl) (decide_eq_false c11) (by kernel_rfl)) fun a hr => ?_
    refine o1 hr (vB false) fun a hr => ?_
    refine ln ?_
    refine wp_ret ?_
    refine end_ret1 (v := vB false) rfl hr (by kernel_rfl) ?_
    replace H := ej1 H; subst H
    exact ⟨rfl, h.se 1 []⟩
  ·
   replace H := ifF c10 H
   refine offl (decide_eq_false c10) [37, 38, 39, 40] hr fun a hr => ?_
   refine opv (wn rfl) hr (vB false) (rp_f (b := (decide (p0.Slots ≤ 8))) rfl (by kernel_rfl) (decide_eq_false c10) (by kernel_rfl)) fun a hr => ?_
   refine o1 hr (vB false) fun a hr => ?_
   refine offl (rfl : false = false) [43, 44, 45, 46] hr fun a hr => ?_
   refine oo [47, 2] [vB false, vB false] hr fun a hr => ?_
   refine ln ?_
   refine wp_ret ?_
   refine end_ret1 (v := vB false) rfl hr (by kernel_rfl) ?_
   replace H := ej1 H; subst H
   exact ⟨rfl, h.se 1 []⟩
 ·
  replace H := ifF c9 H
  refine offl (decide_eq_false c9) [32, 33, 34] hr fun a hr => ?_
  refine opv (wn rfl) hr (vB false) (rp_f (b := (decide (p0.Slots ≥ 0))) rfl (by kernel_rfl) (decide_eq_false c9) (by kernel_rfl)) fun a hr => ?_
  refine o1 hr (vB false) fun a hr => ?_
  refine offl (rfl : false = false) [37, 38, 39, 40] hr fun a hr => ?_
  refine oo [41, 42] [vB false, vB false] hr fun a hr => ?_
  refine offl (rfl : false = false) [43, 44, 45, 46] hr fun a hr => ?_
  refine oo [47, 2] [vB false, vB false] hr fun a hr => ?_
  refine ln ?_
  refine wp_ret ?_
  refine end_ret1 (v := vB false) rfl hr (by kernel_rfl) ?_
  replace H := ej1 H; subst H
  exact ⟨rfl, h.se 1 []⟩

/-- plunder/plunderref5.below -/
def plunderref5_below (p0 : Int) (p1 : Int) : Option (Bool) :=
  (if p0 ≥ 0 then some (decide (p0 < p1)) else some false)

theorem plunderref5_below_ok {z w : World} {L : List HProp} {p0 p1 : Int} {r0 : Bool} (H : plunderref5_below p0 p1 = some r0) (h : Fit z (sepL (L)) w)  :
    Calls Tryd.prog 58 #[vI p0, vI p1] w fun e w => e = .returned (vB r0) ∧ Fit z (sepL (L)) w := by
 unfold plunderref5_below at H
 refine enter Tryd.func58 rfl 12 rfl rfl [(0, vI p0), (1, vI p1)] ⟨rfl, rfl, trivial⟩ ?_
 intro j a hr
 refine sr ?_
 refine o1 hr (vB false) fun a hr => ?_
 refine ln ?_
 refine sr ?_
 refine oo [5, 6, 7] [vI p0, vB (decide (p0 ≥ 0)), vB (decide (p0 ≥ 0))] hr fun a hr => ?_
 by_cases c1 : p0 ≥ 0
 ·
  replace H := ifT c1 H
  refine onl (decide_eq_true c1) [8, 9, 10] [vI p0, vI p1, vB (decide (p0 < p1))] hr fun a hr => ?_
  refine opv (wn rfl) hr (vB (decide (p0 < p1))) (rp_t (b := (decide (p0 ≥ 0))) rfl (by kernel_rfl) (decide_eq_true c1) (by kernel_rfl)) fun a hr => ?_
  refine o1 hr (vB (decide (p0 < p1))) fun a hr => ?_
  refine ln ?_
  refine wp_ret ?_
  refine end_ret1 (v := vB (decide (p0 < p1))) rfl hr (by kernel_rfl) ?_
  replace H := ej1 H; subst H
  exact ⟨rfl, h⟩
 ·
  replace H := ifF c1 H
  refine offl (decide_eq_false c1) [8, 9, 10] hr fun a hr => ?_
  refine opv (wn rfl) hr (vB false) (rp_f (b := (decide (p0 ≥ 0))) rfl (by kernel_rfl) (decide_eq_false c1) (by kernel_rfl)) fun a hr => ?_
  refine o1 hr (vB false) fun a hr => ?_
  refine ln ?_
  refine wp_ret ?_
  refine end_ret1 (v := vB false) rfl hr (by kernel_rfl) ?_
  replace H := ej1 H; subst H
  exact ⟨rfl, h⟩

/-- plunder/plunderref5.alone -/
def plunderref5_alone (p0 : T_api_Func) (p1 : T_api_Instr) : Option (Bool) :=
  ob1 (plunderref5_below p1.A p0.Regs) (fun r3 => ob1 (plunderref5_below p1.B p0.Regs) (fun r5 => ob1 ((if p1.Kind = 0 then some (p1.Kind == 0) else (if p1.Kind = 8 then some (p1.Kind == 8) else some (p1.Kind == 9)))) (fun g7 => (if g7 = true then some r3 else (if p1.Kind = 1 then (if r3 = true then some r5 else some false) else (if p1.Kind = 2 then (if r3 = true then (if r5 = true then ob1 (plunderref5_below p1.C p0.Regs) (fun r18 => (if r18 = true then (if p1.K ≥ 0 then some (decide (p1.K < 16)) else some false) else some false)) else some false) else some false) else (if p1.Kind = 3 then ob1 (plunderref5_below p1.A ((p0.Code.length : Nat) : Int)) (fun r23 => some r23) else (if p1.Kind = 4 then (if r3 = true then ob1 (plunderref5_below p1.B ((p0.Code.length : Nat) : Int)) (fun r27 => some r27) else some false) else (if p1.Kind = 5 then ob1 (plunderref5_below p1.A p0.Slots) (fun r30 => some r30) else (if p1.Kind = 6 then some true else (if p1.Kind = 7 then (if r3 = true then ob1 (plunderref5_below p1.B p0.Slots) (fun r35 => some r35) else some false) else some false)))))))))))

theorem plunderref5_alone_ok {z w : World} {L : List HProp} {p0 : T_api_Func} {p1 : T_api_Instr} {va0_Code : Option Addr} {vc0_Code : Nat} {r0 : Bool} (H : plunderref5_alone p0 p1 = some r0) (h : Fit z (sepL (L)) w) (hv0_Code : RdRow L 5 enc_T_api_Instr va0_Code p0.Code) :
    Calls Tryd.prog 41 #[.agg #[vI p0.Params, vI p0.Regs, vI p0.Slots, .slice va0_Code p0.Code.length vc0_Code], ag_T_api_Instr p1] w fun e w => e = .returned (vB r0) ∧ Fit z (sepL (L)) w := by
 unfold plunderref5_alone at H
 refine enter Tryd.func41 rfl 91 rfl rfl [(0, .agg #[vI p0.Params, vI p0.Regs, vI p0.Slots, .slice va0_Code p0.Code.length vc0_Code]), (1, ag_T_api_Instr p1)] ⟨rfl, rfl, trivial⟩ ?_
 intro j a hr
 refine sr ?_
 refine onew (wn rfl) hr h nb (#[vI p0.Params, vI p0.Regs, vI p0.Slots, .slice va0_Code p0.Code.length vc0_Code]) 76 fun b1 w a h hr => ?_
 refine onew (wn rfl) hr h nb (ca_T_api_Instr p1) 108 fun b2 w a h hr => ?_
 refine o1 hr (vB false) fun a hr => ?_
 refine ln ?_
 refine sr ?_
 refine o1 hr (pA b2 1) fun a hr => ?_
 refine ld (wn rfl) hr (vI p1.A) (h.cell 1 rfl) fun a hr => ?_
 refine o1 hr (pA b1 1) fun a hr => ?_
 refine ld (wn rfl) hr (vI p0.Regs) ((h.pick 1).cell 1 rfl) fun a hr => ?_
 obtain ⟨r3, e4, H⟩ := bd1 H
 have hc := plunderref5_below_ok (H := e4) (h := h)
 refine cl (wn rfl) hr hc ?_; clear hc h
 rintro _ w ⟨rfl, h⟩; refine ⟨_, rfl, fun a hr => ?_⟩
 refine o1 hr (vB r3) fun a hr => ?_
 refine ln ?_
 refine sr ?_
 refine o1 hr (pA b2 2) fun a hr => ?_
 refine ld (wn rfl) hr (vI p1.B) (h.cell 2 rfl) fun a hr => ?_
 refine o1 hr (pA b1 1) fun a hr => ?_
 refine ld (wn rfl) hr (vI p0.Regs) ((h.pick 1).cell 1 rfl) fun a hr => ?_
 obtain ⟨r5, e6, H⟩ := bd1 H
 have hc := plunderref5_below_ok (H := e6) (h := h)
 refine cl (wn rfl) hr hc ?_; clear hc h
 rintro _ w ⟨rfl, h⟩; refine ⟨_, rfl, fun a hr => ?_⟩
 refine o1 hr (vB r5) fun a hr => ?_
 refine ln ?_
 refine wp_seq ?_
 refine sr ?_
 refine o1 hr (pA b2 0) fun a hr => ?_
 refine ld (wn rfl) hr (vI p1.Kind) (h.cell 0 rfl) fun a hr => ?_
 refine ln ?_
 refine wp_block ?_
 obtain ⟨o9, H, hK8⟩ := kd1 H
 refine cut_rule (β := Unit) (fun _ a w => ∃ g7 : Bool, g7 = o9 ∧ ∃ j, Rep 91 (lk [(2, pA b1 0), (3, pA b2 0), (5, vB r3), (6, vB r5), (18, vI p1.Kind), (19, vB g7)] j) a ∧ Fit z (sepL (ob76 b1 p0 va0_Code vc0_Code :: ob108 b2 p1 :: L)) w) ?_ ?_
 ·
  refine sr ?_
  refine oo [20, 19] [vB (p1.Kind == 0), vB (p1.Kind == 0)] hr fun a hr => ?_
  refine ln ?_
  refine cD hr H (fun c10 H => ?_) fun c10 H => ?_
  ·
   refine wp_skip ?_
   refine then_normal ?_
   exact ⟨(), (p1.Kind == 0), sinj H, hr.fj (h.se 2 [1, 0])⟩
  ·
   refine sr ?_
   refine oo [21, 19] [vB (p1.Kind == 8), vB (p1.Kind == 8)] hr fun a hr => ?_
   refine ln ?_
   refine cD hr H (fun c11 H => ?_) fun c11 H => ?_
   ·
    refine wp_skip ?_
    refine then_normal ?_
    exact ⟨(), (p1.Kind == 8), sinj H, hr.fj (h.se 2 [1, 0])⟩
   ·
    refine wp_region_lit ?_
    refine oo [22, 19] [vB (p1.Kind == 9), vB (p1.Kind == 9)] hr fun a hr => ?_
    refine ln ?_
    exact ⟨(), (p1.Kind == 9), sinj H, hr.fj (h.se 2 [1, 0])⟩
 clear h hr a; rintro _ a w ⟨g7, rfl, j, hr, h⟩
 replace H := kk1 hK8
 refine cV hr H (fun c12 H => ?_) fun c12 H => ?_
 ·
  refine sr ?_
  refine oo [23, 4] [vB r3, vB r3] hr fun a hr => ?_
  refine ln ?_
  refine wp_ret ?_
  refine blk_ret ?_
  refine then_ret ?_
  refine end_ret1 (v := vB r3) rfl hr (by kernel_rfl) ?_
  replace H := ej1 H; subst H
  exact ⟨rfl, h.se 2 []⟩
 ·
  refine sr ?_
  refine oo [25, 24] [vB (p1.Kind == 1), vB (p1.Kind == 1)] hr fun a hr => ?_
  refine ln ?_
  refine cD hr H (fun c13 H => ?_) fun c13 H => ?_
  ·
   refine sr ?_
   refine oo [26, 27] [vB r3, vB r3] hr fun a hr => ?_
   by_cases c14 : r3 = true
   ·
    replace H := ifT c14 H
    refine onl (c14) [28] [vB r5] hr fun a hr => ?_
    refine opv (wn rfl) hr (vB r5) (rp_t (b := r3) rfl (by kernel_rfl) (c14) (by kernel_rfl)) fun a hr => ?_
    refine o1 hr (vB r5) fun a hr => ?_
    refine ln ?_
    refine wp_ret ?_
    refine blk_ret ?_
    refine then_ret ?_
    refine end_ret1 (v := vB r5) rfl hr (by kernel_rfl) ?_
    replace H := ej1 H; subst H
    exact ⟨rfl, h.se 2 []⟩
   ·
    replace H := ifF c14 H
    refine offl (bF c14) [28] hr fun a hr => ?_
    refine opv (wn rfl) hr (vB false) (rp_f (b := r3) rfl (by kernel_rfl) (bF c14) (by kernel_rfl)) fun a hr => ?_
    refine o1 hr (vB false) fun a hr => ?_
    refine ln ?_
    refine wp_ret ?_
    refine blk_ret ?_
    refine then_ret ?_
    refine end_ret1 (v := vB false) rfl hr (by kernel_rfl) ?_
    replace H := ej1 H; subst H
    exact ⟨rfl, h.se 2 []⟩
  ·
   refine sr ?_
   refine oo [31, 30] [vB (p1.Kind == 2), vB (p1.Kind == 2)] hr fun a hr => ?_
   refine ln ?_
   refine cD hr H (fun c15 H => ?_) fun c15 H => ?_
   ·
    refine sr ?_
    refine oo [32, 33] [vB r3, vB r3] hr fun a hr => ?_
    by_cases c16 : r3 = true
    ·
     replace H := ifT c16 H
     refine onl (c16) [34] [vB r5] hr fun a hr => ?_
     refine opv (wn rfl) hr (vB r5) (rp_t (b := r3) rfl (by kernel_rfl) (c16) (by kernel_rfl)) fun a hr => ?_
     refine o1 hr (vB r5) fun a hr => ?_
     by_cases c17 : r5 = true
     ·
      replace H := ifT c17 H
      refine onl (c17) [37] [pA b2 3] hr fun a hr => ?_
      refine ld (wgt hr (c17)) hr (vI p1.C) ((h.pick 1).cell 3 rfl) fun a hr => ?_
      refine onl (c17) [39] [pA b1 1] hr fun a hr => ?_
      refine ld (wgt hr (c17)) hr (vI p0.Regs) (h.cell 1 rfl) fun a hr => ?_
      obtain ⟨r18, e19, H⟩ := bd1 H
      have hc := plunderref5_below_ok (H := e19) (h := h)
      refine cl (wgt hr (c17)) hr hc ?_; clear hc h
      rintro _ w ⟨rfl, h⟩; refine ⟨_, rfl, fun a hr => ?_⟩
      refine opv (wn rfl) hr (vB r18) (rp_t (b := r5) rfl (by kernel_rfl) (c17) (by kernel_rfl)) fun a hr => ?_
      refine o1 hr (vB r18) fun a hr => ?_
      by_cases c20 : r18 = true
      ·
       replace H := ifT c20 H
       refine onl (c20) [44] [pA b2 4] hr fun a hr => ?_
       refine ld (wgt hr (c20)) hr (vI p1.K) ((h.pick 1).cell 4 rfl) fun a hr => ?_
       refine onl (c20) [46] [vB (decide (p1.K ≥ 0))] hr fun a hr => ?_
       refine opv (wn rfl) hr (vB (decide (p1.K ≥ 0))) (rp_t (b := r18) rfl (by kernel_rfl) (c20) (by kernel_rfl)) fun a hr => ?_
       refine o1 hr (vB (decide (p1.K ≥ 0))) fun a hr => ?_
       by_cases c21 : p1.K ≥ 0
       ·
        replace H := ifT c21 H
        refine onl (decide_eq_true c21) [49] [pA b2 4] hr fun a hr => ?_
        refine ld (wgt hr (decide_eq_true c21)) hr (vI p1.K) ((h.pick 1).cell 4 rfl) fun a hr => ?_
        refine onl (decide_eq_true c21) [51] [vB (decide (p1.K < 16))] hr fun a hr => ?_
        refine opv (wn rfl) hr (vB (decide (p1.K < 16))) (rp_t (b := (decide (p1.K ≥ 0))) rfl (by kernel_rfl) (decide_eq_true c21) (by kernel_rfl)) fun a hr => ?_
        refine o1 hr (vB (decide (p1.K < 16))) fun a hr => ?_
        refine ln ?_
        refine wp_ret ?_
        refine blk_ret ?_
        refine then_ret ?_
        refine end_ret1 (v := vB (decide (p1.K < 16))) rfl hr (by kernel_rfl) ?_
        replace H := ej1 H; subst H
        exact ⟨rfl, h.se 2 []⟩
       ·
        replace H := ifF c21 H
        refine offl (decide_eq_false c21) [49, 50, 51] hr fun a hr => ?_
        refine opv (wn rfl) hr (vB false) (rp_f (b := (decide (p1.K ≥ 0))) rfl (by kernel_rfl) (decide_eq_false c21) (by kernel_rfl)) fun a hr => ?_
        refine o1 hr (vB false) fun a hr => ?_
        refine ln ?_
        refine wp_ret ?_
        refine blk_ret ?_
        refine then_ret ?_
        refine end_ret1 (v := vB false) rfl hr (by kernel_rfl) ?_
        replace H := ej1 H; subst H
        exact ⟨rfl, h.se 2 []⟩
      ·
       replace H := ifF c20 H
       refine offl (bF c20) [44, 45, 46] hr fun a hr => ?_
       refine opv (wn rfl) hr (vB false) (rp_f (b := r18) rfl (by kernel_rfl) (bF c20) (by kernel_rfl)) fun a hr => ?_
       refine o1 hr (vB false) fun a hr => ?_
       refine offl (rfl : false = false) [49, 50, 51] hr fun a hr => ?_
       refine oo [52, 4] [vB false, vB false] hr fun a hr => ?_
       refine ln ?_
       refine wp_ret ?_
       refine blk_ret ?_
       refine then_ret ?_
       refine end_ret1 (v := vB false) rfl hr (by kernel_rfl) ?_
       replace H := ej1 H; subst H
       exact ⟨rfl, h.se 2 []⟩
     ·
      replace H := ifF c17 H
      refine offl (bF c17) [37, 38, 39, 40, 41] hr fun a hr => ?_
      refine opv (wn rfl) hr (vB false) (rp_f (b := r5) rfl (by kernel_rfl) (bF c17) (by kernel_rfl)) fun a hr => ?_
      refine o1 hr (vB false) fun a hr => ?_
      refine offl (rfl : false = false) [44, 45, 46] hr fun a hr => ?_
      refine oo [47, 48] [vB false, vB false] hr fun a hr => ?_
      refine offl (rfl : false = false) [49, 50, 51] hr fun a hr => ?_
      refine oo [52, 4] [vB false, vB false] hr fun a hr => ?_
      refine ln ?_
      refine wp_ret ?_
      refine blk_ret ?_
      refine then_ret ?_
      refine end_ret1 (v := vB false) rfl hr (by kernel_rfl) ?_
      replace H := ej1 H; subst H
      exact ⟨rfl, h.se 2 []⟩
    ·
     replace H := ifF c16 H
     refine offl (bF c16) [34] hr fun a hr => ?_
     refine opv (wn rfl) hr (vB false) (rp_f (b := r3) rfl (by kernel_rfl) (bF c16) (by kernel_rfl)) fun a hr => ?_
     refine o1 hr (vB false) fun a hr => ?_
     refine offl (rfl : false = false) [37, 38, 39, 40, 41] hr fun a hr => ?_
     refine oo [42, 43] [vB false, vB false] hr fun a hr => ?_
     refine offl (rfl : false = false) [44, 45, 46] hr fun a hr => ?_
     refine oo [47, 48] [vB false, vB false] hr fun a hr => ?_
     refine offl (rfl : false = false) [49, 50, 51] hr fun a hr => ?_
     refine oo [52, 4] [vB false, vB false] hr fun a hr => ?_
     refine ln ?_
     refine wp_ret ?_
     refine blk_ret ?_
     refine then_ret ?_
     refine end_ret1 (v := vB false) rfl hr (by kernel_rfl) ?_
     replace H := ej1 H; subst H
     exact ⟨rfl, h.se 2 []⟩
   ·
    refine sr ?_
    refine oo [54, 53] [vB (p1.Kind == 3), vB (p1.Kind == 3)] hr fun a hr => ?_
    refine ln ?_
    refine cD hr H (fun c22 H => ?_) fun c22 H => ?_
    ·
     refine sr ?_
     refine o1 hr (pA b2 1) fun a hr => ?_
     refine ld (wn rfl) hr (vI p1.A) ((h.pick 1).cell 1 rfl) fun a hr => ?_
     refine o1 hr (pA b1 3) fun a hr => ?_
     refine ld (wn rfl) hr (.slice va0_Code p0.Code.length vc0_Code) (h.cell 3 rfl) fun a hr => ?_
     obtain ⟨r23, e24, H⟩ := bd1 H
     refine o1 hr (vI ((p0.Code.length : Nat) : Int)) fun a hr => ?_
     have hc := plunderref5_below_ok (H := e24) (h := h)
     refine cl (wn rfl) hr hc ?_; clear hc h
     rintro _ w ⟨rfl, h⟩; refine ⟨_, rfl, fun a hr => ?_⟩
     refine o1 hr (vB r23) fun a hr => ?_
     refine ln ?_
     refine wp_ret ?_
     refine blk_ret ?_
     refine then_ret ?_
     refine end_ret1 (v := vB r23) rfl hr (by kernel_rfl) ?_
     replace H := ej1 H; subst H
     exact ⟨rfl, h.se 2 []⟩
    ·
     refine sr ?_
     refine oo [62, 61] [vB (p1.Kind == 4), vB (p1.Kind == 4)] hr fun a hr => ?_
     refine ln ?_
     refine cD hr H (fun c25 H => ?_) fun c25 H => ?_
     ·
      refine sr ?_
      refine oo [63, 64] [vB r3, vB r3] hr fun a hr => ?_
      by_cases c26 : r3 = true
      ·
       replace H := ifT c26 H
       refine onl (c26) [65] [pA b2 2] hr fun a hr => ?_
       refine ld (wgt hr (c26)) hr (vI p1.B) ((h.pick 1).cell 2 rfl) fun a hr => ?_
       refine onl (c26) [67] [pA b1 3] hr fun a hr => ?_
       refine ld (wgt hr (c26)) hr (.slice va0_Code p0.Code.length vc0_Code) (h.cell 3 rfl) fun a hr => ?_
       obtain ⟨r27, e28, H⟩ := bd1 H
       refine onl (c26) [69] [vI ((p0.Code.length : Nat) : Int)] hr fun a hr => ?_
       have hc := plunderref5_below_ok (H := e28) (h := h)
       refine cl (wgt hr (c26)) hr hc ?_; clear hc h
       rintro _ w ⟨rfl, h⟩; refine ⟨_, rfl, fun a hr => ?_⟩
       refine opv (wn rfl) hr (vB r27) (rp_t (b := r3) rfl (by kernel_rfl) (c26) (by kernel_rfl)) fun a hr => ?_
       refine o1 hr (vB r27) fun a hr => ?_
       refine ln ?_
       refine wp_ret ?_
       refine blk_ret ?_
       refine then_ret ?_
       refine end_ret1 (v := vB r27) rfl hr (by kernel_rfl) ?_
       replace H := ej1 H; subst H
       exact ⟨rfl, h.se 2 []⟩
      ·
       replace H := ifF c26 H
       refine offl (bF c26) [65, 66, 67, 68, 69, 70] hr fun a hr => ?_
       refine opv (wn rfl) hr (vB false) (rp_f (b := r3) rfl (by kernel_rfl) (bF c26) (by kernel_rfl)) fun a hr => ?_
       refine o1 hr (vB false) fun a hr => ?_
       refine ln ?_
       refine wp_ret ?_
       refine blk_ret ?_
       refine then_ret ?_
       refine end_ret1 (v := vB false) rfl hr (by kernel_rfl) ?_
       replace H := ej1 H; subst H
       exact ⟨rfl, h.se 2 []⟩
     ·
      refine sr ?_
      refine oo [73, 72] [vB (p1.Kind == 5), vB (p1.Kind == 5)] hr fun a hr => ?_
      refine ln ?_
      refine cD hr H (fun c29 H => ?_) fun c29 H => ?_
      ·
       refine sr ?_
       refine o1 hr (pA b2 1) fun a hr => ?_
       refine ld (wn rfl) hr (vI p1.A) ((h.pick 1).cell 1 rfl) fun a hr => ?_
       refine o1 hr (pA b1 2) fun a hr => ?_
       refine ld (wn rfl) hr (vI p0.Slots) (h.cell 2 rfl) fun a hr => ?_
       obtain ⟨r30, e31, H⟩ := bd1 H
       have hc := plunderref5_below_ok (H := e31) (h := h)
       refine cl (wn rfl) hr hc ?_; clear hc h
       rintro _ w ⟨rfl, h⟩; refine ⟨_, rfl, fun a hr => ?_⟩
       refine o1 hr (vB r30) fun a hr => ?_
       refine ln ?_
       refine wp_ret ?_
       refine blk_ret ?_
       refine then_ret ?_
       refine end_ret1 (v := vB r30) rfl hr (by kernel_rfl) ?_
       replace H := ej1 H; subst H
       exact ⟨rfl, h.se 2 []⟩
      ·
       refine sr ?_
       refine oo [80, 79] [vB (p1.Kind == 6), vB (p1.Kind == 6)] hr fun a hr => ?_
       refine ln ?_
       refine cD hr H (fun c32 H => ?_) fun c32 H => ?_
       ·
        refine sr ?_
        refine o1 hr (vB true) fun a hr => ?_
        refine ln ?_
        refine wp_ret ?_
        refine blk_ret ?_
        refine then_ret ?_
        refine end_ret1 (v := vB true) rfl hr (by kernel_rfl) ?_
        replace H := ej1 H; subst H
        exact ⟨rfl, h.se 2 []⟩
       ·
        refine sr ?_
        refine oo [82, 81] [vB (p1.Kind == 7), vB (p1.Kind == 7)] hr fun a hr => ?_
        refine ln ?_
        refine cD hr H (fun c33 H => ?_) fun c33 H => ?_
        ·
         refine sr ?_
         refine oo [83, 84] [vB r3, vB r3] hr fun a hr => ?_
         by_cases c34 : r3 = true
         ·
          replace H := ifT c34 H
          refine onl (c34) [85] [pA b2 2] hr fun a hr => ?_
          refine ld (wgt hr (c34)) hr (vI p1.B) ((h.pick 1).cell 2 rfl) fun a hr => ?_
          refine onl (c34) [87] [pA b1 2] hr fun a hr => ?_
          refine ld (wgt hr (c34)) hr (vI p0.Slots) (h.cell 2 rfl) fun a hr => ?_
          obtain ⟨r35, e36, H⟩ := bd1 H
          have hc := plunderref5_below_ok (H := e36) (h := h)
          refine cl (wgt hr (c34)) hr hc ?_; clear hc h
          rintro _ w ⟨rfl, h⟩; refine ⟨_, rfl, fun a hr => ?_⟩
          refine opv (wn rfl) hr (vB r35) (rp_t (b := r3) rfl (by kernel_rfl) (c34) (by kernel_rfl)) fun a hr => ?_
          refine o1 hr (vB r35) fun a hr => ?_
          refine ln ?_
          refine wp_ret ?_
          refine blk_ret ?_
          refine then_ret ?_
          refine end_ret1 (v := vB r35) rfl hr (by kernel_rfl) ?_
          replace H := ej1 H; subst H
          exact ⟨rfl, h.se 2 []⟩
         ·
          replace H := ifF c34 H
          refine offl (bF c34) [85, 86, 87, 88, 89] hr fun a hr => ?_
          refine opv (wn rfl) hr (vB false) (rp_f (b := r3) rfl (by kernel_rfl) (bF c34) (by kernel_rfl)) fun a hr => ?_
          refine o1 hr (vB false) fun a hr => ?_
          refine ln ?_
          refine wp_ret ?_
          refine blk_ret ?_
          refine then_ret ?_
          refine end_ret1 (v := vB false) rfl hr (by kernel_rfl) ?_
          replace H := ej1 H; subst H
          exact ⟨rfl, h.se 2 []⟩
        ·
         refine wp_skip ?_
         refine blk_normal ?_
         refine then_normal ?_
         refine sr ?_
         refine o1 hr (vB false) fun a hr => ?_
         refine ln ?_
         refine wp_ret ?_
         refine end_ret1 (v := vB false) rfl hr (by kernel_rfl) ?_
         replace H := ej1 H; subst H
         exact ⟨rfl, h.se 2 []⟩

/-- plunder/plunderref5.called -/
def plunderref5_called (p0 : T_api_Program) (p1 : T_api_Func) (p2 : T_api_Instr) : Option (Bool) :=
  (if p2.Kind = 5 then ob1 (plunderref5_below p2.B ((p0.Funcs.length : Nat) : Int)) (fun r5 => (if r5 = true then if inr_ p2.B p0.Funcs.length then (if (at_ p0.Funcs p2.B.toNat).Params = 0 then some true else ob1 (plunderref5_below p2.C p1.Regs) (fun r10 => (if r10 = true then some (decide ((at_ p0.Funcs p2.B.toNat).Params ≤ (wi (p1.Regs - p2.C)))) else some false))) else none else some false)) else some true)

theorem plunderref5_called_ok {z w : World} {L : List HProp} {p0 : T_api_Program} {p1 : T_api_Func} {p2 : T_api_Instr} {va0_Funcs va1_Code : Option Addr} {vc0_Funcs vc1_Code : Nat} {hs0_Funcs : Nat → Option Addr × Nat} {r0 : Bool} (H : plunderref5_called p0 p1 p2 = some r0) (h : Fit z (sepL (L)) w) (hv0_Funcs : Rd76 L va0_Funcs hs0_Funcs p0.Funcs) (hv1_Code : RdRow L 5 enc_T_api_Instr va1_Code p1.Code) :
    Calls Tryd.prog 42 #[.agg #[.slice va0_Funcs p0.Funcs.length vc0_Funcs], .agg #[vI p1.Params, vI p1.Regs, vI p1.Slots, .slice va1_Code p1.Code.length vc1_Code], ag_T_api_Instr p2] w fun e w => e = .returned (vB r0) ∧ Fit z (sepL (L)) w := by
 unfold plunderref5_called at H
 refine enter Tryd.func42 rfl 43 rfl rfl [(0, .agg #[.slice va0_Funcs p0.Funcs.length vc0_Funcs]), (1, .agg #[vI p1.Params, vI p1.Regs, vI p1.Slots, .slice va1_Code p1.Code.length vc1_Code]), (2, ag_T_api_Instr p2)] ⟨rfl, rfl, rfl, trivial⟩ ?_
 intro j a hr
 refine sr ?_
 refine onew (wn rfl) hr h nb (#[.slice va0_Funcs p0.Funcs.length vc0_Funcs]) 24 fun b1 w a h hr => ?_
 refine onew (wn rfl) hr h nb (#[vI p1.Params, vI p1.Regs, vI p1.Slots, .slice va1_Code p1.Code.length vc1_Code]) 76 fun b2 w a h hr => ?_
 refine onew (wn rfl) hr h nb (ca_T_api_Instr p2) 108 fun b3 w a h hr => ?_
 refine o1 hr (vB false) fun a hr => ?_
 refine ln ?_
 refine wp_seq ?_
 refine sr ?_
 refine o1 hr (pA b3 0) fun a hr => ?_
 refine ld (wn rfl) hr (vI p2.Kind) (h.cell 0 rfl) fun a hr => ?_
 refine o1 hr (vB (p2.Kind != 5)) fun a hr => ?_
 refine ln ?_
 refine cN hr H (fun c4 H => ?_) fun c4 H => ?_
 ·
  refine wp_skip ?_
  refine then_normal ?_
  refine wp_seq ?_
  refine sr ?_
  refine o1 hr (pA b3 2) fun a hr => ?_
  refine ld (wn rfl) hr (vI p2.B) (h.cell 2 rfl) fun a hr => ?_
  refine o1 hr (pA b1 0) fun a hr => ?_
  refine ld (wn rfl) hr (.slice va0_Funcs p0.Funcs.length vc0_Funcs) ((h.pick 2).cell 0 rfl) fun a hr => ?_
  obtain ⟨r5, e6, H⟩ := bd1 H
  refine o1 hr (vI ((p0.Funcs.length : Nat) : Int)) fun a hr => ?_
  have hc := plunderref5_below_ok (H := e6) (h := h)
  refine cl (wn rfl) hr hc ?_; clear hc h
  rintro _ w ⟨rfl, h⟩; refine ⟨_, rfl, fun a hr => ?_⟩
  refine o1 hr (vB (!r5)) fun a hr => ?_
  refine ln ?_
  refine cM hr H (fun c7 H => ?_) fun c7 H => ?_
  ·
   refine wp_skip ?_
   refine then_normal ?_
   refine sr ?_
   refine o1 hr (pA b1 0) fun a hr => ?_
   refine ld (wn rfl) hr (.slice va0_Funcs p0.Funcs.length vc0_Funcs) ((h.pick 2).cell 0 rfl) fun a hr => ?_
   refine o1 hr (pA b3 2) fun a hr => ?_
   refine ld (wn rfl) hr (vI p2.B) (h.cell 2 rfl) fun a hr => ?_
   obtain ⟨c8, H⟩ := gd H
   refine opv (wn rfl) hr (pA (blk va0_Funcs) (offs va0_Funcs + p2.B.toNat * 4)) (ri_rn (k := .i64) (E := 76) (cc := vc0_Funcs) rfl (by kernel_rfl) (by kernel_rfl) rfl (by kernel_rfl) (by kernel_rfl) hv0_Funcs c8) fun a hr => ?_
   refine o1 hr (pA (blk va0_Funcs) (offs va0_Funcs + p2.B.toNat * 4)) fun a hr => ?_
   refine ld (wn rfl) hr (vI (at_ p0.Funcs p2.B.toNat).Params) (hv0_Funcs.cell c8 (h.dn 3) 0 rfl) fun a hr => ?_
   refine o1 hr (vI (at_ p0.Funcs p2.B.toNat).Params) fun a hr => ?_
   refine ln ?_
   refine sr ?_
   refine oo [25, 26, 27] [vI (at_ p0.Funcs p2.B.toNat).Params, vB ((at_ p0.Funcs p2.B.toNat).Params == 0), vB ((at_ p0.Funcs p2.B.toNat).Params == 0)] hr fun a hr => ?_
   by_cases c9 : (at_ p0.Funcs p2.B.toNat).Params = 0
   ·
    replace H := ifT c9 H
    refine offl (beq_iff_eq.mpr c9) [28, 29, 30, 31, 32, 33] hr fun a hr => ?_
    refine offu true [34, 35, 36, 37, 38, 39, 40] hr fun a hr => ?_
    refine offl (beq_iff_eq.mpr c9) [41] hr fun a hr => ?_
    refine opv (wn rfl) hr (vB true) (rp_t (b := ((at_ p0.Funcs p2.B.toNat).Params == 0)) rfl (by kernel_rfl) (beq_iff_eq.mpr c9) (by kernel_rfl)) fun a hr => ?_
    refine o1 hr (vB true) fun a hr => ?_
    refine ln ?_
    refine wp_ret ?_
    refine end_ret1 (v := vB true) rfl hr (by kernel_rfl) ?_
    replace H := ej1 H; subst H
    exact ⟨rfl, h.se 3 []⟩
   ·
    replace H := ifF c9 H
    refine onl (beq_eq_false_iff_ne.mpr c9) [28] [pA b3 3] hr fun a hr => ?_
    refine ld (wgt hr (beq_eq_false_iff_ne.mpr c9)) hr (vI p2.C) (h.cell 3 rfl) fun a hr => ?_
    refine onl (beq_eq_false_iff_ne.mpr c9) [30] [pA b2 1] hr fun a hr => ?_
    refine ld (wgt hr (beq_eq_false_iff_ne.mpr c9)) hr (vI p1.Regs) ((h.pick 1).cell 1 rfl) fun a hr => ?_
    obtain ⟨r10, e11, H⟩ := bd1 H
    have hc := plunderref5_below_ok (H := e11) (h := h)
    refine cl (wgt hr (beq_eq_false_iff_ne.mpr c9)) hr hc ?_; clear hc h
    rintro _ w ⟨rfl, h⟩; refine ⟨_, rfl, fun a hr => ?_⟩
    refine onl (beq_eq_false_iff_ne.mpr c9) [33] [vB r10] hr fun a hr => ?_
    by_cases c12 : r10 = true
    ·
     replace H := ifT c12 H
     refine onl (c12) [34, 35] [vI (at_ p0.Funcs p2.B.toNat).Params, pA b2 1] hr fun a hr => ?_
     refine ld (wgt hr (c12)) hr (vI p1.Regs) ((h.pick 1).cell 1 rfl) fun a hr => ?_
     refine onl (c12) [37] [pA b3 3] hr fun a hr => ?_
     refine ld (wgt hr (c12)) hr (vI p2.C) (h.cell 3 rfl) fun a hr => ?_
     refine onl (c12) [39, 40] [vI (wi (p1.Regs - p2.C)), vB (decide ((at_ p0.Funcs p2.B.toNat).Params ≤ (wi (p1.Regs - p2.C))))] hr fun a hr => ?_
     refine opv (wgt hr (beq_eq_false_iff_ne.mpr c9)) hr (vB (decide ((at_ p0.Funcs p2.B.toNat).Params ≤ (wi (p1.Regs - p2.C))))) (rp_t (b := r10) rfl (by kernel_rfl) (c12) (by kernel_rfl)) fun a hr => ?_
     refine opv (wn rfl) hr (vB (decide ((at_ p0.Funcs p2.B.toNat).Params ≤ (wi (p1.Regs - p2.C))))) (rp_f (b := ((at_ p0.Funcs p2.B.toNat).Params == 0)) rfl (by kernel_rfl) (beq_eq_false_iff_ne.mpr c9) (by kernel_rfl)) fun a hr => ?_
     refine o1 hr (vB (decide ((at_ p0.Funcs p2.B.toNat).Params ≤ (wi (p1.Regs - p2.C))))) fun a hr => ?_
     refine ln ?_
     refine wp_ret ?_
     refine end_ret1 (v := vB (decide ((at_ p0.Funcs p2.B.toNat).Params ≤ (wi (p1.Regs - p2.C))))) rfl hr (by kernel_rfl) ?_
     replace H := ej1 H; subst H
     exact ⟨rfl, h.se 3 []⟩
    ·
     replace H := ifF c12 H
     refine offl (bF c12) [34, 35, 36, 37, 38, 39, 40] hr fun a hr => ?_
     refine opv (wgt hr (beq_eq_false_iff_ne.mpr c9)) hr (vB false) (rp_f (b := r10) rfl (by kernel_rfl) (bF c12) (by kernel_rfl)) fun a hr => ?_
     refine opv (wn rfl) hr (vB false) (rp_f (b := ((at_ p0.Funcs p2.B.toNat).Params == 0)) rfl (by kernel_rfl) (beq_eq_false_iff_ne.mpr c9) (by kernel_rfl)) fun a hr => ?_
     refine o1 hr (vB false) fun a hr => ?_
     refine ln ?_
     refine wp_ret ?_
     refine end_ret1 (v := vB false) rfl hr (by kernel_rfl) ?_
     replace H := ej1 H; subst H
     exact ⟨rfl, h.se 3 []⟩
  ·
   refine sr ?_
   refine o1 hr (vB false) fun a hr => ?_
   refine ln ?_
   refine wp_ret ?_
   refine then_ret ?_
   refine end_ret1 (v := vB false) rfl hr (by kernel_rfl) ?_
   replace H := ej1 H; subst H
   exact ⟨rfl, h.se 3 []⟩
 ·
  refine sr ?_
  refine o1 hr (vB true) fun a hr => ?_
  refine ln ?_
  refine wp_ret ?_
  refine then_ret ?_
  refine end_ret1 (v := vB true) rfl hr (by kernel_rfl) ?_
  replace H := ej1 H; subst H
  exact ⟨rfl, h.se 3 []⟩

/-- plunder/plunderref5.ends -/
def plunderref5_ends (p0 : T_api_Func) : Option (Bool) :=
  if inr_ (wi (((p0.Code.length : Nat) : Int) - 1)) p0.Code.length then (if (at_ p0.Code (wi (((p0.Code.length : Nat) : Int) - 1)).toNat).Kind = 3 then some true else some ((at_ p0.Code (wi (((p0.Code.length : Nat) : Int) - 1)).toNat).Kind == 9)) else none

theorem plunderref5_ends_ok {z w : World} {L : List HProp} {p0 : T_api_Func} {va0_Code : Option Addr} {vc0_Code : Nat} {r0 : Bool} (H : plunderref5_ends p0 = some r0) (h : Fit z (sepL (L)) w) (hv0_Code : RdRow L 5 enc_T_api_Instr va0_Code p0.Code) :
    Calls Tryd.prog 43 #[.agg #[vI p0.Params, vI p0.Regs, vI p0.Slots, .slice va0_Code p0.Code.length vc0_Code]] w fun e w => e = .returned (vB r0) ∧ Fit z (sepL (L)) w := by
 unfold plunderref5_ends at H
 refine enter Tryd.func43 rfl 19 rfl rfl [(0, .agg #[vI p0.Params, vI p0.Regs, vI p0.Slots, .slice va0_Code p0.Code.length vc0_Code])] ⟨rfl, trivial⟩ ?_
 intro j a hr
 refine sr ?_
 refine onew (wn rfl) hr h nb (#[vI p0.Params, vI p0.Regs, vI p0.Slots, .slice va0_Code p0.Code.length vc0_Code]) 76 fun b1 w a h hr => ?_
 refine o1 hr (vB false) fun a hr => ?_
 refine ln ?_
 refine sr ?_
 refine o1 hr (pA b1 3) fun a hr => ?_
 refine ld (wn rfl) hr (.slice va0_Code p0.Code.length vc0_Code) (h.cell 3 rfl) fun a hr => ?_
 refine o1 hr (pA b1 3) fun a hr => ?_
 refine ld (wn rfl) hr (.slice va0_Code p0.Code.length vc0_Code) (h.cell 3 rfl) fun a hr => ?_
 obtain ⟨c2, H⟩ := gd H
 refine oo [8, 9] [vI ((p0.Code.length : Nat) : Int), vI (wi (((p0.Code.length : Nat) : Int) - 1))] hr fun a hr => ?_
 refine opv (wn rfl) hr (pA (blk va0_Code) (offs va0_Code + (wi (((p0.Code.length : Nat) : Int) - 1)).toNat * 5)) (ri_rd (k := .i64) (E := 108) (cc := vc0_Code) rfl (by kernel_rfl) (by kernel_rfl) rfl (by kernel_rfl) (by kernel_rfl) hv0_Code c2) fun a hr => ?_
 refine o1 hr (pA (blk va0_Code) (offs va0_Code + (wi (((p0.Code.length : Nat) : Int) - 1)).toNat * 5)) fun a hr => ?_
 refine ld (wn rfl) hr (vI (at_ p0.Code (wi (((p0.Code.length : Nat) : Int) - 1)).toNat).Kind) (hv0_Code.cell c2 (h.dn 1) 0 rfl) fun a hr => ?_
 refine o1 hr (vI (at_ p0.Code (wi (((p0.Code.length : Nat) : Int) - 1)).toNat).Kind) fun a hr => ?_
 refine ln ?_
 refine sr ?_
 refine oo [13, 14, 15] [vI (at_ p0.Code (wi (((p0.Code.length : Nat) : Int) - 1)).toNat).Kind, vB ((at_ p0.Code (wi (((p0.Code.length : Nat) : Int) - 1)).toNat).Kind == 3), vB ((at_ p0.Code (wi (((p0.Code.length : Nat) : Int) - 1)).toNat).Kind == 3)] hr fun a hr => ?_
 by_cases c3 : (at_ p0.Code (wi (((p0.Code.length : Nat) : Int) - 1)).toNat).Kind = 3
 ·
  replace H := ifT c3 H
  refine offl (beq_iff_eq.mpr c3) [16, 17] hr fun a hr => ?_
  refine opv (wn rfl) hr (vB true) (rp_t (b := ((at_ p0.Code (wi (((p0.Code.length : Nat) : Int) - 1)).toNat).Kind == 3)) rfl (by kernel_rfl) (beq_iff_eq.mpr c3) (by kernel_rfl)) fun a hr => ?_
  refine o1 hr (vB true) fun a hr => ?_
  refine ln ?_
  refine wp_ret ?_
  refine end_ret1 (v := vB true) rfl hr (by kernel_rfl) ?_
  replace H := ej1 H; subst H
  exact ⟨rfl, h.se 1 []⟩
 ·
  replace H := ifF c3 H
  refine onl (beq_eq_false_iff_ne.mpr c3) [16, 17] [vI (at_ p0.Code (wi (((p0.Code.length : Nat) : Int) - 1)).toNat).Kind, vB ((at_ p0.Code (wi (((p0.Code.length : Nat) : Int) - 1)).toNat).Kind == 9)] hr fun a hr => ?_
  refine opv (wn rfl) hr (vB ((at_ p0.Code (wi (((p0.Code.length : Nat) : Int) - 1)).toNat).Kind == 9)) (rp_f (b := ((at_ p0.Code (wi (((p0.Code.length : Nat) : Int) - 1)).toNat).Kind == 3)) rfl (by kernel_rfl) (beq_eq_false_iff_ne.mpr c3) (by kernel_rfl)) fun a hr => ?_
  refine o1 hr (vB ((at_ p0.Code (wi (((p0.Code.length : Nat) : Int) - 1)).toNat).Kind == 9)) fun a hr => ?_
  refine ln ?_
  refine wp_ret ?_
  refine end_ret1 (v := vB ((at_ p0.Code (wi (((p0.Code.length : Nat) : Int) - 1)).toNat).Kind == 9)) rfl hr (by kernel_rfl) ?_
  replace H := ej1 H; subst H
  exact ⟨rfl, h.se 1 []⟩

def plunderref5_Sound_l1 (K : Nat) (p0 : T_api_Func) : Nat → Int → Option (Bool)
  | 0, _ => none
  | k1 + 1, g5 => (if g5 < ((p0.Code.length : Nat) : Int) then if inr_ g5 p0.Code.length then ob1 (plunderref5_alone p0 (at_ p0.Code g5.toNat)) (fun r8 => (if r8 = true then (plunderref5_Sound_l1 K p0 k1 (wi (g5 + 1))) else some false)) else none else ob1 (plunderref5_ends p0) (fun r11 => some r11))
/-- plunder/plunderref5.Sound -/
def plunderref5_Sound (K : Nat) (p0 : T_api_Func) : Option (Bool) :=
  ob1 (plunderref5_shaped p0) (fun r2 => (if r2 = true then (plunderref5_Sound_l1 K p0 K 0) else some false))

theorem plunderref5_Sound_ok {z w : World} {L : List HProp} {K : Nat} {p0 : T_api_Func} {va0_Code : Option Addr} {vc0_Code : Nat} {r0 : Bool} (H : plunderref5_Sound K p0 = some r0) (h : Fit z (sepL (L)) w) (hv0_Code : RdRow L 5 enc_T_api_Instr va0_Code p0.Code) :
    Calls Tryd.prog 59 #[.agg #[vI p0.Params, vI p0.Regs, vI p0.Slots, .slice va0_Code p0.Code.length vc0_Code]] w fun e w => e = .returned (vB r0) ∧ Fit z (sepL (L)) w := by
 unfold plunderref5_Sound at H
 refine enter Tryd.func59 rfl 26 rfl rfl [(0, .agg #[vI p0.Params, vI p0.Regs, vI p0.Slots, .slice va0_Code p0.Code.length vc0_Code])] ⟨rfl, trivial⟩ ?_
 intro j a hr
 refine sr ?_
 refine onew (wn rfl) hr h nb (#[vI p0.Params, vI p0.Regs, vI p0.Slots, .slice va0_Code p0.Code.length vc0_Code]) 76 fun b1 w a h hr => ?_
 refine o1 hr (vB false) fun a hr => ?_
 refine ln ?_
 refine wp_seq ?_
 refine sr ?_
 refine ldm (wn rfl) hr (.agg #[vI p0.Params, vI p0.Regs, vI p0.Slots, .slice va0_Code p0.Code.length vc0_Code]) (cs := [vI p0.Params, vI p0.Regs, vI p0.Slots, .slice va0_Code p0.Code.length vc0_Code]) (h.held 0 rfl) fun a hr => ?_
 obtain ⟨r2, e3, H⟩ := bd1 H
 have hc := plunderref5_shaped_ok (va0_Code := va0_Code) (vc0_Code := vc0_Code) (hv0_Code := (RdRow.up 1 hv0_Code)) (H := e3) (h := h)
 refine cl (wn rfl) hr hc ?_; clear hc h
 rintro _ w ⟨rfl, h⟩; refine ⟨_, rfl, fun a hr => ?_⟩
 refine o1 hr (vB (!r2)) fun a hr => ?_
 refine ln ?_
 refine cM hr H (fun c4 H => ?_) fun c4 H => ?_
 ·
  refine wp_skip ?_
  refine then_normal ?_
  refine wp_seq ?_
  refine sr ?_
  refine o1 hr (vI 0) fun a hr => ?_
  refine ln ?_
  refine wp_block ?_
  refine loop_rule (β := Nat) id (fun m a w => ∃ g5 : Int, (plunderref5_Sound_l1 K p0 m g5) = some r0 ∧ ∃ j, Rep 26 (lk [(1, pA b1 0), (3, vI g5)] j) a ∧ Fit z (sepL (ob76 b1 p0 va0_Code vc0_Code :: L)) w) K ⟨0, H, hr.fj h⟩ ?_
  clear h hr a H; rintro k1 a w ⟨g5, H, j, hr, h⟩
  cases k1 with
  | zero => exact absurd H (by simp [plunderref5_Sound_l1])
  | succ k1 =>
   rw [plunderref5_Sound_l1] at H
   refine wp_seq ?_
   refine sr ?_
   refine oo [8, 9] [vI g5, pA b1 3] hr fun a hr => ?_
   refine ld (wn rfl) hr (.slice va0_Code p0.Code.length vc0_Code) (h.cell 3 rfl) fun a hr => ?_
   refine oo [11, 12] [vI ((p0.Code.length : Nat) : Int), vB (decide (g5 < ((p0.Code.length : Nat) : Int)))] hr fun a hr => ?_
   refine ln ?_
   refine cD hr H (fun c6 H => ?_) fun c6 H => ?_
   ·
    refine wp_skip ?_
    refine then_normal ?_
    refine wp_seq ?_
    refine wp_block ?_
    refine wp_seq ?_
    obtain ⟨c7, H⟩ := gd H
    obtain ⟨r8, e9, H⟩ := bd1 H
    refine regL [(b1, 0, [vI p0.Params, vI p0.Regs, vI p0.Slots, .slice va0_Code p0.Code.length vc0_Code]), (b1, 3, [.slice va0_Code p0.Code.length vc0_Code]), (blk va0_Code, offs va0_Code + g5.toNat * 5, cl_T_api_Instr (at_ p0.Code g5.toNat))] [1, 4] 8 h (fun h => ⟨(h.held 0 rfl), ⟨h.cell 3 rfl, trivial⟩, ⟨hv0_Code.cell c7 (h.dn 1) 0 rfl, hv0_Code.cell c7 (h.dn 1) 1 rfl, hv0_Code.cell c7 (h.dn 1) 2 rfl, hv0_Code.cell c7 (h.dn 1) 3 rfl, hv0_Code.cell c7 (h.dn 1) 4 rfl, trivial⟩, trivial⟩) fun w h hd => ?_
    refine evs' hd 6 [(1, 16, pA b1 3), (3, 18, vI g5)] hr fun a hr => ?_
    refine elm hd 0 5 0 hr (wn rfl) rfl rfl fun a hr => ?_
    refine elx hd 1 4 2 hr (wn rfl) rfl rfl fun a hr => ?_
    refine eon hd 3 4 rfl (wn rfl) hr (pA (blk va0_Code) (offs va0_Code + g5.toNat * 5)) (hrun := fun w => ri_rd (k := .i64) (E := 108) (cc := vc0_Code) rfl (by kernel_rfl) (by kernel_rfl) rfl (by kernel_rfl) (by kernel_rfl) hv0_Code c7) fun a hr => ?_
    refine elm hd 2 2 5 hr (wn rfl) rfl rfl fun a hr => ?_
    refine eo1 6 rfl ?_
    have hc := plunderref5_alone_ok (va0_Code := va0_Code) (vc0_Code := vc0_Code) (hv0_Code := (RdRow.up 1 hv0_Code)) (H := e9) (h := h)
    refine cl (wn rfl) hr hc ?_; clear hc h
    rintro _ w ⟨rfl, h⟩; refine ⟨_, rfl, fun a hr => ?_⟩
    refine ln ?_
    refine xE ?_
    refine evs 0 7 rfl (wn rfl) hr (vB r8) fun a hr => ?_
    refine een ?_
    refine then_normal ?_
    refine sr ?_
    refine oo [22, 23] [vB r8, vB (!r8)] hr fun a hr => ?_
    refine ln ?_
    refine cM hr H (fun c10 H => ?_) fun c10 H => ?_
    ·
     refine wp_skip ?_
     refine blk_normal ?_
     refine then_normal ?_
     refine wp_region_lit ?_
     refine oo [13, 14, 3] [vI g5, vI (wi (g5 + 1)), vI (wi (g5 + 1))] hr fun a hr => ?_
     refine ln ?_
     exact ⟨_, ⟨(wi (g5 + 1)), H, hr.fj h⟩, Nat.lt_succ_self _⟩
    ·
     refine sr ?_
     refine o1 hr (vB false) fun a hr => ?_
     refine ln ?_
     refine wp_ret ?_
     refine blk_ret ?_
     refine then_ret ?_
     refine then_ret ?_
     refine blk_ret ?_
     refine then_ret ?_
     refine end_ret1 (v := vB false) rfl hr (by kernel_rfl) ?_
     replace H := ej1 H; subst H
     exact ⟨rfl, h.se 1 []⟩
   ·
    refine wp_exit ?_
    refine then_exit ?_
    refine then_exit ?_
    refine blk_here ?_
    refine then_normal ?_
    refine sr ?_
    refine ldm (wn rfl) hr (.agg #[vI p0.Params, vI p0.Regs, vI p0.Slots, .slice va0_Code p0.Code.length vc0_Code]) (cs := [vI p0.Params, vI p0.Regs, vI p0.Slots, .slice va0_Code p0.Code.length vc0_Code]) (h.held 0 rfl) fun a hr => ?_
    obtain ⟨r11, e12, H⟩ := bd1 H
    have hc := plunderref5_ends_ok (va0_Code := va0_Code) (vc0_Code := vc0_Code) (hv0_Code := (RdRow.up 1 hv0_Code)) (H := e12) (h := h)
    refine cl (wn rfl) hr hc ?_; clear hc h
    rintro _ w ⟨rfl, h⟩; refine ⟨_, rfl, fun a hr => ?_⟩
    refine o1 hr (vB r11) fun a hr => ?_
    refine ln ?_
    refine wp_ret ?_
    refine end_ret1 (v := vB r11) rfl hr (by kernel_rfl) ?_
    replace H := ej1 H; subst H
    exact ⟨rfl, h.se 1 []⟩
 ·
  refine sr ?_
  refine o1 hr (vB false) fun a hr => ?_
  refine ln ?_
  refine wp_ret ?_
  refine then_ret ?_
  refine end_ret1 (v := vB false) rfl hr (by kernel_rfl) ?_
  replace H := ej1 H; subst H
  exact ⟨rfl, h.se 1 []⟩

/-- plunder/plunderref5.After -/
def plunderref5_After (p0 : T_api_Instr) (p1 : Int) (p2 : Int) : Option (Int) :=
  (if p0.Kind = 5 then (if p0.A = p1 then some 2 else (if p0.Kind = 6 then (if p2 = 2 then some 4 else some p2) else some p2)) else (if p0.Kind = 6 then (if p2 = 2 then some 4 else some p2) else some p2))

theorem plunderref5_After_ok {z w : World} {L : List HProp} {p0 : T_api_Instr} {p1 p2 r0 : Int} (H : plunderref5_After p0 p1 p2 = some r0) (h : Fit z (sepL (L)) w)  :
    Calls Tryd.prog 72 #[ag_T_api_Instr p0, vI p1, vI p2] w fun e w => e = .returned (vI r0) ∧ Fit z (sepL (L)) w := by
 unfold plunderref5_After at H
 refine enter Tryd.func72 rfl 24 rfl rfl [(0, ag_T_api_Instr p0), (1, vI p1), (2, vI p2)] ⟨rfl, rfl, rfl, trivial⟩ ?_
 intro j a hr
 refine sr ?_
 refine onew (wn rfl) hr h nb (ca_T_api_Instr p0) 108 fun b1 w a h hr => ?_
 refine o1 hr (vI 0) fun a hr => ?_
 refine ln ?_
 refine wp_seq ?_
 refine sr ?_
 refine o1 hr (pA b1 0) fun a hr => ?_
 refine ld (wn rfl) hr (vI p0.Kind) (h.cell 0 rfl) fun a hr => ?_
 refine oo [9, 10] [vB (p0.Kind == 5), vB (p0.Kind == 5)] hr fun a hr => ?_
 by_cases c2 : p0.Kind = 5
 ·
  replace H := ifT c2 H
  refine onl (beq_iff_eq.mpr c2) [11] [pA b1 1] hr fun a hr => ?_
  refine ld (wgt hr (beq_iff_eq.mpr c2)) hr (vI p0.A) (h.cell 1 rfl) fun a hr => ?_
  refine onl (beq_iff_eq.mpr c2) [13, 14] [vI p1, vB (p0.A == p1)] hr fun a hr => ?_
  refine opv (wn rfl) hr (vB (p0.A == p1)) (rp_t (b := (p0.Kind == 5)) rfl (by kernel_rfl) (beq_iff_eq.mpr c2) (by kernel_rfl)) fun a hr => ?_
  refine ln ?_
  refine cD hr H (fun c3 H => ?_) fun c3 H => ?_
  ·
   refine sr ?_
   refine o1 hr (vI 2) fun a hr => ?_
   refine ln ?_
   refine wp_ret ?_
   refine then_ret ?_
   refine end_ret1 (v := vI 2) rfl hr (by kernel_rfl) ?_
   replace H := ej1 H; subst H
   exact ⟨rfl, h.se 1 []⟩
  ·
   refine wp_skip ?_
   refine then_normal ?_
   refine wp_seq ?_
   refine sr ?_
   refine o1 hr (pA b1 0) fun a hr => ?_
   refine ld (wn rfl) hr (vI p0.Kind) (h.cell 0 rfl) fun a hr => ?_
   refine oo [18, 19] [vB (p0.Kind == 6), vB (p0.Kind == 6)] hr fun a hr => ?_
   by_cases c4 : p0.Kind = 6
   ·
    replace H := ifT c4 H
    refine onl (beq_iff_eq.mpr c4) [20, 21] [vI p2, vB (p2 == 2)] hr fun a hr => ?_
    refine opv (wn rfl) hr (vB (p2 == 2)) (rp_t (b := (p0.Kind == 6)) rfl (by kernel_rfl) (beq_iff_eq.mpr c4) (by kernel_rfl)) fun a hr => ?_
    refine ln ?_
    refine cD hr H (fun c5 H => ?_) fun c5 H => ?_
    ·
     refine sr ?_
     refine o1 hr (vI 4) fun a hr => ?_
     refine ln ?_
     refine wp_ret ?_
     refine then_ret ?_
     refine end_ret1 (v := vI 4) rfl hr (by kernel_rfl) ?_
     replace H := ej1 H; subst H
     exact ⟨rfl, h.se 1 []⟩
    ·
     refine wp_skip ?_
     refine then_normal ?_
     refine sr ?_
     refine oo [23, 6] [vI p2, vI p2] hr fun a hr => ?_
     refine ln ?_
     refine wp_ret ?_
     refine end_ret1 (v := vI p2) rfl hr (by kernel_rfl) ?_
     replace H := ej1 H; subst H
     exact ⟨rfl, h.se 1 []⟩
   ·
    replace H := ifF c4 H
    refine offl (beq_eq_false_iff_ne.mpr c4) [20, 21] hr fun a hr => ?_
    refine opv (wn rfl) hr (vB false) (rp_f (b := (p0.Kind == 6)) rfl (by kernel_rfl) (beq_eq_false_iff_ne.mpr c4) (by kernel_rfl)) fun a hr => ?_
    refine ln ?_
    refine cond_ff hr (b := false) rfl ?_
    refine wp_skip ?_
    refine then_normal ?_
    refine sr ?_
    refine oo [23, 6] [vI p2, vI p2] hr fun a hr => ?_
    refine ln ?_
    refine wp_ret ?_
    refine end_ret1 (v := vI p2) rfl hr (by kernel_rfl) ?_
    replace H := ej1 H; subst H
    exact ⟨rfl, h.se 1 []⟩
 ·
  replace H := ifF c2 H
  refine offl (beq_eq_false_iff_ne.mpr c2) [11, 12, 13, 14] hr fun a hr => ?_
  refine opv (wn rfl) hr (vB false) (rp_f (b := (p0.Kind == 5)) rfl (by kernel_rfl) (beq_eq_false_iff_ne.mpr c2) (by kernel_rfl)) fun a hr => ?_
  refine ln ?_
  refine cond_ff hr (b := false) rfl ?_
  refine wp_skip ?_
  refine then_normal ?_
  refine wp_seq ?_
  refine sr ?_
  refine o1 hr (pA b1 0) fun a hr => ?_
  refine ld (wn rfl) hr (vI p0.Kind) (h.cell 0 rfl) fun a hr => ?_
  refine oo [18, 19] [vB (p0.Kind == 6), vB (p0.Kind == 6)] hr fun a hr => ?_
  by_cases c6 : p0.Kind = 6
  ·
   replace H := ifT c6 H
   refine onl (beq_iff_eq.mpr c6) [20, 21] [vI p2, vB (p2 == 2)] hr fun a hr => ?_
   refine opv (wn rfl) hr (vB (p2 == 2)) (rp_t (b := (p0.Kind == 6)) rfl (by kernel_rfl) (beq_iff_eq.mpr c6) (by kernel_rfl)) fun a hr => ?_
   refine ln ?_
   refine cD hr H (fun c7 H => ?_) fun c7 H => ?_
   ·
    refine sr ?_
    refine o1 hr (vI 4) fun a hr => ?_
    refine ln ?_
    refine wp_ret ?_
    refine then_ret ?_
    refine end_ret1 (v := vI 4) rfl hr (by kernel_rfl) ?_
    replace H := ej1 H; subst H
    exact ⟨rfl, h.se 1 []⟩
   ·
    refine wp_skip ?_
    refine then_normal ?_
    refine sr ?_
    refine oo [23, 6] [vI p2, vI p2] hr fun a hr => ?_
    refine ln ?_
    refine wp_ret ?_
    refine end_ret1 (v := vI p2) rfl hr (by kernel_rfl) ?_
    replace H := ej1 H; subst H
    exact ⟨rfl, h.se 1 []⟩
  ·
   replace H := ifF c6 H
   refine offl (beq_eq_false_iff_ne.mpr c6) [20, 21] hr fun a hr => ?_
   refine opv (wn rfl) hr (vB false) (rp_f (b := (p0.Kind == 6)) rfl (by kernel_rfl) (beq_eq_false_iff_ne.mpr c6) (by kernel_rfl)) fun a hr => ?_
   refine ln ?_
   refine cond_ff hr (b := false) rfl ?_
   refine wp_skip ?_
   refine then_normal ?_
   refine sr ?_
   refine oo [23, 6] [vI p2, vI p2] hr fun a hr => ?_
   refine ln ?_
   refine wp_ret ?_
   refine end_ret1 (v := vI p2) rfl hr (by kernel_rfl) ?_
   replace H := ej1 H; subst H
   exact ⟨rfl, h.se 1 []⟩

/-- plunder/plunderref5.Nexts -/
def plunderref5_Nexts (p0 : T_api_Func) (p1 : Int) : Option ((List Int)) :=
  if inr_ p1 p0.Code.length then (if (at_ p0.Code p1.toNat).Kind = 3 then some ([(at_ p0.Code p1.toNat).A]) else (if (at_ p0.Code p1.toNat).Kind = 9 then some ([] : List Int) else (if (at_ p0.Code p1.toNat).Kind = 4 then some ([wi (p1 + 1), (at_ p0.Code p1.toNat).B]) else some ([wi (p1 + 1)])))) else none

theorem plunderref5_Nexts_ok {z w : World} {L : List HProp} {p0 : T_api_Func} {p1 : Int} {va0_Code : Option Addr} {vc0_Code : Nat} {r0 : List Int} (H : plunderref5_Nexts p0 p1 = some r0) (h : Fit z (sepL (L)) w) (hv0_Code : RdRow L 5 enc_T_api_Instr va0_Code p0.Code) :
    Calls Tryd.prog 73 #[.agg #[vI p0.Params, vI p0.Regs, vI p0.Slots, .slice va0_Code p0.Code.length vc0_Code], vI p1] w fun e w => ∃ car0_1 ccr0_2, e = .returned (.slice car0_1 r0.length ccr0_2) ∧ Fit z (sepL (ro3 car0_1 ccr0_2 r0 :: L)) w := by
 unfold plunderref5_Nexts at H
 refine enter Tryd.func73 rfl 30 rfl rfl [(0, .agg #[vI p0.Params, vI p0.Regs, vI p0.Slots, .slice va0_Code p0.Code.length vc0_Code]), (1, vI p1)] ⟨rfl, rfl, trivial⟩ ?_
 intro j a hr
 refine sr ?_
 refine onew (wn rfl) hr h nb (#[vI p0.Params, vI p0.Regs, vI p0.Slots, .slice va0_Code p0.Code.length vc0_Code]) 76 fun b1 w a h hr => ?_
 refine o1 hr (.slice none 0 0) fun a hr => ?_
 refine ln ?_
 refine sr ?_
 refine o1 hr (pA b1 3) fun a hr => ?_
 refine ld (wn rfl) hr (.slice va0_Code p0.Code.length vc0_Code) (h.cell 3 rfl) fun a hr => ?_
 obtain ⟨c2, H⟩ := gd H
 refine o1 hr (vI p1) fun a hr => ?_
 refine opv (wn rfl) hr (pA (blk va0_Code) (offs va0_Code + p1.toNat * 5)) (ri_rd (k := .i64) (E := 108) (cc := vc0_Code) rfl (by kernel_rfl) (by kernel_rfl) rfl (by kernel_rfl) (by kernel_rfl) hv0_Code c2) fun a hr => ?_
 refine ldm (wn rfl) hr (ag_T_api_Instr (at_ p0.Code p1.toNat)) (cs := cl_T_api_Instr (at_ p0.Code p1.toNat)) ⟨hv0_Code.cell c2 (h.dn 1) 0 rfl, hv0_Code.cell c2 (h.dn 1) 1 rfl, hv0_Code.cell c2 (h.dn 1) 2 rfl, hv0_Code.cell c2 (h.dn 1) 3 rfl, hv0_Code.cell c2 (h.dn 1) 4 rfl, trivial⟩ fun a hr => ?_
 refine onew (wn rfl) hr h nb (#[vI 0, vI 0, vI 0, vI 0, vI 0]) 108 fun b3 w a h hr => ?_
 refine stm (wn rfl) hr h 0 (cl_T_api_Instr (at_ p0.Code p1.toNat)) (ob108 b3 (at_ p0.Code p1.toNat)) fun w h => ?_
 refine ln ?_
 refine wp_seq ?_
 refine sr ?_
 refine o1 hr (pA b3 0) fun a hr => ?_
 refine ld (wn rfl) hr (vI (at_ p0.Code p1.toNat).Kind) (h.cell 0 rfl) fun a hr => ?_
 refine ln ?_
 refine wp_block ?_
 refine sr ?_
 refine oo [14, 13] [vB ((at_ p0.Code p1.toNat).Kind == 3), vB ((at_ p0.Code p1.toNat).Kind == 3)] hr fun a hr => ?_
 refine ln ?_
 refine cD hr H (fun c4 H => ?_) fun c4 H => ?_
 ·
  refine sr ?_
  refine o1 hr (pA b3 1) fun a hr => ?_
  refine ld (wn rfl) hr (vI (at_ p0.Code p1.toNat).A) (h.cell 1 rfl) fun a hr => ?_
  refine onew (wn rfl) hr h (fun b => .slice (some ⟨b, 0, none⟩) 1 1) (#[vI (at_ p0.Code p1.toNat).A]) 3 fun b5 w a h hr => ?_
  replace h := Fit.pts_row (n := 1) (l := [(at_ p0.Code p1.toNat).A]) (by rfl) (by rfl) encZ_i64_ok (by decide) h
  refine o1 hr (.slice (some ⟨b5, 0, none⟩) 1 1) fun a hr => ?_
  refine ln ?_
  refine wp_ret ?_
  refine blk_ret ?_
  refine then_ret ?_
  refine end_ret1 (v := .slice (some ⟨b5, 0, none⟩) 1 1) rfl hr (by kernel_rfl) ?_
  have hn5 : 1 = ([(at_ p0.Code p1.toNat).A]).length := h.row_n; replace h := Fit.ren0 hn5 (fun q_ => rowOf 3 1 encZ_i64 (.slice (some ⟨b5, 0, none⟩) q_ 1) ([(at_ p0.Code p1.toNat).A])) h
  replace H := ej1 H; subst H
  exact ⟨(some ⟨b5, 0, none⟩), 1, (by first | rfl | simp only [hn5]), h.se 3 [0]⟩
 ·
  refine sr ?_
  refine oo [19, 18] [vB ((at_ p0.Code p1.toNat).Kind == 9), vB ((at_ p0.Code p1.toNat).Kind == 9)] hr fun a hr => ?_
  refine ln ?_
  refine cD hr H (fun c7 H => ?_) fun c7 H => ?_
  ·
   refine sr ?_
   refine o1 hr (.slice none 0 0) fun a hr => ?_
   refine ln ?_
   refine wp_ret ?_
   refine blk_ret ?_
   refine then_ret ?_
   refine end_ret1 (v := .slice none 0 0) rfl hr (by kernel_rfl) ?_
   replace h := h.row_nil (e := 3) (sz := 1) (enc := encZ_i64)
   replace H := ej1 H; subst H
   exact ⟨none, 0, rfl, h.se 3 [0]⟩
  ·
   refine sr ?_
   refine oo [21, 20] [vB ((at_ p0.Code p1.toNat).Kind == 4), vB ((at_ p0.Code p1.toNat).Kind == 4)] hr fun a hr => ?_
   refine ln ?_
   refine cD hr H (fun c8 H => ?_) fun c8 H => ?_
   ·
    refine sr ?_
    refine oo [22, 23, 24] [vI p1, vI (wi (p1 + 1)), pA b3 2] hr fun a hr => ?_
    refine ld (wn rfl) hr (vI (at_ p0.Code p1.toNat).B) (h.cell 2 rfl) fun a hr => ?_
    refine onew (wn rfl) hr h (fun b => .slice (some ⟨b, 0, none⟩) 2 2) (#[vI (wi (p1 + 1)), vI (at_ p0.Code p1.toNat).B]) 3 fun b9 w a h hr => ?_
    replace h := Fit.pts_row (n := 2) (l := [wi (p1 + 1), (at_ p0.Code p1.toNat).B]) (by rfl) (by rfl) encZ_i64_ok (by decide) h
    refine o1 hr (.slice (some ⟨b9, 0, none⟩) 2 2) fun a hr => ?_
    refine ln ?_
    refine wp_ret ?_
    refine blk_ret ?_
    refine then_ret ?_
    refine end_ret1 (v := .slice (some ⟨b9, 0, none⟩) 2 2) rfl hr (by kernel_rfl) ?_
    have hn9 : 2 = ([wi (p1 + 1), (at_ p0.Code p1.toNat).B]).length := h.row_n; replace h := Fit.ren0 hn9 (fun q_ => rowOf 3 1 encZ_i64 (.slice (some ⟨b9, 0, none⟩) q_ 2) ([wi (p1 + 1), (at_ p0.Code p1.toNat).B])) h
    replace H := ej1 H; subst H
    exact ⟨(some ⟨b9, 0, none⟩), 2, (by first | rfl | simp only [hn9]), h.se 3 [0]⟩
   ·
    refine wp_skip ?_
    refine blk_normal ?_
    refine then_normal ?_
    refine sr ?_
    refine oo [27, 28] [vI p1, vI (wi (p1 + 1))] hr fun a hr => ?_
    refine onew (wn rfl) hr h (fun b => .slice (some ⟨b, 0, none⟩) 1 1) (#[vI (wi (p1 + 1))]) 3 fun b11 w a h hr => ?_
    replace h := Fit.pts_row (n := 1) (l := [wi (p1 + 1)]) (by rfl) (by rfl) encZ_i64_ok (by decide) h
    refine o1 hr (.slice (some ⟨b11, 0, none⟩) 1 1) fun a hr => ?_
    refine ln ?_
    refine wp_ret ?_
    refine end_ret1 (v := .slice (some ⟨b11, 0, none⟩) 1 1) rfl hr (by kernel_rfl) ?_
    have hn11 : 1 = ([wi (p1 + 1)]).length := h.row_n; replace h := Fit.ren0 hn11 (fun q_ => rowOf 3 1 encZ_i64 (.slice (some ⟨b11, 0, none⟩) q_ 1) ([wi (p1 + 1)])) h
    replace H := ej1 H; subst H
    exact ⟨(some ⟨b11, 0, none⟩), 1, (by first | rfl | simp only [hn11]), h.se 3 [0]⟩

def plunderref5_slotStates_l2 (K : Nat) (r34 : Int) (r36 : List Int) : Nat → (List Int) → (List Int) → (List Int) → Int → Option ((List Int) × (List Int) × (List Int))
  | 0, _, _, _, _ => none
  | k2 + 1, l40, l43, l46, g47 => (if g47 < ((r36.length : Nat) : Int) then if inr_ g47 r36.length then if inr_ (at_ r36 g47.toNat) l40.length then (if (band (at_ l40 (at_ r36 g47.toNat).toNat) r34) = 0 then if (l43.length + 1) * 8 ≤ 140737488355328 then if (l46.length + 1) * 8 ≤ 140737488355328 then (plunderref5_slotStates_l2 K r34 r36 k2 (l40.set (at_ r36 g47.toNat).toNat (wi ((at_ l40 (at_ r36 g47.toNat).toNat) + r34))) (l43 ++ [(at_ r36 g47.toNat)]) (l46 ++ [r34]) (wi (g47 + 1))) else none else none else (plunderref5_slotStates_l2 K r34 r36 k2 l40 l43 l46 (wi (g47 + 1)))) else none else none else some (l40, l43, l46))
def plunderref5_slotStates_l1 (K : Nat) (p0 : T_api_Func) (p1 : Int) : Nat → (List Int) → (List Int) → (List Int) → Int → Option ((List Int))
  | 0, _, _, _, _ => none
  | k1 + 1, l9, l12, l15, g16 => (if g16 < ((l12.length : Nat) : Int) then ob3 (if inr_ g16 l12.length then if inr_ (at_ l12 g16.toNat) p0.Code.length then if inr_ g16 l15.length then ob1 (plunderref5_After (at_ p0.Code (at_ l12 g16.toNat).toNat) p1 (at_ l15 g16.toNat)) (fun r34 => ob1 (plunderref5_Nexts p0 (at_ l12 g16.toNat)) (fun r36 => (plunderref5_slotStates_l2 K r34 r36 K l9 l12 l15 0))) else none else none else none) (fun l21 l24 l27 => (plunderref5_slotStates_l1 K p0 p1 k1 l21 l24 l27 (wi (g16 + 1)))) else some l9)
/-- plunder/plunderref5.slotStates -/
def plunderref5_slotStates (K : Nat) (p0 : T_api_Func) (p1 : Int) : Option ((List Int)) :=
  if 0 ≤ ((p0.Code.length : Nat) : Int) ∧ ((p0.Code.length : Nat) : Int) * 8 ≤ 140737488355328 then if inr_ (0 : Int) (List.replicate p0.Code.length (0 : Int)).length then (plunderref5_slotStates_l1 K p0 p1 K ((List.replicate p0.Code.length (0 : Int)).set 0 1) ([0]) ([1]) 0) else none else none

theorem plunderref5_slotStates_ok {z w : World} {L : List HProp} {K : Nat} {p0 : T_api_Func} {p1 : Int} {va0_Code : Option Addr} {vc0_Code : Nat} {r0 : List Int} (H : plunderref5_slotStates K p0 p1 = some r0) (h : Fit z (sepL (L)) w) (hv0_Code : RdRow L 5 enc_T_api_Instr va0_Code p0.Code) :
    Calls Tryd.prog 60 #[.agg #[vI p0.Params, vI p0.Regs, vI p0.Slots, .slice va0_Code p0.Code.length vc0_Code], vI p1] w fun e w => ∃ car0_1 ccr0_2, e = .returned (.slice car0_1 r0.length ccr0_2) ∧ Fit z (sepL (ro3 car0_1 ccr0_2 r0 :: L)) w := by
 unfold plunderref5_slotStates at H
 refine enter Tryd.func60 rfl 91 rfl rfl [(0, .agg #[vI p0.Params, vI p0.Regs, vI p0.Slots, .slice va0_Code p0.Code.length vc0_Code]), (1, vI p1)] ⟨rfl, rfl, trivial⟩ ?_
 intro j a hr
 refine sr ?_
 refine onew (wn rfl) hr h nb (#[vI p0.Params, vI p0.Regs, vI p0.Slots, .slice va0_Code p0.Code.length vc0_Code]) 76 fun b1 w a h hr => ?_
 refine o1 hr (.slice none 0 0) fun a hr => ?_
 refine ln ?_
 refine sr ?_
 refine o1 hr (pA b1 3) fun a hr => ?_
 refine ld (wn rfl) hr (.slice va0_Code p0.Code.length vc0_Code) (h.cell 3 rfl) fun a hr => ?_
 obtain ⟨c2, H⟩ := gd H
 refine o1 hr (vI ((p0.Code.length : Nat) : Int)) fun a hr => ?_
 refine op_make_row (i := ((p0.Code.length : Nat) : Int)) (bytes := 8) (zc := #[vI 0]) (0 : Int) (wn rfl) rfl rfl hr rfl (by kernel_rfl) (by kernel_rfl) c2 encZ_i64_ok (E := 3) (by kernel_rfl) (by kernel_rfl) rfl rfl h fun ca3 w a h hr => ?_
 refine o1 hr (.slice ca3 (List.replicate p0.Code.length (0 : Int)).length p0.Code.length) fun a hr => ?_
 refine ln ?_
 refine sr ?_
 refine onew (wn rfl) hr h (fun b => .slice (some ⟨b, 0, none⟩) 1 1) (#[vI 0]) 3 fun b4 w a h hr => ?_
 replace h := Fit.pts_row (n := 1) (l := [0]) (by rfl) (by rfl) encZ_i64_ok (by decide) h
 refine o1 hr (.slice (some ⟨b4, 0, none⟩) 1 1) fun a hr => ?_
 refine ln ?_
 refine sr ?_
 refine onew (wn rfl) hr h (fun b => .slice (some ⟨b, 0, none⟩) 1 1) (#[vI 1]) 3 fun b5 w a h hr => ?_
 replace h := Fit.pts_row (n := 1) (l := [1]) (by rfl) (by rfl) encZ_i64_ok (by decide) h
 refine o1 hr (.slice (some ⟨b5, 0, none⟩) 1 1) fun a hr => ?_
 refine ln ?_
 refine sr ?_
 obtain ⟨c6, H⟩ := gd H
 refine o1 hr (.slice ca3 (List.replicate p0.Code.length (0 : Int)).length p0.Code.length) fun a hr => ?_
 refine opv (wn rfl) hr (pA (blk ca3) (0 * 1)) (ri_row (i := (0 : Int)) (k := .i64) (E := 3) rfl (by kernel_rfl) (by kernel_rfl) (by kernel_rfl) (by kernel_rfl) (h.pick 2) c6) fun a hr => ?_
 replace h := h.m2
 refine stor (wn rfl) hr encZ_i64_ok h 0 0 (vI 1) (at_ (List.replicate p0.Code.length (0 : Int)) 0) 1 (at_ok c6) fun w h => ?_
 refine ln ?_
 refine wp_seq ?_
 refine sr ?_
 refine o1 hr (vI 0) fun a hr => ?_
 refine ln ?_
 refine wp_block ?_
 have hn16 : (List.replicate p0.Code.length (0 : Int)).length = ((List.replicate p0.Code.length (0 : Int)).set 0 1).length := h.row_n; replace h := Fit.ren0 hn16 (fun q_ => rowOf 3 1 encZ_i64 (.slice ca3 q_ p0.Code.length) ((List.replicate p0.Code.length (0 : Int)).set 0 1)) h
 replace hr := hr.re 5 (congrArg (fun q_ => Value.slice ca3 q_ p0.Code.length) hn16)
 replace h := h.m2
 have hn17 : 1 = ([0]).length := h.row_n; replace h := Fit.ren0 hn17 (fun q_ => rowOf 3 1 encZ_i64 (.slice (some ⟨b4, 0, none⟩) q_ 1) ([0])) h
 replace hr := hr.re 6 (congrArg (fun q_ => Value.slice (some ⟨b4, 0, none⟩) q_ 1) hn17)
 replace h := h.m2
 have hn18 : 1 = ([1]).length := h.row_n; replace h := Fit.ren0 hn18 (fun q_ => rowOf 3 1 encZ_i64 (.slice (some ⟨b5, 0, none⟩) q_ 1) ([1])) h
 replace hr := hr.re 7 (congrArg (fun q_ => Value.slice (some ⟨b5, 0, none⟩) q_ 1) hn18)
 refine loop_rule (β := Nat) id (fun m a w => ∃ ca7 : Option Addr, ∃ cc8 : Nat, ∃ ca10 : Option Addr, ∃ cc11 : Nat, ∃ ca13 : Option Addr, ∃ cc14 : Nat, ∃ l9 : List Int, ∃ l12 : List Int, ∃ l15 : List Int, ∃ g16 : Int, (plunderref5_slotStates_l1 K p0 p1 m l9 l12 l15 g16) = some r0 ∧ ∃ j, Rep 91 (lk [(1, vI p1), (2, pA b1 0), (5, .slice ca7 l9.length cc8), (6, .slice ca10 l12.length cc11), (7, .slice ca13 l15.length cc14), (8, vI g16)] j) a ∧ Fit z (sepL (ob76 b1 p0 va0_Code vc0_Code :: ro3 ca7 cc8 l9 :: ro3 ca10 cc11 l12 :: ro3 ca13 cc14 l15 :: L)) w) K ⟨ca3, p0.Code.length, (some ⟨b4, 0, none⟩), 1, (some ⟨b5, 0, none⟩), 1, ((List.replicate p0.Code.length (0 : Int)).set 0 1), [0], [1], 0, H, hr.fj (h.se 4 [3, 2, 1, 0])⟩ ?_
 clear h hr a H; rintro k1 a w ⟨ca7, cc8, ca10, cc11, ca13, cc14, l9, l12, l15, g16, H, j, hr, h⟩
 cases k1 with
 | zero => exact absurd H (by simp [plunderref5_slotStates_l1])
 | succ k1 =>
  rw [plunderref5_slotStates_l1] at H
  refine wp_seq ?_
  refine sr ?_
  refine oo [21, 22, 23, 24] [vI g16, .slice ca10 l12.length cc11, vI ((l12.length : Nat) : Int), vB (decide (g16 < ((l12.length : Nat) : Int)))] hr fun a hr => ?_
  refine ln ?_
  refine cD hr H (fun c20 H => ?_) fun c20 H => ?_
  ·
   refine wp_skip ?_
   refine then_normal ?_
   obtain ⟨o29, H, hK28⟩ := kd3 H
   refine cut_rule (β := Unit) (fun _ a w => ∃ ca22 : Option Addr, ∃ cc23 : Nat, ∃ ca25 : Option Addr, ∃ cc26 : Nat, ∃ l21 : List Int, ∃ l24 : List Int, ∃ l27 : List Int, (l21, l24, l27) = o29 ∧ ∃ j, Rep 91 (lk [(1, vI p1), (2, pA b1 0), (5, .slice ca7 l9.length cc8), (6, .slice ca22 l24.length cc23), (7, .slice ca25 l27.length cc26), (8, vI g16)] j) a ∧ Fit z (sepL (ob76 b1 p0 va0_Code vc0_Code :: rowOf 3 1 encZ_i64 (.slice ca7 l9.length cc8) l21 :: ro3 ca22 cc23 l24 :: ro3 ca25 cc26 l27 :: L)) w) ?_ ?_
   ·
    refine wp_block ?_
    refine wp_seq ?_
    obtain ⟨c30, H⟩ := gd H
    obtain ⟨c31, H⟩ := gd H
    refine regL [(b1, 3, [.slice va0_Code p0.Code.length vc0_Code]), (blk ca10, g16.toNat * 1, [vI (at_ l12 g16.toNat)]), (blk va0_Code, offs va0_Code + (at_ l12 g16.toNat).toNat * 5, cl_T_api_Instr (at_ p0.Code (at_ l12 g16.toNat).toNat))] [0, 4, 6] 10 h (fun h => ⟨⟨h.cell 3 rfl, trivial⟩, ⟨(h.pick 2).row_cell encZ_i64_ok (f := 0) (at_ok c30) rfl, trivial⟩, ⟨hv0_Code.cell c31 (h.dn 4) 0 rfl, hv0_Code.cell c31 (h.dn 4) 1 rfl, hv0_Code.cell c31 (h.dn 4) 2 rfl, hv0_Code.cell c31 (h.dn 4) 3 rfl, hv0_Code.cell c31 (h.dn 4) 4 rfl, trivial⟩, trivial⟩) fun w h hd => ?_
    refine evs' hd 7 [(0, 27, pA b1 3), (2, 29, .slice ca10 l12.length cc11), (3, 30, vI g16)] hr fun a hr => ?_
    refine eon hd 6 4 rfl (wn rfl) hr (pA (blk ca10) (g16.toNat * 1)) (hrun := fun w => ri_row (k := .i64) (E := 3) rfl (by kernel_rfl) (by kernel_rfl) (by kernel_rfl) (by kernel_rfl) (h.pick 2) c30) fun a hr => ?_
    refine elx hd 0 5 1 hr (wn rfl) rfl rfl fun a hr => ?_
    refine elx hd 1 4 5 hr (wn rfl) rfl rfl fun a hr => ?_
    refine eon hd 3 6 rfl (wn rfl) hr (pA (blk va0_Code) (offs va0_Code + (at_ l12 g16.toNat).toNat * 5)) (hrun := fun w => ri_rd (k := .i64) (E := 108) (cc := vc0_Code) rfl (by kernel_rfl) (by kernel_rfl) rfl (by kernel_rfl) (by kernel_rfl) hv0_Code c31) fun a hr => ?_
    refine elm hd 2 2 7 hr (wn rfl) rfl rfl fun a hr => ?_
    refine eo1 8 rfl ?_
    refine onew (wn rfl) hr h nb (#[vI 0, vI 0, vI 0, vI 0, vI 0]) 108 fun b32 w a h hr => ?_
    refine ln ?_
    refine xE ?_
    refine eo1 9 rfl ?_
    refine stm (wn rfl) hr h 0 (cl_T_api_Instr (at_ p0.Code (at_ l12 g16.toNat).toNat)) (ob108 b32 (at_ p0.Code (at_ l12 g16.toNat).toNat)) fun w h => ?_
    refine ln ?_
    refine xE ?_
    refine een ?_
    refine then_normal ?_
    refine wp_seq ?_
    obtain ⟨c33, H⟩ := gd H
    obtain ⟨r34, e35, H⟩ := bd1 H
    refine regL [(b32, 0, cl_T_api_Instr (at_ p0.Code (at_ l12 g16.toNat).toNat)), (blk ca13, g16.toNat * 1, [vI (at_ l15 g16.toNat)])] [4] 8 h (fun h => ⟨(h.held 0 rfl), ⟨(h.pick 4).row_cell encZ_i64_ok (f := 0) (at_ok c33) rfl, trivial⟩, trivial⟩) fun w h hd => ?_
    refine evs' hd 5 [(1, 36, vI p1), (2, 37, .slice ca13 l15.length cc14), (3, 38, vI g16)] hr fun a hr => ?_
    refine eon hd 4 4 rfl (wn rfl) hr (pA (blk ca13) (g16.toNat * 1)) (hrun := fun w => ri_row (k := .i64) (E := 3) rfl (by kernel_rfl) (by kernel_rfl) (by kernel_rfl) (by kernel_rfl) (h.pick 4) c33) fun a hr => ?_
    refine elm hd 0 3 0 hr (wn rfl) rfl rfl fun a hr => ?_
    refine elx hd 1 2 5 hr (wn rfl) rfl rfl fun a hr => ?_
    refine eo1 6 rfl ?_
    have hc := plunderref5_After_ok (H := e35) (h := h)
    refine cl (wn rfl) hr hc ?_; clear hc h
    rintro _ w ⟨rfl, h⟩; refine ⟨_, rfl, fun a hr => ?_⟩
    refine ln ?_
    refine xE ?_
    refine evs 0 7 rfl (wn rfl) hr (vI r34) fun a hr => ?_
    refine een ?_
    refine then_normal ?_
    refine wp_seq ?_
    obtain ⟨r36, e37, H⟩ := bd1 H
    refine regL [(b1, 0, [vI p0.Params, vI p0.Regs, vI p0.Slots, .slice va0_Code p0.Code.length vc0_Code]), (blk ca10, g16.toNat * 1, [vI (at_ l12 g16.toNat)])] [3] 7 h (fun h => ⟨((h.pick 1).held 0 rfl), ⟨(h.pick 3).row_cell encZ_i64_ok (f := 0) (at_ok c30) rfl, trivial⟩, trivial⟩) fun w h hd => ?_
    refine evs' hd 5 [(1, 43, .slice ca10 l12.length cc11), (2, 44, vI g16)] hr fun a hr => ?_
    refine eon hd 4 3 rfl (wn rfl) hr (pA (blk ca10) (g16.toNat * 1)) (hrun := fun w => ri_row (k := .i64) (E := 3) rfl (by kernel_rfl) (by kernel_rfl) (by kernel_rfl) (by kernel_rfl) (h.pick 3) c30) fun a hr => ?_
    refine elm hd 0 3 0 hr (wn rfl) rfl rfl fun a hr => ?_
    refine elx hd 1 2 4 hr (wn rfl) rfl rfl fun a hr => ?_
    refine eo1 5 rfl ?_
    have hc := plunderref5_Nexts_ok (va0_Code := va0_Code) (vc0_Code := vc0_Code) (hv0_Code := (RdRow.up 5 hv0_Code)) (H := e37) (h := h)
    refine cl (wn rfl) hr hc ?_; clear hc h
    rintro _ w ⟨car38, ccr39, rfl, h⟩; refine ⟨_, rfl, fun a hr => ?_⟩
    refine ln ?_
    refine xE ?_
    refine evs 0 6 rfl (wn rfl) hr (.slice car38 r36.length ccr39) fun a hr => ?_
    refine een ?_
    refine then_normal ?_
    refine sr ?_
    refine o1 hr (vI 0) fun a hr => ?_
    refine ln ?_
    refine wp_block ?_
    refine loop_rule (β := Nat) id (fun m a w => ∃ ca41 : Option Addr, ∃ cc42 : Nat, ∃ ca44 : Option Addr, ∃ cc45 : Nat, ∃ l40 : List Int, ∃ l43 : List Int, ∃ l46 : List Int, ∃ g47 : Int, (plunderref5_slotStates_l2 K r34 r36 m l40 l43 l46 g47) = some o29 ∧ ∃ j, Rep 91 (lk [(1, vI p1), (2, pA b1 0), (5, .slice ca7 l9.length cc8), (6, .slice ca41 l43.length cc42), (7, .slice ca44 l46.length cc45), (8, vI g16), (10, vI r34), (11, .slice car38 r36.length ccr39), (12, vI g47)] j) a ∧ Fit z (sepL (ob76 b1 p0 va0_Code vc0_Code :: rowOf 3 1 encZ_i64 (.slice ca7 l9.length cc8) l40 :: ro3 ca41 cc42 l43 :: ro3 ca44 cc45 l46 :: ro3 car38 ccr39 r36 :: L)) w) K ⟨ca10, cc11, ca13, cc14, l9, l12, l15, 0, H, hr.fj (h.se 6 [2, 3, 4, 5, 0])⟩ ?_
    clear h hr a H; rintro k2 a w ⟨ca41, cc42, ca44, cc45, l40, l43, l46, g47, H, j, hr, h⟩
    cases k2 with
    | zero => exact absurd H (by simp [plunderref5_slotStates_l2])
    | succ k2 =>
     rw [plunderref5_slotStates_l2] at H
     refine wp_seq ?_
     refine sr ?_
     refine oo [48, 49, 50, 51] [vI g47, .slice car38 r36.length ccr39, vI ((r36.length : Nat) : Int), vB (decide (g47 < ((r36.length : Nat) : Int)))] hr fun a hr => ?_
     refine ln ?_
     refine cD hr H (fun c48 H => ?_) fun c48 H => ?_
     ·
      refine wp_skip ?_
      refine then_normal ?_
      refine wp_seq ?_
      refine wp_block ?_
      refine sr ?_
      obtain ⟨c49, H⟩ := gd H
      refine oo [54, 55, 56] [.slice ca7 l9.length cc8, .slice car38 r36.length ccr39, vI g47] hr fun a hr => ?_
      refine opv (wn rfl) hr (pA (blk car38) (g47.toNat * 1)) (ri_row (k := .i64) (E := 3) rfl (by kernel_rfl) (by kernel_rfl) (by kernel_rfl) (by kernel_rfl) (h.pick 4) c49) fun a hr => ?_
      refine ld (wn rfl) hr (vI (at_ r36 g47.toNat)) ((h.pick 4).row_cell encZ_i64_ok (f := 0) (at_ok c49) rfl) fun a hr => ?_
      obtain ⟨c50, H⟩ := gd H
      refine opv (wn rfl) hr (pA (blk ca7) ((at_ r36 g47.toNat).toNat * 1)) (ri_row (k := .i64) (E := 3) rfl (by kernel_rfl) (by kernel_rfl) (by kernel_rfl) (by kernel_rfl) (h.pick 1) c50) fun a hr => ?_
      refine ld (wn rfl) hr (vI (at_ l40 (at_ r36 g47.toNat).toNat)) ((h.pick 1).row_cell encZ_i64_ok (f := 0) (at_ok c50) rfl) fun a hr => ?_
      refine o1 hr (vI r34) fun a hr => ?_
      refine opv (wn rfl) hr (vI (band (at_ l40 (at_ r36 g47.toNat).toNat) r34)) (rand rfl (by kernel_rfl) (by kernel_rfl)) fun a hr => ?_
      refine o1 hr (vB ((band (at_ l40 (at_ r36 g47.toNat).toNat) r34) == 0)) fun a hr => ?_
      refine ln ?_
      refine cD hr H (fun c51 H => ?_) fun c51 H => ?_
      ·
       refine wp_seq ?_
       refine regL [(blk car38, g47.toNat * 1, [vI (at_ r36 g47.toNat)]), (blk car38, g47.toNat * 1, [vI (at_ r36 g47.toNat)]), (blk ca7, (at_ r36 g47.toNat).toNat * 1, [vI (at_ l40 (at_ r36 g47.toNat).toNat)])] [3, 8, 10, 13] 16 h (fun h => ⟨⟨(h.pick 4).row_cell encZ_i64_ok (f := 0) (at_ok c49) rfl, trivial⟩, ⟨(h.pick 4).row_cell encZ_i64_ok (f := 0) (at_ok c49) rfl, trivial⟩, ⟨(h.pick 1).row_cell encZ_i64_ok (f := 0) (at_ok c50) rfl, trivial⟩, trivial⟩) fun w h hd => ?_
       refine evs' hd 13 [(0, 64, .slice ca7 l9.length cc8), (1, 65, .slice car38 r36.length ccr39), (2, 66, vI g47)] hr fun a hr => ?_
       refine eon hd 12 3 rfl (wn rfl) hr (pA (blk car38) (g47.toNat * 1)) (hrun := fun w => ri_row (k := .i64) (E := 3) rfl (by kernel_rfl) (by kernel_rfl) (by kernel_rfl) (by kernel_rfl) (h.pick 4) c49) fun a hr => ?_
       refine evs' hd 9 [(5, 69, .slice ca7 l9.length cc8), (6, 70, .slice car38 r36.length ccr39), (7, 71, vI g47)] hr fun a hr => ?_
       refine eon hd 8 8 rfl (wn rfl) hr (pA (blk car38) (g47.toNat * 1)) (hrun := fun w => ri_row (k := .i64) (E := 3) rfl (by kernel_rfl) (by kernel_rfl) (by kernel_rfl) (by kernel_rfl) (h.pick 4) c49) fun a hr => ?_
       refine evs' hd 7 [(12, 76, vI r34)] hr fun a hr => ?_
       refine elx hd 0 6 4 hr (wn rfl) rfl rfl fun a hr => ?_
       refine elx hd 1 5 9 hr (wn rfl) rfl rfl fun a hr => ?_
       refine eon hd 4 10 rfl (wn rfl) hr (pA (blk ca7) ((at_ r36 g47.toNat).toNat * 1)) (hrun := fun w => ri_row (k := .i64) (E := 3) rfl (by kernel_rfl) (by kernel_rfl) (by kernel_rfl) (by kernel_rfl) (h.pick 1) c50) fun a hr => ?_
       refine elx hd 2 3 11 hr (wn rfl) rfl rfl fun a hr => ?_
       refine evs' hd 2 [(13, 77, vI (wi ((at_ l40 (at_ r36 g47.toNat).toNat) + r34)))] hr fun a hr => ?_
       refine eon hd 1 14 rfl (wn rfl) hr (pA (blk ca7) ((at_ r36 g47.toNat).toNat * 1)) (hrun := fun w => ri_row (k := .i64) (E := 3) rfl (by kernel_rfl) (by kernel_rfl) (by kernel_rfl) (by kernel_rfl) (h.pick 1) c50) fun a hr => ?_
       refine eo1 15 rfl ?_
       replace h := h.m1
       refine stor (wn rfl) hr encZ_i64_ok h (at_ r36 g47.toNat).toNat 0 (vI (wi ((at_ l40 (at_ r36 g47.toNat).toNat) + r34))) (at_ l40 (at_ r36 g47.toNat).toNat) (wi ((at_ l40 (at_ r36 g47.toNat).toNat) + r34)) (at_ok c50) fun w h => ?_
       refine ln ?_
       refine xE ?_
       refine een ?_
       refine then_normal ?_
       refine sr ?_
       refine oo [79, 80, 81] [.slice ca41 l43.length cc42, .slice car38 r36.length ccr39, vI g47] hr fun a hr => ?_
       refine opv (wn rfl) hr (pA (blk car38) (g47.toNat * 1)) (ri_row (k := .i64) (E := 3) rfl (by kernel_rfl) (by kernel_rfl) (by kernel_rfl) (by kernel_rfl) (h.pick 4) c49) fun a hr => ?_
       refine ld (wn rfl) hr (vI (at_ r36 g47.toNat)) ((h.pick 4).row_cell encZ_i64_ok (f := 0) (at_ok c49) rfl) fun a hr => ?_
       refine onew (wn rfl) hr h (fun b => .slice (some ⟨b, 0, none⟩) 1 1) (#[vI (at_ r36 g47.toNat)]) 3 fun b52 w a h hr => ?_
       replace h := h.m3
       obtain ⟨c55, H⟩ := gd H
       refine op_append (n0 := l43.length) (c := 1) (bytes := 8) (wn rfl) rfl rfl hr rfl (by kernel_rfl) (by kernel_rfl) encZ_i64_ok (E := 3) (xs := l43) (by kernel_rfl) (by kernel_rfl) h (news := [(at_ r36 g47.toNat)]) (m := 1) rfl ((h.pick 1).news rfl) c55 rfl fun ca53 cc54 w a h hr => ?_
       refine o1 hr (.slice ca53 (l43 ++ [(at_ r36 g47.toNat)]).length cc54) fun a hr => ?_
       refine ln ?_
       refine wp_region_lit ?_
       refine oo [86, 87] [.slice ca44 l46.length cc45, vI r34] hr fun a hr => ?_
       refine onew (wn rfl) hr h (fun b => .slice (some ⟨b, 0, none⟩) 1 1) (#[vI r34]) 3 fun b56 w a h hr => ?_
       replace h := h.m5
       obtain ⟨c59, H⟩ := gd H
       refine op_append (n0 := l46.length) (c := 1) (bytes := 8) (wn rfl) rfl rfl hr rfl (by kernel_rfl) (by kernel_rfl) encZ_i64_ok (E := 3) (xs := l46) (by kernel_rfl) (by kernel_rfl) h (news := [r34]) (m := 1) rfl ((h.pick 1).news rfl) c59 rfl fun ca57 cc58 w a h hr => ?_
       refine o1 hr (.slice ca57 (l46 ++ [r34]).length cc58) fun a hr => ?_
       refine wpList_nil ?_
       refine blk_normal ?_
       refine then_normal ?_
       refine wp_region_lit ?_
       refine oo [52, 53, 12] [vI g47, vI (wi (g47 + 1)), vI (wi (g47 + 1))] hr fun a hr => ?_
       refine ln ?_
       exact ⟨_, ⟨ca53, cc54, ca57, cc58, (l40.set (at_ r36 g47.toNat).toNat (wi ((at_ l40 (at_ r36 g47.toNat).toNat) + r34))), (l43 ++ [(at_ r36 g47.toNat)]), (l46 ++ [r34]), (wi (g47 + 1)), H, hr.fj (h.se 7 [5, 4, 2, 0, 6])⟩, Nat.lt_succ_self _⟩
      ·
       refine wp_skip ?_
       refine blk_normal ?_
       refine then_normal ?_
       refine wp_region_lit ?_
       refine oo [52, 53, 12] [vI g47, vI (wi (g47 + 1)), vI (wi (g47 + 1))] hr fun a hr => ?_
       refine ln ?_
       exact ⟨_, ⟨ca41, cc42, ca44, cc45, l40, l43, l46, (wi (g47 + 1)), H, hr.fj h⟩, Nat.lt_succ_self _⟩
     ·
      refine wp_exit ?_
      refine then_exit ?_
      refine then_exit ?_
      refine blk_here ?_
      refine blk_normal ?_
      refine then_normal ?_
      exact ⟨(), ca41, cc42, ca44, cc45, l40, l43, l46, sinj H, hr.fj (h.se 5 [0, 1, 2, 3])⟩
   clear h hr a; rintro _ a w ⟨ca22, cc23, ca25, cc26, l21, l24, l27, rfl, j, hr, h⟩
   replace H := kk3 hK28
   refine wp_region_lit ?_
   refine oo [25, 26, 8] [vI g16, vI (wi (g16 + 1)), vI (wi (g16 + 1))] hr fun a hr => ?_
   refine ln ?_
   replace h := h.m1
   have hn59 : l9.length = l21.length := h.row_n; replace h := Fit.ren0 hn59 (fun q_ => rowOf 3 1 encZ_i64 (.slice ca7 q_ cc8) l21) h
   replace hr := hr.re 5 (congrArg (fun q_ => Value.slice ca7 q_ cc8) hn59)
   exact ⟨_, ⟨ca7, cc8, ca22, cc23, ca25, cc26, l21, l24, l27, (wi (g16 + 1)), H, hr.fj (h.se 4 [1, 0, 2, 3])⟩, Nat.lt_succ_self _⟩
  ·
   refine wp_exit ?_
   refine then_exit ?_
   refine then_exit ?_
   refine blk_here ?_
   refine then_normal ?_
   refine sr ?_
   refine oo [90, 4] [.slice ca7 l9.length cc8, .slice ca7 l9.length cc8] hr fun a hr => ?_
   refine ln ?_
   refine wp_ret ?_
   refine end_ret1 (v := .slice ca7 l9.length cc8) rfl hr (by kernel_rfl) ?_
   replace H := ej1 H; subst H
   exact ⟨ca7, cc8, rfl, h.se 4 [1]⟩

def plunderref5_Flow_l1 (K : Nat) (p0 : T_api_Func) : Nat → (List (List Int)) → Int → Option ((List (List Int)))
  | 0, _, _ => none
  | k1 + 1, l10, g11 => (if g11 < (((List.replicate p0.Code.length ([] : List Int)).length : Nat) : Int) then if 0 ≤ p0.Slots ∧ p0.Slots * 8 ≤ 140737488355328 then if inr_ g11 l10.length then (plunderref5_Flow_l1 K p0 k1 (l10.set g11.toNat (List.replicate p0.Slots.toNat (0 : Int))) (wi (g11 + 1))) else none else none else some l10)
def plunderref5_Flow_l3 (K : Nat) (p0 : T_api_Func) (g21 : Int) (r26 : List Int) : Nat → (List (List Int)) → Int → Option ((List (List Int)))
  | 0, _, _ => none
  | k3 + 1, l30, g31 => (if g31 < (((List.replicate p0.Code.length ([] : List Int)).length : Nat) : Int) then if inr_ g31 l30.length then if inr_ g31 r26.length then if inr_ g21 (at_ l30 g31.toNat).length then (plunderref5_Flow_l3 K p0 g21 r26 k3 (l30.set g31.toNat ((at_ l30 g31.toNat).set g21.toNat (at_ r26 g31.toNat))) (wi (g31 + 1))) else none else none else none else some l30)
def plunderref5_Flow_l2 (K : Nat) (p0 : T_api_Func) : Nat → (List (List Int)) → Int → Option ((List (List Int)))
  | 0, _, _ => none
  | k2 + 1, l20, g21 => (if g21 < p0.Slots then ob1 (ob1 (plunderref5_slotStates K p0 g21) (fun r26 => (plunderref5_Flow_l3 K p0 g21 r26 K l20 0))) (fun l23 => (plunderref5_Flow_l2 K p0 k2 l23 (wi (g21 + 1)))) else some l20)
/-- plunder/plunderref5.Flow -/
def plunderref5_Flow (K : Nat) (p0 : T_api_Func) : Option ((List (List Int))) :=
  ob1 (plunderref5_Sound K p0) (fun r2 => (if r2 = true then if 0 ≤ ((p0.Code.length : Nat) : Int) ∧ ((p0.Code.length : Nat) : Int) * 24 ≤ 140737488355328 then ob1 ((plunderref5_Flow_l1 K p0 K (List.replicate p0.Code.length ([] : List Int)) 0)) (fun l7 => (plunderref5_Flow_l2 K p0 K l7 0)) else none else some ([] : List (List Int))))

theorem plunderref5_Flow_ok {z w : World} {L : List HProp} {K : Nat} {p0 : T_api_Func} {va0_Code : Option Addr} {vc0_Code : Nat} {r0 : List (List Int)} (H : plunderref5_Flow K p0 = some r0) (h : Fit z (sepL (L)) w) (hv0_Code : RdRow L 5 enc_T_api_Instr va0_Code p0.Code) :
    Calls Tryd.prog 44 #[.agg #[vI p0.Params, vI p0.Regs, vI p0.Slots, .slice va0_Code p0.Code.length vc0_Code]] w fun e w => ∃ car0_1 ccr0_2, e = .returned (.slice car0_1 r0.length ccr0_2) ∧ Fit z (sepL (rn28 car0_1 ccr0_2 r0 :: L)) w := by
 unfold plunderref5_Flow at H
 refine enter Tryd.func44 rfl 55 rfl rfl [(0, .agg #[vI p0.Params, vI p0.Regs, vI p0.Slots, .slice va0_Code p0.Code.length vc0_Code])] ⟨rfl, trivial⟩ ?_
 intro j a hr
 refine sr ?_
 refine onew (wn rfl) hr h nb (#[vI p0.Params, vI p0.Regs, vI p0.Slots, .slice va0_Code p0.Code.length vc0_Code]) 76 fun b1 w a h hr => ?_
 refine o1 hr (.slice none 0 0) fun a hr => ?_
 refine ln ?_
 refine sr ?_
 refine ldm (wn rfl) hr (.agg #[vI p0.Params, vI p0.Regs, vI p0.Slots, .slice va0_Code p0.Code.length vc0_Code]) (cs := [vI p0.Params, vI p0.Regs, vI p0.Slots, .slice va0_Code p0.Code.length vc0_Code]) (h.held 0 rfl) fun a hr => ?_
 obtain ⟨r2, e3, H⟩ := bd1 H
 have hc := plunderref5_Sound_ok (va0_Code := va0_Code) (vc0_Code := vc0_Code) (hv0_Code := (RdRow.up 1 hv0_Code)) (H := e3) (h := h)
 refine cl (wn rfl) hr hc ?_; clear hc h
 rintro _ w ⟨rfl, h⟩; refine ⟨_, rfl, fun a hr => ?_⟩
 refine o1 hr (vB r2) fun a hr => ?_
 refine ln ?_
 refine wp_seq ?_
 refine sr ?_
 refine oo [11, 12] [vB r2, vB (!r2)] hr fun a hr => ?_
 refine ln ?_
 refine cM hr H (fun c4 H => ?_) fun c4 H => ?_
 ·
  refine wp_skip ?_
  refine then_normal ?_
  refine sr ?_
  refine o1 hr (pA b1 3) fun a hr => ?_
  refine ld (wn rfl) hr (.slice va0_Code p0.Code.length vc0_Code) (h.cell 3 rfl) fun a hr => ?_
  obtain ⟨c5, H⟩ := gd H
  refine o1 hr (vI ((p0.Code.length : Nat) : Int)) fun a hr => ?_
  refine op_make_rowN (own := own_sl28) (i := ((p0.Code.length : Nat) : Int)) (bytes := 24) (zc := #[.slice none 0 0]) ([] : List Int) (wn rfl) rfl rfl hr rfl (by kernel_rfl) (by kernel_rfl) c5 rfl (by simp [Value.oneCell']) (by decide) (E := 28) (by kernel_rfl) (by kernel_rfl) rfl (fun h => own_sl28_sh (x := ([] : List Int)) (ca_1 := none) (cc_2 := 0) (h.row_nil)) h fun ca6 w a h hr => ?_
  refine o1 hr (.slice ca6 (List.replicate p0.Code.length ([] : List Int)).length p0.Code.length) fun a hr => ?_
  refine ln ?_
  obtain ⟨o9, H, hK8⟩ := kd1 H
  refine cut_rule (β := Unit) (fun _ a w => ∃ l7 : List (List Int), l7 = o9 ∧ ∃ j, Rep 55 (lk [(1, pA b1 0), (4, .slice ca6 (List.replicate p0.Code.length ([] : List Int)).length p0.Code.length)] j) a ∧ Fit z (sepL (ob76 b1 p0 va0_Code vc0_Code :: rowN 28 1 own_sl28 (.slice ca6 (List.replicate p0.Code.length ([] : List Int)).length p0.Code.length) l7 :: L)) w) ?_ ?_
  ·
   refine sr ?_
   refine o1 hr (vI 0) fun a hr => ?_
   refine ln ?_
   refine wp_block ?_
   refine loop_rule (β := Nat) id (fun m a w => ∃ l10 : List (List Int), ∃ g11 : Int, (plunderref5_Flow_l1 K p0 m l10 g11) = some o9 ∧ ∃ j, Rep 55 (lk [(1, pA b1 0), (4, .slice ca6 (List.replicate p0.Code.length ([] : List Int)).length p0.Code.length), (5, vI g11)] j) a ∧ Fit z (sepL (ob76 b1 p0 va0_Code vc0_Code :: rowN 28 1 own_sl28 (.slice ca6 (List.replicate p0.Code.length ([] : List Int)).length p0.Code.length) l10 :: L)) w) K ⟨(List.replicate p0.Code.length ([] : List Int)), 0, H, hr.fj (h.se 2 [1, 0])⟩ ?_
   clear h hr a H; rintro k1 a w ⟨l10, g11, H, j, hr, h⟩
   cases k1 with
   | zero => exact absurd H (by simp [plunderref5_Flow_l1])
   | succ k1 =>
    rw [plunderref5_Flow_l1] at H
    refine wp_seq ?_
    refine sr ?_
    refine oo [17, 18, 19, 20] [vI g11, .slice ca6 (List.replicate p0.Code.length ([] : List Int)).length p0.Code.length, vI (((List.replicate p0.Code.length ([] : List Int)).length : Nat) : Int), vB (decide (g11 < (((List.replicate p0.Code.length ([] : List Int)).length : Nat) : Int)))] hr fun a hr => ?_
    refine ln ?_
    refine cD hr H (fun c12 H => ?_) fun c12 H => ?_
    ·
     refine wp_skip ?_
     refine then_normal ?_
     refine wp_seq ?_
     refine wp_block ?_
     refine wp_region_lit ?_
     refine oo [23, 24, 25] [.slice ca6 (List.replicate p0.Code.length ([] : List Int)).length p0.Code.length, vI g11, pA b1 2] hr fun a hr => ?_
     refine ld (wn rfl) hr (vI p0.Slots) (h.cell 2 rfl) fun a hr => ?_
     obtain ⟨c13, H⟩ := gd H
     refine op_make_row (i := p0.Slots) (bytes := 8) (zc := #[vI 0]) (0 : Int) (wn rfl) rfl rfl hr rfl (by kernel_rfl) (by kernel_rfl) c13 encZ_i64_ok (E := 3) (by kernel_rfl) (by kernel_rfl) rfl rfl h fun ca14 w a h hr => ?_
     obtain ⟨c15, H⟩ := gd H
     refine opv (wn rfl) hr (pA (blk ca6) (g11.toNat * 1)) (ri_rowN (k := .i64) (E := 28) rfl (by kernel_rfl) (by kernel_rfl) (by kernel_rfl) (by kernel_rfl) (h.pick 2) c15) fun a hr => ?_
     obtain ⟨cs19, h⟩ := h.m2.rowN_take (at_ok c15)
     obtain ⟨ca16, cc17, e18, h⟩ := own_sl28_op (h.m1); subst e18
     replace h := h.m1
     refine op_store_rowH (wn rfl) rfl hr rfl (by kernel_rfl) (by kernel_rfl) (v := .slice ca14 (List.replicate p0.Slots.toNat (0 : Int)).length p0.Slots.toNat) rfl rfl (by kernel_rfl) (by kernel_rfl) h (i := g11.toNat) (f := 0) (by decide) fun w h => ?_
     refine wpList_nil ?_
     refine blk_normal ?_
     refine then_normal ?_
     refine wp_region_lit ?_
     refine oo [21, 22, 5] [vI g11, vI (wi (g11 + 1)), vI (wi (g11 + 1))] hr fun a hr => ?_
     refine ln ?_
     replace h := h.m2
     replace h := own_sl28_sh (x := (List.replicate p0.Slots.toNat (0 : Int))) h
     replace h := (h.m1).rowH_back
     exact ⟨_, ⟨(l10.set g11.toNat (List.replicate p0.Slots.toNat (0 : Int))), (wi (g11 + 1)), H, hr.fj (h.se 3 [2, 0])⟩, Nat.lt_succ_self _⟩
    ·
     refine wp_exit ?_
     refine then_exit ?_
     refine then_exit ?_
     refine blk_here ?_
     refine then_normal ?_
     exact ⟨(), l10, sinj H, hr.fj h⟩
  clear h hr a; rintro _ a w ⟨l7, rfl, j, hr, h⟩
  replace H := kk1 hK8
  refine wp_seq ?_
  refine sr ?_
  refine o1 hr (vI 0) fun a hr => ?_
  refine ln ?_
  refine wp_block ?_
  refine loop_rule (β := Nat) id (fun m a w => ∃ l20 : List (List Int), ∃ g21 : Int, (plunderref5_Flow_l2 K p0 m l20 g21) = some r0 ∧ ∃ j, Rep 55 (lk [(1, pA b1 0), (4, .slice ca6 (List.replicate p0.Code.length ([] : List Int)).length p0.Code.length), (6, vI g21)] j) a ∧ Fit z (sepL (ob76 b1 p0 va0_Code vc0_Code :: rowN 28 1 own_sl28 (.slice ca6 (List.replicate p0.Code.length ([] : List Int)).length p0.Code.length) l20 :: L)) w) K ⟨l7, 0, H, hr.fj h⟩ ?_
  clear h hr a H; rintro k2 a w ⟨l20, g21, H, j, hr, h⟩
  cases k2 with
  | zero => exact absurd H (by simp [plunderref5_Flow_l2])
  | succ k2 =>
   rw [plunderref5_Flow_l2] at H
   refine wp_seq ?_
   refine sr ?_
   refine oo [29, 30] [vI g21, pA b1 2] hr fun a hr => ?_
   refine ld (wn rfl) hr (vI p0.Slots) (h.cell 2 rfl) fun a hr => ?_
   refine o1 hr (vB (decide (g21 < p0.Slots))) fun a hr => ?_
   refine ln ?_
   refine cD hr H (fun c22 H => ?_) fun c22 H => ?_
   ·
    refine wp_skip ?_
    refine then_normal ?_
    obtain ⟨o25, H, hK24⟩ := kd1 H
    refine cut_rule (β := Unit) (fun _ a w => ∃ l23 : List (List Int), l23 = o25 ∧ ∃ j, Rep 55 (lk [(1, pA b1 0), (4, .slice ca6 (List.replicate p0.Code.length ([] : List Int)).length p0.Code.length), (6, vI g21)] j) a ∧ Fit z (sepL (ob76 b1 p0 va0_Code vc0_Code :: rowN 28 1 own_sl28 (.slice ca6 (List.replicate p0.Code.length ([] : List Int)).length p0.Code.length) l23 :: L)) w) ?_ ?_
    ·
     refine wp_block ?_
     refine sr ?_
     refine ldm (wn rfl) hr (.agg #[vI p0.Params, vI p0.Regs, vI p0.Slots, .slice va0_Code p0.Code.length vc0_Code]) (cs := [vI p0.Params, vI p0.Regs, vI p0.Slots, .slice va0_Code p0.Code.length vc0_Code]) (h.held 0 rfl) fun a hr => ?_
     obtain ⟨r26, e27, H⟩ := bd1 H
     refine o1 hr (vI g21) fun a hr => ?_
     have hc := plunderref5_slotStates_ok (va0_Code := va0_Code) (vc0_Code := vc0_Code) (hv0_Code := (RdRow.up 2 hv0_Code)) (H := e27) (h := h)
     refine cl (wn rfl) hr hc ?_; clear hc h
     rintro _ w ⟨car28, ccr29, rfl, h⟩; refine ⟨_, rfl, fun a hr => ?_⟩
     refine o1 hr (.slice car28 r26.length ccr29) fun a hr => ?_
     refine ln ?_
     refine sr ?_
     refine o1 hr (vI 0) fun a hr => ?_
     refine ln ?_
     refine wp_block ?_
     refine loop_rule (β := Nat) id (fun m a w => ∃ l30 : List (List Int), ∃ g31 : Int, (plunderref5_Flow_l3 K p0 g21 r26 m l30 g31) = some o25 ∧ ∃ j, Rep 55 (lk [(1, pA b1 0), (4, .slice ca6 (List.replicate p0.Code.length ([] : List Int)).length p0.Code.length), (6, vI g21), (7, .slice car28 r26.length ccr29), (8, vI g31)] j) a ∧ Fit z (sepL (ob76 b1 p0 va0_Code vc0_Code :: rowN 28 1 own_sl28 (.slice ca6 (List.replicate p0.Code.length ([] : List Int)).length p0.Code.length) l30 :: ro3 car28 ccr29 r26 :: L)) w) K ⟨l20, 0, H, hr.fj (h.se 3 [1, 2, 0])⟩ ?_
     clear h hr a H; rintro k3 a w ⟨l30, g31, H, j, hr, h⟩
     cases k3 with
     | zero => exact absurd H (by simp [plunderref5_Flow_l3])
     | succ k3 =>
      rw [plunderref5_Flow_l3] at H
      refine wp_seq ?_
      refine sr ?_
      refine oo [38, 39, 40, 41] [vI g31, .slice ca6 (List.replicate p0.Code.length ([] : List Int)).length p0.Code.length, vI (((List.replicate p0.Code.length ([] : List Int)).length : Nat) : Int), vB (decide (g31 < (((List.replicate p0.Code.length ([] : List Int)).length : Nat) : Int)))] hr fun a hr => ?_
      refine ln ?_
      refine cD hr H (fun c32 H => ?_) fun c32 H => ?_
      ·
       refine wp_skip ?_
       refine then_normal ?_
       refine wp_seq ?_
       refine wp_block ?_
       obtain ⟨c33, H⟩ := gd H
       obtain ⟨cs37, h⟩ := h.m1.rowN_take (at_ok c33)
       obtain ⟨ca34, cc35, e36, h⟩ := own_sl28_op (h.m1); subst e36
       obtain ⟨c38, H⟩ := gd H
       obtain ⟨c39, H⟩ := gd H
       refine regL [(blk ca6, g31.toNat * 1, [.slice ca34 (at_ l30 g31.toNat).length cc35]), (blk car28, g31.toNat * 1, [vI (at_ r26 g31.toNat)])] [2, 7] 11 h (fun h => ⟨⟨(h.pick 1).rowH_cell (by decide) (f := 0) rfl, trivial⟩, ⟨(h.pick 3).row_cell encZ_i64_ok (f := 0) (at_ok c38) rfl, trivial⟩, trivial⟩) fun w h hd => ?_
       refine evs' hd 9 [(0, 44, .slice ca6 (List.replicate p0.Code.length ([] : List Int)).length p0.Code.length), (1, 45, vI g31)] hr fun a hr => ?_
       refine eon hd 8 2 rfl (wn rfl) hr (pA (blk ca6) (g31.toNat * 1)) (hrun := fun w => ri_rowH (k := .i64) (E := 28) rfl (by kernel_rfl) (by kernel_rfl) (by kernel_rfl) (by kernel_rfl) (h.pick 1) c33) fun a hr => ?_
       refine evs' hd 5 [(4, 48, vI g21), (5, 49, .slice car28 r26.length ccr29), (6, 50, vI g31)] hr fun a hr => ?_
       refine eon hd 4 7 rfl (wn rfl) hr (pA (blk car28) (g31.toNat * 1)) (hrun := fun w => ri_row (k := .i64) (E := 3) rfl (by kernel_rfl) (by kernel_rfl) (by kernel_rfl) (by kernel_rfl) (h.pick 3) c38) fun a hr => ?_
       refine elx hd 0 3 3 hr (wn rfl) rfl rfl fun a hr => ?_
       refine elx hd 1 2 8 hr (wn rfl) rfl rfl fun a hr => ?_
       refine eon hd 1 9 rfl (wn rfl) hr (pA (blk ca34) (g21.toNat * 1)) (hrun := fun w => ri_row (k := .i64) (E := 3) rfl (by kernel_rfl) (by kernel_rfl) (by kernel_rfl) (by kernel_rfl) h c39) fun a hr => ?_
       refine eo1 10 rfl ?_
       refine stor (wn rfl) hr encZ_i64_ok h g21.toNat 0 (vI (at_ r26 g31.toNat)) (at_ (at_ l30 g31.toNat) g21.toNat) (at_ r26 g31.toNat) (at_ok c39) fun w h => ?_
       refine ln ?_
       refine xE ?_
       refine een ?_
       refine blk_normal ?_
       refine then_normal ?_
       refine wp_region_lit ?_
       refine oo [42, 43, 8] [vI g31, vI (wi (g31 + 1)), vI (wi (g31 + 1))] hr fun a hr => ?_
       refine ln ?_
       have hn39 : (at_ l30 g31.toNat).length = ((at_ l30 g31.toNat).set g21.toNat (at_ r26 g31.toNat)).length := h.row_n; replace h := Fit.ren1 hn39 (fun q_ => rowOf 3 1 encZ_i64 (.slice ca34 q_ cc35) ((at_ l30 g31.toNat).set g21.toNat (at_ r26 g31.toNat))) (fun q_ => rowH 28 1 own_sl28 (.slice ca6 (List.replicate p0.Code.length ([] : List Int)).length p0.Code.length) l30 g31.toNat [.slice ca34 q_ cc35]) h
       replace h := own_sl28_sh (x := ((at_ l30 g31.toNat).set g21.toNat (at_ r26 g31.toNat))) h
       replace h := (h.m1).rowH_back
       exact ⟨_, ⟨(l30.set g31.toNat ((at_ l30 g31.toNat).set g21.toNat (at_ r26 g31.toNat))), (wi (g31 + 1)), H, hr.fj (h.se 3 [1, 0, 2])⟩, Nat.lt_succ_self _⟩
      ·
       refine wp_exit ?_
       refine then_exit ?_
       refine then_exit ?_
       refine blk_here ?_
       refine blk_normal ?_
       refine then_normal ?_
       exact ⟨(), l30, sinj H, hr.fj (h.se 3 [0, 1])⟩
    clear h hr a; rintro _ a w ⟨l23, rfl, j, hr, h⟩
    replace H := kk1 hK24
    refine wp_region_lit ?_
    refine oo [33, 34, 6] [vI g21, vI (wi (g21 + 1)), vI (wi (g21 + 1))] hr fun a hr => ?_
    refine ln ?_
    exact ⟨_, ⟨l23, (wi (g21 + 1)), H, hr.fj h⟩, Nat.lt_succ_self _⟩
   ·
    refine wp_exit ?_
    refine then_exit ?_
    refine then_exit ?_
    refine blk_here ?_
    refine then_normal ?_
    refine sr ?_
    refine oo [54, 2] [.slice ca6 (List.replicate p0.Code.length ([] : List Int)).length p0.Code.length, .slice ca6 (List.replicate p0.Code.length ([] : List Int)).length p0.Code.length] hr fun a hr => ?_
    refine ln ?_
    refine wp_ret ?_
    refine end_ret1 (v := .slice ca6 (List.replicate p0.Code.length ([] : List Int)).length p0.Code.length) rfl hr (by kernel_rfl) ?_
    replace h := h.m1
    have hn40 : (List.replicate p0.Code.length ([] : List Int)).length = l20.length := h.rowN_n; replace h := Fit.ren0 hn40 (fun q_ => rowN 28 1 own_sl28 (.slice ca6 q_ p0.Code.length) l20) h
    replace H := ej1 H; subst H
    exact ⟨ca6, p0.Code.length, (by first | rfl | simp only [hn40]), h.se 2 [0]⟩
 ·
  refine sr ?_
  refine o1 hr (.slice none 0 0) fun a hr => ?_
  refine ln ?_
  refine wp_ret ?_
  refine then_ret ?_
  refine end_ret1 (v := .slice none 0 0) rfl hr (by kernel_rfl) ?_
  replace h := h.rowN_nil (e := 28) (sz := 1) (own := own_sl28)
  replace H := ej1 H; subst H
  exact ⟨none, 0, rfl, h.se 2 [0]⟩

def plunderref5_slotFault_l1 (K : Nat) (p1 : List Int) : Nat → Int → Option (Int)
  | 0, _ => none
  | k1 + 1, g9 => (if g9 < ((p1.length : Nat) : Int) then if inr_ g9 p1.length then (if (band (at_ p1 g9.toNat) (2 : Int)) = 0 then (plunderref5_slotFault_l1 K p1 k1 (wi (g9 + 1))) else some 56) else none else some 0)
/-- plunder/plunderref5.slotFault -/
def plunderref5_slotFault (K : Nat) (p0 : T_api_Instr) (p1 : List Int) : Option (Int) :=
  (if p0.Kind = 5 then if inr_ p0.A p1.length then (if (band (at_ p1 p0.A.toNat) (2 : Int)) = 0 then some 0 else some 54) else none else (if p0.Kind = 7 then if inr_ p0.B p1.length then (if (band (at_ p1 p0.B.toNat) (3 : Int)) = 0 then some 0 else some 55) else none else (if p0.Kind = 9 then (plunderref5_slotFault_l1 K p1 K 0) else some 0)))

theorem plunderref5_slotFault_ok {z w : World} {L : List HProp} {K : Nat} {p0 : T_api_Instr} {p1 : List Int} {va1 : Option Addr} {vc1 : Nat} {r0 : Int} (H : plunderref5_slotFault K p0 p1 = some r0) (h : Fit z (sepL (L)) w) (hv1 : RdRow L 1 encZ_i64 va1 p1) :
    Calls Tryd.prog 45 #[ag_T_api_Instr p0, .slice va1 p1.length vc1] w fun e w => e = .returned (vI r0) ∧ Fit z (sepL (L)) w := by
 unfold plunderref5_slotFault at H
 refine enter Tryd.func45 rfl 40 rfl rfl [(0, ag_T_api_Instr p0), (1, .slice va1 p1.length vc1)] ⟨rfl, rfl, trivial⟩ ?_
 intro j a hr
 refine sr ?_
 refine onew (wn rfl) hr h nb (ca_T_api_Instr p0) 108 fun b1 w a h hr => ?_
 refine o1 hr (vI 0) fun a hr => ?_
 refine ln ?_
 refine wp_seq ?_
 refine sr ?_
 refine o1 hr (pA b1 0) fun a hr => ?_
 refine ld (wn rfl) hr (vI p0.Kind) (h.cell 0 rfl) fun a hr => ?_
 refine ln ?_
 refine wp_block ?_
 refine sr ?_
 refine oo [9, 8] [vB (p0.Kind == 5), vB (p0.Kind == 5)] hr fun a hr => ?_
 refine ln ?_
 refine cD hr H (fun c2 H => ?_) fun c2 H => ?_
 ·
  refine sr ?_
  refine oo [10, 11] [.slice va1 p1.length vc1, pA b1 1] hr fun a hr => ?_
  refine ld (wn rfl) hr (vI p0.A) (h.cell 1 rfl) fun a hr => ?_
  obtain ⟨c3, H⟩ := gd H
  refine opv (wn rfl) hr (pA (blk va1) (offs va1 + p0.A.toNat * 1)) (ri_rd (k := .i64) (E := 3) (cc := vc1) rfl (by kernel_rfl) (by kernel_rfl) rfl (by kernel_rfl) (by kernel_rfl) hv1 c3) fun a hr => ?_
  refine ld (wn rfl) hr (vI (at_ p1 p0.A.toNat)) (hv1.cell c3 (h.dn 1) 0 rfl) fun a hr => ?_
  refine opv (wn rfl) hr (vI (band (at_ p1 p0.A.toNat) (2 : Int))) (rand rfl (by kernel_rfl) (by kernel_rfl)) fun a hr => ?_
  refine o1 hr (vB ((band (at_ p1 p0.A.toNat) (2 : Int)) != 0)) fun a hr => ?_
  refine ln ?_
  refine cN hr H (fun c4 H => ?_) fun c4 H => ?_
  ·
   refine wp_skip ?_
   refine blk_normal ?_
   refine then_normal ?_
   refine sr ?_
   refine o1 hr (vI 0) fun a hr => ?_
   refine ln ?_
   refine wp_ret ?_
   refine end_ret1 (v := vI 0) rfl hr (by kernel_rfl) ?_
   replace H := ej1 H; subst H
   exact ⟨rfl, h.se 1 []⟩
  ·
   refine sr ?_
   refine o1 hr (vI 54) fun a hr => ?_
   refine ln ?_
   refine wp_ret ?_
   refine blk_ret ?_
   refine then_ret ?_
   refine end_ret1 (v := vI 54) rfl hr (by kernel_rfl) ?_
   replace H := ej1 H; subst H
   exact ⟨rfl, h.se 1 []⟩
 ·
  refine sr ?_
  refine oo [18, 17] [vB (p0.Kind == 7), vB (p0.Kind == 7)] hr fun a hr => ?_
  refine ln ?_
  refine cD hr H (fun c5 H => ?_) fun c5 H => ?_
  ·
   refine sr ?_
   refine oo [19, 20] [.slice va1 p1.length vc1, pA b1 2] hr fun a hr => ?_
   refine ld (wn rfl) hr (vI p0.B) (h.cell 2 rfl) fun a hr => ?_
   obtain ⟨c6, H⟩ := gd H
   refine opv (wn rfl) hr (pA (blk va1) (offs va1 + p0.B.toNat * 1)) (ri_rd (k := .i64) (E := 3) (cc := vc1) rfl (by kernel_rfl) (by kernel_rfl) rfl (by kernel_rfl) (by kernel_rfl) hv1 c6) fun a hr => ?_
   refine ld (wn rfl) hr (vI (at_ p1 p0.B.toNat)) (hv1.cell c6 (h.dn 1) 0 rfl) fun a hr => ?_
   refine opv (wn rfl) hr (vI (band (at_ p1 p0.B.toNat) (3 : Int))) (rand rfl (by kernel_rfl) (by kernel_rfl)) fun a hr => ?_
   refine o1 hr (vB ((band (at_ p1 p0.B.toNat) (3 : Int)) != 0)) fun a hr => ?_
   refine ln ?_
   refine cN hr H (fun c7 H => ?_) fun c7 H => ?_
   ·
    refine wp_skip ?_
    refine blk_normal ?_
    refine then_normal ?_
    refine sr ?_
    refine o1 hr (vI 0) fun a hr => ?_
    refine ln ?_
    refine wp_ret ?_
    refine end_ret1 (v := vI 0) rfl hr (by kernel_rfl) ?_
    replace H := ej1 H; subst H
    exact ⟨rfl, h.se 1 []⟩
   ·
    refine sr ?_
    refine o1 hr (vI 55) fun a hr => ?_
    refine ln ?_
    refine wp_ret ?_
    refine blk_ret ?_
    refine then_ret ?_
    refine end_ret1 (v := vI 55) rfl hr (by kernel_rfl) ?_
    replace H := ej1 H; subst H
    exact ⟨rfl, h.se 1 []⟩
  ·
   refine sr ?_
   refine oo [27, 26] [vB (p0.Kind == 9), vB (p0.Kind == 9)] hr fun a hr => ?_
   refine ln ?_
   refine cD hr H (fun c8 H => ?_) fun c8 H => ?_
   ·
    refine sr ?_
    refine o1 hr (vI 0) fun a hr => ?_
    refine ln ?_
    refine wp_block ?_
    refine loop_rule (β := Nat) id (fun m a w => ∃ g9 : Int, (plunderref5_slotFault_l1 K p1 m g9) = some r0 ∧ ∃ j, Rep 40 (lk [(1, .slice va1 p1.length vc1), (5, vI g9)] j) a ∧ Fit z (sepL (L)) w) K ⟨0, H, hr.fj (h.se 1 [])⟩ ?_
    clear h hr a H; rintro k1 a w ⟨g9, H, j, hr, h⟩
    cases k1 with
    | zero => exact absurd H (by simp [plunderref5_slotFault_l1])
    | succ k1 =>
     rw [plunderref5_slotFault_l1] at H
     refine wp_seq ?_
     refine sr ?_
     refine oo [28, 29, 30, 31] [vI g9, .slice va1 p1.length vc1, vI ((p1.length : Nat) : Int), vB (decide (g9 < ((p1.length : Nat) : Int)))] hr fun a hr => ?_
     refine ln ?_
     refine cD hr H (fun c10 H => ?_) fun c10 H => ?_
     ·
      refine wp_skip ?_
      refine then_normal ?_
      refine wp_seq ?_
      refine wp_block ?_
      refine sr ?_
      obtain ⟨c11, H⟩ := gd H
      refine oo [34, 35] [.slice va1 p1.length vc1, vI g9] hr fun a hr => ?_
      refine opv (wn rfl) hr (pA (blk va1) (offs va1 + g9.toNat * 1)) (ri_rd (k := .i64) (E := 3) (cc := vc1) rfl (by kernel_rfl) (by kernel_rfl) rfl (by kernel_rfl) (by kernel_rfl) hv1 c11) fun a hr => ?_
      refine ld (wn rfl) hr (vI (at_ p1 g9.toNat)) (hv1.cell c11 (h.dn 0) 0 rfl) fun a hr => ?_
      refine opv (wn rfl) hr (vI (band (at_ p1 g9.toNat) (2 : Int))) (rand rfl (by kernel_rfl) (by kernel_rfl)) fun a hr => ?_
      refine o1 hr (vB ((band (at_ p1 g9.toNat) (2 : Int)) != 0)) fun a hr => ?_
      refine ln ?_
      refine cN hr H (fun c12 H => ?_) fun c12 H => ?_
      ·
       refine wp_skip ?_
       refine blk_normal ?_
       refine then_normal ?_
       refine wp_region_lit ?_
       refine oo [32, 33, 5] [vI g9, vI (wi (g9 + 1)), vI (wi (g9 + 1))] hr fun a hr => ?_
       refine ln ?_
       exact ⟨_, ⟨(wi (g9 + 1)), H, hr.fj h⟩, Nat.lt_succ_self _⟩
      ·
       refine sr ?_
       refine o1 hr (vI 56) fun a hr => ?_
       refine ln ?_
       refine wp_ret ?_
       refine blk_ret ?_
       refine then_ret ?_
       refine then_ret ?_
       refine blk_ret ?_
       refine blk_ret ?_
       refine then_ret ?_
       refine end_ret1 (v := vI 56) rfl hr (by kernel_rfl) ?_
       replace H := ej1 H; subst H
       exact ⟨rfl, h⟩
     ·
      refine wp_exit ?_
      refine then_exit ?_
      refine then_exit ?_
      refine blk_here ?_
      refine blk_normal ?_
      refine then_normal ?_
      refine sr ?_
      refine o1 hr (vI 0) fun a hr => ?_
      refine ln ?_
      refine wp_ret ?_
      refine end_ret1 (v := vI 0) rfl hr (by kernel_rfl) ?_
      replace H := ej1 H; subst H
      exact ⟨rfl, h⟩
   ·
    refine wp_skip ?_
    refine blk_normal ?_
    refine then_normal ?_
    refine sr ?_
    refine o1 hr (vI 0) fun a hr => ?_
    refine ln ?_
    refine wp_ret ?_
    refine end_ret1 (v := vI 0) rfl hr (by kernel_rfl) ?_
    replace H := ej1 H; subst H
    exact ⟨rfl, h.se 1 []⟩

def plunderref5_Check_l1 (K : Nat) (p0 : T_api_Program) : Nat → Int → Option ((Unit) ⊕ (T_api_Fault))
  | 0, _ => none
  | k1 + 1, g9 => (if g9 < ((p0.Funcs.length : Nat) : Int) then if inr_ g9 p0.Funcs.length then ob1 (plunderref5_shaped (at_ p0.Funcs g9.toNat)) (fun r12 => (if r12 = true then (plunderref5_Check_l1 K p0 k1 (wi (g9 + 1))) else some (.inr (⟨51, g9, 0⟩ : T_api_Fault)))) else none else some (.inl ()))
def plunderref5_Check_l3 (K : Nat) (p0 : T_api_Program) (g17 : Int) : Nat → Int → Option ((Unit) ⊕ ((Unit) ⊕ ((Unit) ⊕ (T_api_Fault))))
  | 0, _ => none
  | k3 + 1, g25 => (if g25 < (((at_ p0.Funcs g17.toNat).Code.length : Nat) : Int) then if inr_ g25 (at_ p0.Funcs g17.toNat).Code.length then ob1 (plunderref5_alone (at_ p0.Funcs g17.toNat) (at_ (at_ p0.Funcs g17.toNat).Code g25.toNat)) (fun r28 => (if r28 = true then ob1 (plunderref5_called p0 (at_ p0.Funcs g17.toNat) (at_ (at_ p0.Funcs g17.toNat).Code g25.toNat)) (fun r31 => (if r31 = true then (plunderref5_Check_l3 K p0 g17 k3 (wi (g25 + 1))) else some (.inr (.inr (.inr (⟨52, g17, g25⟩ : T_api_Fault)))))) else some (.inr (.inr (.inr (⟨52, g17, g25⟩ : T_api_Fault)))))) else none else some (.inl ()))
def plunderref5_Check_l2 (K : Nat) (p0 : T_api_Program) : Nat → Int → Option ((Unit) ⊕ (T_api_Fault))
  | 0, _ => none
  | k2 + 1, g17 => (if g17 < ((p0.Funcs.length : Nat) : Int) then jn0 (if inr_ g17 p0.Funcs.length then jn0 ((plunderref5_Check_l3 K p0 g17 K 0)) (ob1 (plunderref5_ends (at_ p0.Funcs g17.toNat)) (fun r34 => (if r34 = true then some (.inl ()) else some (.inr (.inr (⟨53, g17, wi ((((at_ p0.Funcs g17.toNat).Code.length : Nat) : Int) - 1)⟩ : T_api_Fault)))))) else none) ((plunderref5_Check_l2 K p0 k2 (wi (g17 + 1)))) else some (.inl ()))
def plunderref5_Check_l5 (K : Nat) (p0 : T_api_Program) (g37 : Int) (r43 : List (List Int)) : Nat → Int → Option ((Unit) ⊕ (T_api_Fault))
  | 0, _ => none
  | k5 + 1, g47 => (if g47 < (((at_ p0.Funcs g37.toNat).Code.length : Nat) : Int) then if inr_ g47 (at_ p0.Funcs g37.toNat).Code.length then if inr_ g47 r43.length then ob1 (plunderref5_slotFault K (at_ (at_ p0.Funcs g37.toNat).Code g47.toNat) (at_ r43 g47.toNat)) (fun r55 => (if r55 = 0 then (plunderref5_Check_l5 K p0 g37 r43 k5 (wi (g47 + 1))) else some (.inr (⟨r55, g37, g47⟩ : T_api_Fault)))) else none else none else some (.inl ()))
def plunderref5_Check_l4 (K : Nat) (p0 : T_api_Program) : Nat → Int → Option (T_api_Fault)
  | 0, _ => none
  | k4 + 1, g37 => (if g37 < ((p0.Funcs.length : Nat) : Int) then jn0 (if inr_ g37 p0.Funcs.length then ob1 (plunderref5_Flow K (at_ p0.Funcs g37.toNat)) (fun r43 => (plunderref5_Check_l5 K p0 g37 r43 K 0)) else none) ((plunderref5_Check_l4 K p0 k4 (wi (g37 + 1)))) else some (⟨0, 0, 0⟩ : T_api_Fault))
/-- plunder/plunderref5.Check -/
def plunderref5_Check (K : Nat) (p0 : T_api_Program) : Option (T_api_Fault) :=
  jn0 ((if ((p0.Funcs.length : Nat) : Int) < 1 then some (.inr (⟨50, 0, 0⟩ : T_api_Fault)) else (if ((p0.Funcs.length : Nat) : Int) > 32 then some (.inr (⟨50, 0, 0⟩ : T_api_Fault)) else some (.inl ())))) (jn0 ((plunderref5_Check_l1 K p0 K 0)) (jn0 ((plunderref5_Check_l2 K p0 K 0)) ((plunderref5_Check_l4 K p0 K 0))))

theorem plunderref5_Check_ok {z w : World} {L : List HProp} {K : Nat} {p0 : T_api_Program} {va0_Funcs : Option Addr} {vc0_Funcs : Nat} {hs0_Funcs : Nat → Option Addr × Nat} {r0 : T_api_Fault} (H : plunderref5_Check K p0 = some r0) (h : Fit z (sepL (L)) w) (hv0_Funcs : Rd76 L va0_Funcs hs0_Funcs p0.Funcs) :
    Calls Tryd.prog 25 #[.agg #[.slice va0_Funcs p0.Funcs.length vc0_Funcs]] w fun e w => e = .returned (ag_T_api_Fault r0) ∧ Fit z (sepL (L)) w := by
 unfold plunderref5_Check at H
 refine enter Tryd.func25 rfl 131 rfl rfl [(0, .agg #[.slice va0_Funcs p0.Funcs.length vc0_Funcs])] ⟨rfl, trivial⟩ ?_
 intro j a hr
 refine sr ?_
 refine onew (wn rfl) hr h nb (#[.slice va0_Funcs p0.Funcs.length vc0_Funcs]) 24 fun b1 w a h hr => ?_
 refine onew (wn rfl) hr h nb (#[vI 0, vI 0, vI 0]) 104 fun b2 w a h hr => ?_
 refine ln ?_
 obtain ⟨o4, H, hK3⟩ := jd0 H
 refine cut_rule (β := Unit) (fun _ a w => .inl () = o4 ∧ ∃ j, Rep 131 (lk [(1, pA b1 0), (2, pA b2 0)] j) a ∧ Fit z (sepL (pts b1 (.cells #[.slice va0_Funcs p0.Funcs.length vc0_Funcs] 24) :: pts b2 (.cells #[vI 0, vI 0, vI 0] 104) :: L)) w) ?_ ?_
 ·
  refine sr ?_
  refine o1 hr (pA b1 0) fun a hr => ?_
  refine ld (wn rfl) hr (.slice va0_Funcs p0.Funcs.length vc0_Funcs) ((h.pick 1).cell 0 rfl) fun a hr => ?_
  refine oo [16, 17, 18] [vI ((p0.Funcs.length : Nat) : Int), vB (decide (((p0.Funcs.length : Nat) : Int) < 1)), vB (decide (((p0.Funcs.length : Nat) : Int) < 1))] hr fun a hr => ?_
  by_cases c5 : ((p0.Funcs.length : Nat) : Int) < 1
  ·
   replace H := ifT c5 H
   refine offl (decide_eq_true c5) [19, 20, 21, 22] hr fun a hr => ?_
   refine opv (wn rfl) hr (vB true) (rp_t (b := (decide (((p0.Funcs.length : Nat) : Int) < 1))) rfl (by kernel_rfl) (decide_eq_true c5) (by kernel_rfl)) fun a hr => ?_
   refine ln ?_
   refine cond_tt hr (b := true) rfl ?_
   refine sr ?_
   refine o1 hr (.agg #[vI 50, vI 0, vI 0]) fun a hr => ?_
   refine stm (wn rfl) hr h 0 ([vI 50, vI 0, vI 0]) (pts b2 (.cells #[vI 50, vI 0, vI 0] 104)) fun w h => ?_
   refine ln ?_
   refine wp_ret ?_
   refine then_ret ?_
   refine end_retC (cs := [vI 50, vI 0, vI 0]) rfl hr (by kernel_rfl) (by kernel_rfl) (by kernel_rfl) (h.held 0 rfl) ?_
   replace H := jx0 H hK3
   replace H := ej1 H; subst H
   exact ⟨rfl, h.se 2 []⟩
  ·
   replace H := ifF c5 H
   refine onl (decide_eq_false c5) [19] [pA b1 0] hr fun a hr => ?_
   refine ld (wgt hr (decide_eq_false c5)) hr (.slice va0_Funcs p0.Funcs.length vc0_Funcs) ((h.pick 1).cell 0 rfl) fun a hr => ?_
   refine onl (decide_eq_false c5) [21, 22] [vI ((p0.Funcs.length : Nat) : Int), vB (decide (((p0.Funcs.length : Nat) : Int) > 32))] hr fun a hr => ?_
   refine opv (wn rfl) hr (vB (decide (((p0.Funcs.length : Nat) : Int) > 32))) (rp_f (b := (decide (((p0.Funcs.length : Nat) : Int) < 1))) rfl (by kernel_rfl) (decide_eq_false c5) (by kernel_rfl)) fun a hr => ?_
   refine ln ?_
   refine cD hr H (fun c6 H => ?_) fun c6 H => ?_
   ·
    refine sr ?_
    refine o1 hr (.agg #[vI 50, vI 0, vI 0]) fun a hr => ?_
    refine stm (wn rfl) hr h 0 ([vI 50, vI 0, vI 0]) (pts b2 (.cells #[vI 50, vI 0, vI 0] 104)) fun w h => ?_
    refine ln ?_
    refine wp_ret ?_
    refine then_ret ?_
    refine end_retC (cs := [vI 50, vI 0, vI 0]) rfl hr (by kernel_rfl) (by kernel_rfl) (by kernel_rfl) (h.held 0 rfl) ?_
    replace H := jx0 H hK3
    replace H := ej1 H; subst H
    exact ⟨rfl, h.se 2 []⟩
   ·
    refine wp_skip ?_
    refine then_normal ?_
    exact ⟨(), sinj H, hr.fj (h.se 2 [1, 0])⟩
 clear h hr a; rintro _ a w ⟨rfl, j, hr, h⟩
 replace H := jk0 hK3
 obtain ⟨o8, H, hK7⟩ := jd0 H
 refine cut_rule (β := Unit) (fun _ a w => .inl () = o8 ∧ ∃ j, Rep 131 (lk [(1, pA b1 0), (2, pA b2 0)] j) a ∧ Fit z (sepL (pts b1 (.cells #[.slice va0_Funcs p0.Funcs.length vc0_Funcs] 24) :: pts b2 (.cells #[vI 0, vI 0, vI 0] 104) :: L)) w) ?_ ?_
 ·
  refine sr ?_
  refine o1 hr (vI 0) fun a hr => ?_
  refine ln ?_
  refine wp_block ?_
  refine loop_rule (β := Nat) id (fun m a w => ∃ g9 : Int, (plunderref5_Check_l1 K p0 m g9) = some o8 ∧ ∃ j, Rep 131 (lk [(1, pA b1 0), (2, pA b2 0), (3, vI g9)] j) a ∧ Fit z (sepL (pts b1 (.cells #[.slice va0_Funcs p0.Funcs.length vc0_Funcs] 24) :: pts b2 (.cells #[vI 0, vI 0, vI 0] 104) :: L)) w) K ⟨0, H, hr.fj h⟩ ?_
  clear h hr a H; rintro k1 a w ⟨g9, H, j, hr, h⟩
  cases k1 with
  | zero => exact absurd H (by simp [plunderref5_Check_l1])
  | succ k1 =>
   rw [plunderref5_Check_l1] at H
   refine wp_seq ?_
   refine sr ?_
   refine oo [25, 26] [vI g9, pA b1 0] hr fun a hr => ?_
   refine ld (wn rfl) hr (.slice va0_Funcs p0.Funcs.length vc0_Funcs) (h.cell 0 rfl) fun a hr => ?_
   refine oo [28, 29] [vI ((p0.Funcs.length : Nat) : Int), vB (decide (g9 < ((p0.Funcs.length : Nat) : Int)))] hr fun a hr => ?_
   refine ln ?_
   refine cD hr H (fun c10 H => ?_) fun c10 H => ?_
   ·
    refine wp_skip ?_
    refine then_normal ?_
    refine wp_seq ?_
    refine wp_block ?_
    refine sr ?_
    refine o1 hr (pA b1 0) fun a hr => ?_
    refine ld (wn rfl) hr (.slice va0_Funcs p0.Funcs.length vc0_Funcs) (h.cell 0 rfl) fun a hr => ?_
    obtain ⟨c11, H⟩ := gd H
    refine o1 hr (vI g9) fun a hr => ?_
    refine opv (wn rfl) hr (pA (blk va0_Funcs) (offs va0_Funcs + g9.toNat * 4)) (ri_rn (k := .i64) (E := 76) (cc := vc0_Funcs) rfl (by kernel_rfl) (by kernel_rfl) rfl (by kernel_rfl) (by kernel_rfl) hv0_Funcs c11) fun a hr => ?_
    refine ldm (wn rfl) hr (.agg #[vI (at_ p0.Funcs g9.toNat).Params, vI (at_ p0.Funcs g9.toNat).Regs, vI (at_ p0.Funcs g9.toNat).Slots, .slice ((hs0_Funcs g9.toNat).1) (at_ p0.Funcs g9.toNat).Code.length ((hs0_Funcs g9.toNat).2)]) (cs := [vI (at_ p0.Funcs g9.toNat).Params, vI (at_ p0.Funcs g9.toNat).Regs, vI (at_ p0.Funcs g9.toNat).Slots, .slice ((hs0_Funcs g9.toNat).1) (at_ p0.Funcs g9.toNat).Code.length ((hs0_Funcs g9.toNat).2)]) ⟨hv0_Funcs.cell c11 (h.dn 2) 0 rfl, hv0_Funcs.cell c11 (h.dn 2) 1 rfl, hv0_Funcs.cell c11 (h.dn 2) 2 rfl, hv0_Funcs.cell c11 (h.dn 2) 3 rfl, trivial⟩ fun a hr => ?_
    obtain ⟨r12, e13, H⟩ := bd1 H
    have hc := plunderref5_shaped_ok (va0_Code := ((hs0_Funcs g9.toNat).1)) (vc0_Code := ((hs0_Funcs g9.toNat).2)) (hv0_Code := (RdRow.up 2 (hv0_Funcs.inn c11))) (H := e13) (h := h)
    refine cl (wn rfl) hr hc ?_; clear hc h
    rintro _ w ⟨rfl, h⟩; refine ⟨_, rfl, fun a hr => ?_⟩
    refine o1 hr (vB r12) fun a hr => ?_
    refine ln ?_
    refine sr ?_
    refine oo [38, 39] [vB r12, vB (!r12)] hr fun a hr => ?_
    refine ln ?_
    refine cM hr H (fun c14 H => ?_) fun c14 H => ?_
    ·
     refine wp_skip ?_
     refine blk_normal ?_
     refine then_normal ?_
     refine wp_region_lit ?_
     refine oo [30, 31, 3] [vI g9, vI (wi (g9 + 1)), vI (wi (g9 + 1))] hr fun a hr => ?_
     refine ln ?_
     exact ⟨_, ⟨(wi (g9 + 1)), H, hr.fj h⟩, Nat.lt_succ_self _⟩
    ·
     refine sr ?_
     refine oo [40, 41] [vI g9, .agg #[vI 51, vI g9, vI 0]] hr fun a hr => ?_
     replace h := h.m1
     refine stm (wn rfl) hr h 0 ([vI 51, vI g9, vI 0]) (pts b2 (.cells #[vI 51, vI g9, vI 0] 104)) fun w h => ?_
     refine ln ?_
     refine wp_ret ?_
     refine blk_ret ?_
     refine then_ret ?_
     refine then_ret ?_
     refine blk_ret ?_
     refine then_ret ?_
     refine end_retC (cs := [vI 51, vI g9, vI 0]) rfl hr (by kernel_rfl) (by kernel_rfl) (by kernel_rfl) (h.held 0 rfl) ?_
     replace H := jx0 H hK7
     replace H := ej1 H; subst H
     exact ⟨rfl, h.se 2 []⟩
   ·
    refine wp_exit ?_
    refine then_exit ?_
    refine then_exit ?_
    refine blk_here ?_
    refine then_normal ?_
    exact ⟨(), sinj H, hr.fj h⟩
 clear h hr a; rintro _ a w ⟨rfl, j, hr, h⟩
 replace H := jk0 hK7
 obtain ⟨o16, H, hK15⟩ := jd0 H
 refine cut_rule (β := Unit) (fun _ a w => .inl () = o16 ∧ ∃ j, Rep 131 (lk [(1, pA b1 0), (2, pA b2 0)] j) a ∧ Fit z (sepL (pts b1 (.cells #[.slice va0_Funcs p0.Funcs.length vc0_Funcs] 24) :: pts b2 (.cells #[vI 0, vI 0, vI 0] 104) :: L)) w) ?_ ?_
 ·
  refine sr ?_
  refine o1 hr (vI 0) fun a hr => ?_
  refine ln ?_
  refine wp_block ?_
  refine loop_rule (β := Nat) id (fun m a w => ∃ g17 : Int, (plunderref5_Check_l2 K p0 m g17) = some o16 ∧ ∃ j, Rep 131 (lk [(1, pA b1 0), (2, pA b2 0), (5, vI g17)] j) a ∧ Fit z (sepL (pts b1 (.cells #[.slice va0_Funcs p0.Funcs.length vc0_Funcs] 24) :: pts b2 (.cells #[vI 0, vI 0, vI 0] 104) :: L)) w) K ⟨0, H, hr.fj h⟩ ?_
  clear h hr a H; rintro k2 a w ⟨g17, H, j, hr, h⟩
  cases k2 with
  | zero => exact absurd H (by simp [plunderref5_Check_l2])
  | succ k2 =>
   rw [plunderref5_Check_l2] at H
   refine wp_seq ?_
   refine sr ?_
   refine oo [42, 43] [vI g17, pA b1 0] hr fun a hr => ?_
   refine ld (wn rfl) hr (.slice va0_Funcs p0.Funcs.length vc0_Funcs) (h.cell 0 rfl) fun a hr => ?_
   refine oo [45, 46] [vI ((p0.Funcs.length : Nat) : Int), vB (decide (g17 < ((p0.Funcs.length : Nat) : Int)))] hr fun a hr => ?_
   refine ln ?_
   refine cD hr H (fun c18 H => ?_) fun c18 H => ?_
   ·
    refine wp_skip ?_
    refine then_normal ?_
    obtain ⟨o20, H, hK19⟩ := jd0 H
    refine cut_rule (β := Unit) (fun _ a w => .inl () = o20 ∧ ∃ j, Rep 131 (lk [(1, pA b1 0), (2, pA b2 0), (5, vI g17)] j) a ∧ Fit z (sepL (pts b1 (.cells #[.slice va0_Funcs p0.Funcs.length vc0_Funcs] 24) :: pts b2 (.cells #[vI 0, vI 0, vI 0] 104) :: L)) w) ?_ ?_
    ·
     refine wp_block ?_
     refine sr ?_
     refine o1 hr (pA b1 0) fun a hr => ?_
     refine ld (wn rfl) hr (.slice va0_Funcs p0.Funcs.length vc0_Funcs) (h.cell 0 rfl) fun a hr => ?_
     obtain ⟨c21, H⟩ := gd H
     refine o1 hr (vI g17) fun a hr => ?_
     refine opv (wn rfl) hr (pA (blk va0_Funcs) (offs va0_Funcs + g17.toNat * 4)) (ri_rn (k := .i64) (E := 76) (cc := vc0_Funcs) rfl (by kernel_rfl) (by kernel_rfl) rfl (by kernel_rfl) (by kernel_rfl) hv0_Funcs c21) fun a hr => ?_
     refine ldm (wn rfl) hr (.agg #[vI (at_ p0.Funcs g17.toNat).Params, vI (at_ p0.Funcs g17.toNat).Regs, vI (at_ p0.Funcs g17.toNat).Slots, .slice ((hs0_Funcs g17.toNat).1) (at_ p0.Funcs g17.toNat).Code.length ((hs0_Funcs g17.toNat).2)]) (cs := [vI (at_ p0.Funcs g17.toNat).Params, vI (at_ p0.Funcs g17.toNat).Regs, vI (at_ p0.Funcs g17.toNat).Slots, .slice ((hs0_Funcs g17.toNat).1) (at_ p0.Funcs g17.toNat).Code.length ((hs0_Funcs g17.toNat).2)]) ⟨hv0_Funcs.cell c21 (h.dn 2) 0 rfl, hv0_Funcs.cell c21 (h.dn 2) 1 rfl, hv0_Funcs.cell c21 (h.dn 2) 2 rfl, hv0_Funcs.cell c21 (h.dn 2) 3 rfl, trivial⟩ fun a hr => ?_
     refine onew (wn rfl) hr h nb (#[vI 0, vI 0, vI 0, .slice none 0 0]) 76 fun b22 w a h hr => ?_
     refine stm (wn rfl) hr h 0 ([vI (at_ p0.Funcs g17.toNat).Params, vI (at_ p0.Funcs g17.toNat).Regs, vI (at_ p0.Funcs g17.toNat).Slots, .slice ((hs0_Funcs g17.toNat).1) (at_ p0.Funcs g17.toNat).Code.length ((hs0_Funcs g17.toNat).2)]) (ob76 b22 (at_ p0.Funcs g17.toNat) ((hs0_Funcs g17.toNat).1) ((hs0_Funcs g17.toNat).2)) fun w h => ?_
     refine ln ?_
     obtain ⟨o24, H, hK23⟩ := jd0 H
     refine cut_rule (β := Unit) (fun _ a w => .inl () = o24 ∧ ∃ j, Rep 131 (lk [(1, pA b1 0), (2, pA b2 0), (5, vI g17), (6, pA b22 0)] j) a ∧ Fit z (sepL (pts b1 (.cells #[.slice va0_Funcs p0.Funcs.length vc0_Funcs] 24) :: pts b2 (.cells #[vI 0, vI 0, vI 0] 104) :: ob76 b22 (at_ p0.Funcs g17.toNat) ((hs0_Funcs g17.toNat).1) ((hs0_Funcs g17.toNat).2) :: L)) w) ?_ ?_
     ·
      refine sr ?_
      refine o1 hr (vI 0) fun a hr => ?_
      refine ln ?_
      refine wp_block ?_
      refine loop_rule (β := Nat) id (fun m a w => ∃ g25 : Int, (plunderref5_Check_l3 K p0 g17 m g25) = some o24 ∧ ∃ j, Rep 131 (lk [(1, pA b1 0), (2, pA b2 0), (5, vI g17), (6, pA b22 0), (7, vI g25)] j) a ∧ Fit z (sepL (pts b1 (.cells #[.slice va0_Funcs p0.Funcs.length vc0_Funcs] 24) :: pts b2 (.cells #[vI 0, vI 0, vI 0] 104) :: ob76 b22 (at_ p0.Funcs g17.toNat) ((hs0_Funcs g17.toNat).1) ((hs0_Funcs g17.toNat).2) :: L)) w) K ⟨0, H, hr.fj (h.se 3 [1, 2, 0])⟩ ?_
      clear h hr a H; rintro k3 a w ⟨g25, H, j, hr, h⟩
      cases k3 with
      | zero => exact absurd H (by simp [plunderref5_Check_l3])
      | succ k3 =>
       rw [plunderref5_Check_l3] at H
       refine wp_seq ?_
       refine sr ?_
       refine oo [54, 55] [vI g25, pA b22 3] hr fun a hr => ?_
       refine ld (wn rfl) hr (.slice ((hs0_Funcs g17.toNat).1) (at_ p0.Funcs g17.toNat).Code.length ((hs0_Funcs g17.toNat).2)) ((h.pick 2).cell 3 rfl) fun a hr => ?_
       refine oo [57, 58] [vI (((at_ p0.Funcs g17.toNat).Code.length : Nat) : Int), vB (decide (g25 < (((at_ p0.Funcs g17.toNat).Code.length : Nat) : Int)))] hr fun a hr => ?_
       refine ln ?_
       refine cD hr H (fun c26 H => ?_) fun c26 H => ?_
       ·
        refine wp_skip ?_
        refine then_normal ?_
        refine wp_seq ?_
        refine wp_block ?_
        refine wp_seq ?_
        obtain ⟨c27, H⟩ := gd H
        obtain ⟨r28, e29, H⟩ := bd1 H
        by_cases c30 : r28 = true
        ·
         replace H := ifT c30 H
         obtain ⟨r31, e32, H⟩ := bd1 H
         refine regL [(b22, 0, [vI (at_ p0.Funcs g17.toNat).Params, vI (at_ p0.Funcs g17.toNat).Regs, vI (at_ p0.Funcs g17.toNat).Slots, .slice ((hs0_Funcs g17.toNat).1) (at_ p0.Funcs g17.toNat).Code.length ((hs0_Funcs g17.toNat).2)]), (b22, 3, [.slice ((hs0_Funcs g17.toNat).1) (at_ p0.Funcs g17.toNat).Code.length ((hs0_Funcs g17.toNat).2)]), (blk ((hs0_Funcs g17.toNat).1), offs ((hs0_Funcs g17.toNat).1) + g25.toNat * 5, cl_T_api_Instr (at_ (at_ p0.Funcs g17.toNat).Code g25.toNat)), (b1, 0, [.slice va0_Funcs p0.Funcs.length vc0_Funcs]), (b22, 0, [vI (at_ p0.Funcs g17.toNat).Params, vI (at_ p0.Funcs g17.toNat).Regs, vI (at_ p0.Funcs g17.toNat).Slots, .slice ((hs0_Funcs g17.toNat).1) (at_ p0.Funcs g17.toNat).Code.length ((hs0_Funcs g17.toNat).2)]), (b22, 3, [.slice ((hs0_Funcs g17.toNat).1) (at_ p0.Funcs g17.toNat).Code.length ((hs0_Funcs g17.toNat).2)]), (blk ((hs0_Funcs g17.toNat).1), offs ((hs0_Funcs g17.toNat).1) + g25.toNat * 5, cl_T_api_Instr (at_ (at_ p0.Funcs g17.toNat).Code g25.toNat))] [1, 4, 6, 7, 11, 14] 19 h (fun h => ⟨((h.pick 2).held 0 rfl), ⟨(h.pick 2).cell 3 rfl, trivial⟩, ⟨(hv0_Funcs.inn c21).cell c27 (h.dn 3) 0 rfl, (hv0_Funcs.inn c21).cell c27 (h.dn 3) 1 rfl, (hv0_Funcs.inn c21).cell c27 (h.dn 3) 2 rfl, (hv0_Funcs.inn c21).cell c27 (h.dn 3) 3 rfl, (hv0_Funcs.inn c21).cell c27 (h.dn 3) 4 rfl, trivial⟩, ⟨h.cell 0 rfl, trivial⟩, ((h.pick 2).held 0 rfl), ⟨(h.pick 2).cell 3 rfl, trivial⟩, ⟨(hv0_Funcs.inn c21).cell c27 (h.dn 3) 0 rfl, (hv0_Funcs.inn c21).cell c27 (h.dn 3) 1 rfl, (hv0_Funcs.inn c21).cell c27 (h.dn 3) 2 rfl, (hv0_Funcs.inn c21).cell c27 (h.dn 3) 3 rfl, (hv0_Funcs.inn c21).cell c27 (h.dn 3) 4 rfl, trivial⟩, trivial⟩) fun w h hd => ?_
         refine evs' hd 17 [(1, 62, pA b22 3), (3, 64, vI g25)] hr fun a hr => ?_
         refine elm hd 0 16 0 hr (wn rfl) rfl rfl fun a hr => ?_
         refine elx hd 1 15 2 hr (wn rfl) rfl rfl fun a hr => ?_
         refine eon hd 14 4 rfl (wn rfl) hr (pA (blk ((hs0_Funcs g17.toNat).1)) (offs ((hs0_Funcs g17.toNat).1) + g25.toNat * 5)) (hrun := fun w => ri_rd (k := .i64) (E := 108) (cc := ((hs0_Funcs g17.toNat).2)) rfl (by kernel_rfl) (by kernel_rfl) rfl (by kernel_rfl) (by kernel_rfl) (hv0_Funcs.inn c21) c27) fun a hr => ?_
         refine elm hd 2 13 5 hr (wn rfl) rfl rfl fun a hr => ?_
         refine eo1 6 rfl ?_
         have hc := plunderref5_alone_ok (va0_Code := ((hs0_Funcs g17.toNat).1)) (vc0_Code := ((hs0_Funcs g17.toNat).2)) (hv0_Code := (RdRow.up 3 (hv0_Funcs.inn c21))) (H := e29) (h := h)
         refine cl (wn rfl) hr hc ?_; clear hc h
         rintro _ w ⟨rfl, h⟩; refine ⟨_, rfl, fun a hr => ?_⟩
         refine ln ?_
         refine eE ⟨((h.pick 2).held 0 rfl), ⟨(h.pick 2).cell 3 rfl, trivial⟩, ⟨(hv0_Funcs.inn c21).cell c27 (h.dn 3) 0 rfl, (hv0_Funcs.inn c21).cell c27 (h.dn 3) 1 rfl, (hv0_Funcs.inn c21).cell c27 (h.dn 3) 2 rfl, (hv0_Funcs.inn c21).cell c27 (h.dn 3) 3 rfl, (hv0_Funcs.inn c21).cell c27 (h.dn 3) 4 rfl, trivial⟩, ⟨h.cell 0 rfl, trivial⟩, ((h.pick 2).held 0 rfl), ⟨(h.pick 2).cell 3 rfl, trivial⟩, ⟨(hv0_Funcs.inn c21).cell c27 (h.dn 3) 0 rfl, (hv0_Funcs.inn c21).cell c27 (h.dn 3) 1 rfl, (hv0_Funcs.inn c21).cell c27 (h.dn 3) 2 rfl, (hv0_Funcs.inn c21).cell c27 (h.dn 3) 3 rfl, (hv0_Funcs.inn c21).cell c27 (h.dn 3) 4 rfl, trivial⟩, trivial⟩ fun hd => ?_
         refine evs' hd 10 [(7, 68, vB (!r28)), (8, 69, vB (!r28))] hr fun a hr => ?_
         refine eon hd 9 11 rfl (wgt hr (x := !r28) (c := false) (by rw [show r28 = true from (c30)]; rfl)) hr (pA b22 3) fun a hr => ?_
         refine eon hd 8 13 rfl (wgt hr (x := !r28) (c := false) (by rw [show r28 = true from (c30)]; rfl)) hr (vI g25) fun a hr => ?_
         refine elm hd 3 7 9 hr (wgt hr (x := !r28) (c := false) (by rw [show r28 = true from (c30)]; rfl)) rfl rfl fun a hr => ?_
         refine elm hd 4 6 10 hr (wgt hr (x := !r28) (c := false) (by rw [show r28 = true from (c30)]; rfl)) rfl rfl fun a hr => ?_
         refine elx hd 5 5 12 hr (wgt hr (x := !r28) (c := false) (by rw [show r28 = true from (c30)]; rfl)) rfl rfl fun a hr => ?_
         refine eon hd 4 14 rfl (wgt hr (x := !r28) (c := false) (by rw [show r28 = true from (c30)]; rfl)) hr (pA (blk ((hs0_Funcs g17.toNat).1)) (offs ((hs0_Funcs g17.toNat).1) + g25.toNat * 5)) (hrun := fun w => ri_rd (k := .i64) (E := 108) (cc := ((hs0_Funcs g17.toNat).2)) rfl (by kernel_rfl) (by kernel_rfl) rfl (by kernel_rfl) (by kernel_rfl) (hv0_Funcs.inn c21) c27) fun a hr => ?_
         refine elm hd 6 3 15 hr (wgt hr (x := !r28) (c := false) (by rw [show r28 = true from (c30)]; rfl)) rfl rfl fun a hr => ?_
         refine eo1 16 rfl ?_
         have hc := plunderref5_called_ok (va0_Funcs := va0_Funcs) (vc0_Funcs := vc0_Funcs) (hv0_Funcs := (RdN.up 3 hv0_Funcs)) (va1_Code := ((hs0_Funcs g17.toNat).1)) (vc1_Code := ((hs0_Funcs g17.toNat).2)) (hv1_Code := (RdRow.up 3 (hv0_Funcs.inn c21))) (hs0_Funcs := hs0_Funcs) (H := e32) (h := h)
         refine cl (wgt hr (x := !r28) (c := false) (by rw [show r28 = true from (c30)]; rfl)) hr hc ?_; clear hc h
         rintro _ w ⟨rfl, h⟩; refine ⟨_, rfl, fun a hr => ?_⟩
         refine ln ?_
         refine xE ?_
         refine evs 1 17 rfl (wgt hr (x := !r28) (c := false) (by rw [show r28 = true from (c30)]; rfl)) hr (vB (!r31)) fun a hr => ?_
         refine evs 0 18 rfl (wn rfl) hr (vB (!r31)) (hrun := fun w => rp_f (b := (!r28)) rfl (by kernel_rfl) (by rw [show r28 = true from (c30)]; rfl) (by kernel_rfl)) fun a hr => ?_
         refine een ?_
         refine then_normal ?_
         refine cM hr H (fun c33 H => ?_) fun c33 H => ?_
         ·
          refine wp_skip ?_
          refine blk_normal ?_
          refine then_normal ?_
          refine wp_region_lit ?_
          refine oo [59, 60, 7] [vI g25, vI (wi (g25 + 1)), vI (wi (g25 + 1))] hr fun a hr => ?_
          refine ln ?_
          exact ⟨_, ⟨(wi (g25 + 1)), H, hr.fj h⟩, Nat.lt_succ_self _⟩
         ·
          refine sr ?_
          refine oo [80, 81, 82] [vI g17, vI g25, .agg #[vI 52, vI g17, vI g25]] hr fun a hr => ?_
          replace h := h.m1
          refine stm (wn rfl) hr h 0 ([vI 52, vI g17, vI g25]) (pts b2 (.cells #[vI 52, vI g17, vI g25] 104)) fun w h => ?_
          refine ln ?_
          refine wp_ret ?_
          refine blk_ret ?_
          refine then_ret ?_
          refine then_ret ?_
          refine blk_ret ?_
          refine then_ret ?_
          refine blk_ret ?_
          refine then_ret ?_
          refine then_ret ?_
          refine blk_ret ?_
          refine then_ret ?_
          refine end_retC (cs := [vI 52, vI g17, vI g25]) rfl hr (by kernel_rfl) (by kernel_rfl) (by kernel_rfl) (h.held 0 rfl) ?_
          replace H := jx0 H hK23
          replace H := jx0 H hK19
          replace H := jx0 H hK15
          replace H := ej1 H; subst H
          exact ⟨rfl, h.se 3 []⟩
        ·
         replace H := ifF c30 H
         refine regL [(b22, 0, [vI (at_ p0.Funcs g17.toNat).Params, vI (at_ p0.Funcs g17.toNat).Regs, vI (at_ p0.Funcs g17.toNat).Slots, .slice ((hs0_Funcs g17.toNat).1) (at_ p0.Funcs g17.toNat).Code.length ((hs0_Funcs g17.toNat).2)]), (b22, 3, [.slice ((hs0_Funcs g17.toNat).1) (at_ p0.Funcs g17.toNat).Code.length ((hs0_Funcs g17.toNat).2)]), (blk ((hs0_Funcs g17.toNat).1), offs ((hs0_Funcs g17.toNat).1) + g25.toNat * 5, cl_T_api_Instr (at_ (at_ p0.Funcs g17.toNat).Code g25.toNat))] [1, 4] 19 h (fun h => ⟨((h.pick 2).held 0 rfl), ⟨(h.pick 2).cell 3 rfl, trivial⟩, ⟨(hv0_Funcs.inn c21).cell c27 (h.dn 3) 0 rfl, (hv0_Funcs.inn c21).cell c27 (h.dn 3) 1 rfl, (hv0_Funcs.inn c21).cell c27 (h.dn 3) 2 rfl, (hv0_Funcs.inn c21).cell c27 (h.dn 3) 3 rfl, (hv0_Funcs.inn c21).cell c27 (h.dn 3) 4 rfl, trivial⟩, trivial⟩) fun w h hd => ?_
         refine evs' hd 17 [(1, 62, pA b22 3), (3, 64, vI g25)] hr fun a hr => ?_
         refine elm hd 0 16 0 hr (wn rfl) rfl rfl fun a hr => ?_
         refine elx hd 1 15 2 hr (wn rfl) rfl rfl fun a hr => ?_
         refine eon hd 14 4 rfl (wn rfl) hr (pA (blk ((hs0_Funcs g17.toNat).1)) (offs ((hs0_Funcs g17.toNat).1) + g25.toNat * 5)) (hrun := fun w => ri_rd (k := .i64) (E := 108) (cc := ((hs0_Funcs g17.toNat).2)) rfl (by kernel_rfl) (by kernel_rfl) rfl (by kernel_rfl) (by kernel_rfl) (hv0_Funcs.inn c21) c27) fun a hr => ?_
         refine elm hd 2 13 5 hr (wn rfl) rfl rfl fun a hr => ?_
         refine eo1 6 rfl ?_
         have hc := plunderref5_alone_ok (va0_Code := ((hs0_Funcs g17.toNat).1)) (vc0_Code := ((hs0_Funcs g17.toNat).2)) (hv0_Code := (RdRow.up 3 (hv0_Funcs.inn c21))) (H := e29) (h := h)
         refine cl (wn rfl) hr hc ?_; clear hc h
         rintro _ w ⟨rfl, h⟩; refine ⟨_, rfl, fun a hr => ?_⟩
         refine ln ?_
         refine xE ?_
         refine evs 11 7 rfl (wn rfl) hr (vB (!r28)) fun a hr => ?_
         refine evs 10 8 rfl (wn rfl) hr (vB (!r28)) fun a hr => ?_
         refine eos 9 11 rfl (wgt hr (x := !r28) (c := true) (by rw [show r28 = false from (bF c30)]; rfl)) hr fun a hr => ?_
         refine eos 8 13 rfl (wgt hr (x := !r28) (c := true) (by rw [show r28 = false from (bF c30)]; rfl)) hr fun a hr => ?_
         refine eos 7 9 rfl (wgt hr (x := !r28) (c := true) (by rw [show r28 = false from (bF c30)]; rfl)) hr fun a hr => ?_
         refine eos 6 10 rfl (wgt hr (x := !r28) (c := true) (by rw [show r28 = false from (bF c30)]; rfl)) hr fun a hr => ?_
         refine eos 5 12 rfl (wgt hr (x := !r28) (c := true) (by rw [show r28 = false from (bF c30)]; rfl)) hr fun a hr => ?_
         refine eos 4 14 rfl (wgt hr (x := !r28) (c := true) (by rw [show r28 = false from (bF c30)]; rfl)) hr fun a hr => ?_
         refine eos 3 15 rfl (wgt hr (x := !r28) (c := true) (by rw [show r28 = false from (bF c30)]; rfl)) hr fun a hr => ?_
         refine eo1 16 rfl ?_
         refine offg (wgt hr (x := !r28) (c := true) (by rw [show r28 = false from (bF c30)]; rfl)) hr fun a hr => ?_
         refine ln ?_
         refine xE ?_
         refine eos 1 17 rfl (wgt hr (x := !r28) (c := true) (by rw [show r28 = false from (bF c30)]; rfl)) hr fun a hr => ?_
         refine evs 0 18 rfl (wn rfl) hr (vB true) (hrun := fun w => rp_t (b := (!r28)) rfl (by kernel_rfl) (by rw [show r28 = false from (bF c30)]; rfl) (by kernel_rfl)) fun a hr => ?_
         refine een ?_
         refine then_normal ?_
         refine cond_tt hr (b := true) rfl ?_
         refine sr ?_
         refine oo [80, 81, 82] [vI g17, vI g25, .agg #[vI 52, vI g17, vI g25]] hr fun a hr => ?_
         replace h := h.m1
         refine stm (wn rfl) hr h 0 ([vI 52, vI g17, vI g25]) (pts b2 (.cells #[vI 52, vI g17, vI g25] 104)) fun w h => ?_
         refine ln ?_
         refine wp_ret ?_
         refine blk_ret ?_
         refine then_ret ?_
         refine then_ret ?_
         refine blk_ret ?_
         refine then_ret ?_
         refine blk_ret ?_
         refine then_ret ?_
         refine then_ret ?_
         refine blk_ret ?_
         refine then_ret ?_
         refine end_retC (cs := [vI 52, vI g17, vI g25]) rfl hr (by kernel_rfl) (by kernel_rfl) (by kernel_rfl) (h.held 0 rfl) ?_
         replace H := jx0 H hK23
         replace H := jx0 H hK19
         replace H := jx0 H hK15
         replace H := ej1 H; subst H
         exact ⟨rfl, h.se 3 []⟩
       ·
        refine wp_exit ?_
        refine then_exit ?_
        refine then_exit ?_
        refine blk_here ?_
        refine then_normal ?_
        exact ⟨(), sinj H, hr.fj h⟩
     clear h hr a; rintro _ a w ⟨rfl, j, hr, h⟩
     replace H := jk0 hK23
     refine sr ?_
     refine ldm (wn rfl) hr (.agg #[vI (at_ p0.Funcs g17.toNat).Params, vI (at_ p0.Funcs g17.toNat).Regs, vI (at_ p0.Funcs g17.toNat).Slots, .slice ((hs0_Funcs g17.toNat).1) (at_ p0.Funcs g17.toNat).Code.length ((hs0_Funcs g17.toNat).2)]) (cs := [vI (at_ p0.Funcs g17.toNat).Params, vI (at_ p0.Funcs g17.toNat).Regs, vI (at_ p0.Funcs g17.toNat).Slots, .slice ((hs0_Funcs g17.toNat).1) (at_ p0.Funcs g17.toNat).Code.length ((hs0_Funcs g17.toNat).2)]) ((h.pick 2).held 0 rfl) fun a hr => ?_
     obtain ⟨r34, e35, H⟩ := bd1 H
     have hc := plunderref5_ends_ok (va0_Code := ((hs0_Funcs g17.toNat).1)) (vc0_Code := ((hs0_Funcs g17.toNat).2)) (hv0_Code := (RdRow.up 3 (hv0_Funcs.inn c21))) (H := e35) (h := h)
     refine cl (wn rfl) hr hc ?_; clear hc h
     rintro _ w ⟨rfl, h⟩; refine ⟨_, rfl, fun a hr => ?_⟩
     refine o1 hr (vB r34) fun a hr => ?_
     refine ln ?_
     refine sr ?_
     refine oo [85, 86] [vB r34, vB (!r34)] hr fun a hr => ?_
     refine ln ?_
     refine cM hr H (fun c36 H => ?_) fun c36 H => ?_
     ·
      refine wp_skip ?_
      refine blk_normal ?_
      refine then_normal ?_
      exact ⟨(), sinj H, hr.fj (h.se 3 [0, 1])⟩
     ·
      refine sr ?_
      refine oo [87, 88] [vI g17, pA b22 3] hr fun a hr => ?_
      refine ld (wn rfl) hr (.slice ((hs0_Funcs g17.toNat).1) (at_ p0.Funcs g17.toNat).Code.length ((hs0_Funcs g17.toNat).2)) ((h.pick 2).cell 3 rfl) fun a hr => ?_
      refine oo [90, 91, 92] [vI (((at_ p0.Funcs g17.toNat).Code.length : Nat) : Int), vI (wi ((((at_ p0.Funcs g17.toNat).Code.length : Nat) : Int) - 1)), .agg #[vI 53, vI g17, vI (wi ((((at_ p0.Funcs g17.toNat).Code.length : Nat) : Int) - 1))]] hr fun a hr => ?_
      replace h := h.m1
      refine stm (wn rfl) hr h 0 ([vI 53, vI g17, vI (wi ((((at_ p0.Funcs g17.toNat).Code.length : Nat) : Int) - 1))]) (pts b2 (.cells #[vI 53, vI g17, vI (wi ((((at_ p0.Funcs g17.toNat).Code.length : Nat) : Int) - 1))] 104)) fun w h => ?_
      refine ln ?_
      refine wp_ret ?_
      refine blk_ret ?_
      refine then_ret ?_
      refine then_ret ?_
      refine blk_ret ?_
      refine then_ret ?_
      refine end_retC (cs := [vI 53, vI g17, vI (wi ((((at_ p0.Funcs g17.toNat).Code.length : Nat) : Int) - 1))]) rfl hr (by kernel_rfl) (by kernel_rfl) (by kernel_rfl) (h.held 0 rfl) ?_
      replace H := jx0 H hK19
      replace H := jx0 H hK15
      replace H := ej1 H; subst H
      exact ⟨rfl, h.se 3 []⟩
    clear h hr a; rintro _ a w ⟨rfl, j, hr, h⟩
    replace H := jk0 hK19
    refine wp_region_lit ?_
    refine oo [47, 48, 5] [vI g17, vI (wi (g17 + 1)), vI (wi (g17 + 1))] hr fun a hr => ?_
    refine ln ?_
    exact ⟨_, ⟨(wi (g17 + 1)), H, hr.fj h⟩, Nat.lt_succ_self _⟩
   ·
    refine wp_exit ?_
    refine then_exit ?_
    refine then_exit ?_
    refine blk_here ?_
    refine then_normal ?_
    exact ⟨(), sinj H, hr.fj h⟩
 clear h hr a; rintro _ a w ⟨rfl, j, hr, h⟩
 replace H := jk0 hK15
 refine wp_seq ?_
 refine sr ?_
 refine o1 hr (vI 0) fun a hr => ?_
 refine ln ?_
 refine wp_block ?_
 refine loop_rule (β := Nat) id (fun m a w => ∃ g37 : Int, (plunderref5_Check_l4 K p0 m g37) = some r0 ∧ ∃ j, Rep 131 (lk [(1, pA b1 0), (2, pA b2 0), (9, vI g37)] j) a ∧ Fit z (sepL (pts b1 (.cells #[.slice va0_Funcs p0.Funcs.length vc0_Funcs] 24) :: pts b2 (.cells #[vI 0, vI 0, vI 0] 104) :: L)) w) K ⟨0, H, hr.fj h⟩ ?_
 clear h hr a H; rintro k4 a w ⟨g37, H, j, hr, h⟩
 cases k4 with
 | zero => exact absurd H (by simp [plunderref5_Check_l4])
 | succ k4 =>
  rw [plunderref5_Check_l4] at H
  refine wp_seq ?_
  refine sr ?_
  refine oo [93, 94] [vI g37, pA b1 0] hr fun a hr => ?_
  refine ld (wn rfl) hr (.slice va0_Funcs p0.Funcs.length vc0_Funcs) (h.cell 0 rfl) fun a hr => ?_
  refine oo [96, 97] [vI ((p0.Funcs.length : Nat) : Int), vB (decide (g37 < ((p0.Funcs.length : Nat) : Int)))] hr fun a hr => ?_
  refine ln ?_
  refine cD hr H (fun c38 H => ?_) fun c38 H => ?_
  ·
   refine wp_skip ?_
   refine then_normal ?_
   obtain ⟨o40, H, hK39⟩ := jd0 H
   refine cut_rule (β := Unit) (fun _ a w => .inl () = o40 ∧ ∃ j, Rep 131 (lk [(1, pA b1 0), (2, pA b2 0), (9, vI g37)] j) a ∧ Fit z (sepL (pts b1 (.cells #[.slice va0_Funcs p0.Funcs.length vc0_Funcs] 24) :: pts b2 (.cells #[vI 0, vI 0, vI 0] 104) :: L)) w) ?_ ?_
   ·
    refine wp_block ?_
    refine sr ?_
    refine o1 hr (pA b1 0) fun a hr => ?_
    refine ld (wn rfl) hr (.slice va0_Funcs p0.Funcs.length vc0_Funcs) (h.cell 0 rfl) fun a hr => ?_
    obtain ⟨c41, H⟩ := gd H
    refine o1 hr (vI g37) fun a hr => ?_
    refine opv (wn rfl) hr (pA (blk va0_Funcs) (offs va0_Funcs + g37.toNat * 4)) (ri_rn (k := .i64) (E := 76) (cc := vc0_Funcs) rfl (by kernel_rfl) (by kernel_rfl) rfl (by kernel_rfl) (by kernel_rfl) hv0_Funcs c41) fun a hr => ?_
    refine ldm (wn rfl) hr (.agg #[vI (at_ p0.Funcs g37.toNat).Params, vI (at_ p0.Funcs g37.toNat).Regs, vI (at_ p0.Funcs g37.toNat).Slots, .slice ((hs0_Funcs g37.toNat).1) (at_ p0.Funcs g37.toNat).Code.length ((hs0_Funcs g37.toNat).2)]) (cs := [vI (at_ p0.Funcs g37.toNat).Params, vI (at_ p0.Funcs g37.toNat).Regs, vI (at_ p0.Funcs g37.toNat).Slots, .slice ((hs0_Funcs g37.toNat).1) (at_ p0.Funcs g37.toNat).Code.length ((hs0_Funcs g37.toNat).2)]) ⟨hv0_Funcs.cell c41 (h.dn 2) 0 rfl, hv0_Funcs.cell c41 (h.dn 2) 1 rfl, hv0_Funcs.cell c41 (h.dn 2) 2 rfl, hv0_Funcs.cell c41 (h.dn 2) 3 rfl, trivial⟩ fun a hr => ?_
    refine onew (wn rfl) hr h nb (#[vI 0, vI 0, vI 0, .slice none 0 0]) 76 fun b42 w a h hr => ?_
    refine stm (wn rfl) hr h 0 ([vI (at_ p0.Funcs g37.toNat).Params, vI (at_ p0.Funcs g37.toNat).Regs, vI (at_ p0.Funcs g37.toNat).Slots, .slice ((hs0_Funcs g37.toNat).1) (at_ p0.Funcs g37.toNat).Code.length ((hs0_Funcs g37.toNat).2)]) (ob76 b42 (at_ p0.Funcs g37.toNat) ((hs0_Funcs g37.toNat).1) ((hs0_Funcs g37.toNat).2)) fun w h => ?_
    refine ln ?_
    refine sr ?_
    refine ldm (wn rfl) hr (.agg #[vI (at_ p0.Funcs g37.toNat).Params, vI (at_ p0.Funcs g37.toNat).Regs, vI (at_ p0.Funcs g37.toNat).Slots, .slice ((hs0_Funcs g37.toNat).1) (at_ p0.Funcs g37.toNat).Code.length ((hs0_Funcs g37.toNat).2)]) (cs := [vI (at_ p0.Funcs g37.toNat).Params, vI (at_ p0.Funcs g37.toNat).Regs, vI (at_ p0.Funcs g37.toNat).Slots, .slice ((hs0_Funcs g37.toNat).1) (at_ p0.Funcs g37.toNat).Code.length ((hs0_Funcs g37.toNat).2)]) (h.held 0 rfl) fun a hr => ?_
    obtain ⟨r43, e44, H⟩ := bd1 H
    have hc := plunderref5_Flow_ok (va0_Code := ((hs0_Funcs g37.toNat).1)) (vc0_Code := ((hs0_Funcs g37.toNat).2)) (hv0_Code := (RdRow.up 3 (hv0_Funcs.inn c41))) (H := e44) (h := h)
    refine cl (wn rfl) hr hc ?_; clear hc h
    rintro _ w ⟨car45, ccr46, rfl, h⟩; refine ⟨_, rfl, fun a hr => ?_⟩
    refine o1 hr (.slice car45 r43.length ccr46) fun a hr => ?_
    refine ln ?_
    refine sr ?_
    refine o1 hr (vI 0) fun a hr => ?_
    refine ln ?_
    refine wp_block ?_
    refine loop_rule (β := Nat) id (fun m a w => ∃ g47 : Int, (plunderref5_Check_l5 K p0 g37 r43 m g47) = some o40 ∧ ∃ j, Rep 131 (lk [(1, pA b1 0), (2, pA b2 0), (9, vI g37), (10, pA b42 0), (11, .slice car45 r43.length ccr46), (12, vI g47)] j) a ∧ Fit z (sepL (pts b1 (.cells #[.slice va0_Funcs p0.Funcs.length vc0_Funcs] 24) :: pts b2 (.cells #[vI 0, vI 0, vI 0] 104) :: ob76 b42 (at_ p0.Funcs g37.toNat) ((hs0_Funcs g37.toNat).1) ((hs0_Funcs g37.toNat).2) :: rn28 car45 ccr46 r43 :: L)) w) K ⟨0, H, hr.fj (h.se 4 [2, 3, 1, 0])⟩ ?_
    clear h hr a H; rintro k5 a w ⟨g47, H, j, hr, h⟩
    cases k5 with
    | zero => exact absurd H (by simp [plunderref5_Check_l5])
    | succ k5 =>
     rw [plunderref5_Check_l5] at H
     refine wp_seq ?_
     refine sr ?_
     refine oo [107, 108] [vI g47, pA b42 3] hr fun a hr => ?_
     refine ld (wn rfl) hr (.slice ((hs0_Funcs g37.toNat).1) (at_ p0.Funcs g37.toNat).Code.length ((hs0_Funcs g37.toNat).2)) ((h.pick 2).cell 3 rfl) fun a hr => ?_
     refine oo [110, 111] [vI (((at_ p0.Funcs g37.toNat).Code.length : Nat) : Int), vB (decide (g47 < (((at_ p0.Funcs g37.toNat).Code.length : Nat) : Int)))] hr fun a hr => ?_
     refine ln ?_
     refine cD hr H (fun c48 H => ?_) fun c48 H => ?_
     ·
      refine wp_skip ?_
      refine then_normal ?_
      refine wp_seq ?_
      refine wp_block ?_
      refine wp_seq ?_
      obtain ⟨c49, H⟩ := gd H
      obtain ⟨c50, H⟩ := gd H
      obtain ⟨cs54, h⟩ := h.m3.rowN_take (at_ok c50)
      obtain ⟨ca51, cc52, e53, h⟩ := own_sl28_op (h.m1); subst e53
      obtain ⟨r55, e56, H⟩ := bd1 H
      refine regL [(b42, 3, [.slice ((hs0_Funcs g37.toNat).1) (at_ p0.Funcs g37.toNat).Code.length ((hs0_Funcs g37.toNat).2)]), (blk ((hs0_Funcs g37.toNat).1), offs ((hs0_Funcs g37.toNat).1) + g47.toNat * 5, cl_T_api_Instr (at_ (at_ p0.Funcs g37.toNat).Code g47.toNat)), (blk car45, g47.toNat * 1, [.slice ca51 (at_ r43 g47.toNat).length cc52])] [0, 3, 7] 11 h (fun h => ⟨⟨(h.pick 4).cell 3 rfl, trivial⟩, ⟨(hv0_Funcs.inn c41).cell c49 (h.dn 5) 0 rfl, (hv0_Funcs.inn c41).cell c49 (h.dn 5) 1 rfl, (hv0_Funcs.inn c41).cell c49 (h.dn 5) 2 rfl, (hv0_Funcs.inn c41).cell c49 (h.dn 5) 3 rfl, (hv0_Funcs.inn c41).cell c49 (h.dn 5) 4 rfl, trivial⟩, ⟨(h.pick 1).rowH_cell (by decide) (f := 0) rfl, trivial⟩, trivial⟩) fun w h hd => ?_
      refine evs' hd 7 [(0, 114, pA b42 3), (2, 116, vI g47), (5, 119, .slice car45 r43.length ccr46), (6, 120, vI g47)] hr fun a hr => ?_
      refine eon hd 6 7 rfl (wn rfl) hr (pA (blk car45) (g47.toNat * 1)) (hrun := fun w => ri_rowH (k := .i64) (E := 28) rfl (by kernel_rfl) (by kernel_rfl) (by kernel_rfl) (by kernel_rfl) (h.pick 1) c50) fun a hr => ?_
      refine elx hd 0 5 1 hr (wn rfl) rfl rfl fun a hr => ?_
      refine eon hd 4 3 rfl (wn rfl) hr (pA (blk ((hs0_Funcs g37.toNat).1)) (offs ((hs0_Funcs g37.toNat).1) + g47.toNat * 5)) (hrun := fun w => ri_rd (k := .i64) (E := 108) (cc := ((hs0_Funcs g37.toNat).2)) rfl (by kernel_rfl) (by kernel_rfl) rfl (by kernel_rfl) (by kernel_rfl) (hv0_Funcs.inn c41) c49) fun a hr => ?_
      refine elm hd 1 3 4 hr (wn rfl) rfl rfl fun a hr => ?_
      refine elx hd 2 2 8 hr (wn rfl) rfl rfl fun a hr => ?_
      refine eo1 9 rfl ?_
      have hc := plunderref5_slotFault_ok (va1 := ca51) (vc1 := cc52) (hv1 := (RdRow.of_row encZ_i64_ok h (fun h => h))) (H := e56) (h := h)
      refine cl (wn rfl) hr hc ?_; clear hc h
      rintro _ w ⟨rfl, h⟩; refine ⟨_, rfl, fun a hr => ?_⟩
      refine ln ?_
      refine xE ?_
      refine evs 0 10 rfl (wn rfl) hr (vI r55) fun a hr => ?_
      refine een ?_
      refine then_normal ?_
      refine sr ?_
      refine oo [124, 125] [vI r55, vB (r55 != 0)] hr fun a hr => ?_
      refine ln ?_
      refine cN hr H (fun c57 H => ?_) fun c57 H => ?_
      ·
       refine wp_skip ?_
       refine blk_normal ?_
       refine then_normal ?_
       refine wp_region_lit ?_
       refine oo [112, 113, 12] [vI g47, vI (wi (g47 + 1)), vI (wi (g47 + 1))] hr fun a hr => ?_
       refine ln ?_
       replace h := own_sl28_sh (x := (at_ r43 g47.toNat)) h
       replace h := (h.m1).rowH_same
       exact ⟨_, ⟨(wi (g47 + 1)), H, hr.fj (h.se 4 [1, 2, 3, 0])⟩, Nat.lt_succ_self _⟩
      ·
       refine sr ?_
       refine oo [126, 127, 128, 129] [vI r55, vI g37, vI g47, .agg #[vI r55, vI g37, vI g47]] hr fun a hr => ?_
       replace h := h.m3
       refine stm (wn rfl) hr h 0 ([vI r55, vI g37, vI g47]) (pts b2 (.cells #[vI r55, vI g37, vI g47] 104)) fun w h => ?_
       refine ln ?_
       refine wp_ret ?_
       refine blk_ret ?_
       refine then_ret ?_
       refine then_ret ?_
       refine blk_ret ?_
       refine blk_ret ?_
       refine then_ret ?_
       refine then_ret ?_
       refine blk_ret ?_
       refine then_ret ?_
       refine end_retC (cs := [vI r55, vI g37, vI g47]) rfl hr (by kernel_rfl) (by kernel_rfl) (by kernel_rfl) (h.held 0 rfl) ?_
       replace h := h.m2.m2
       replace h := own_sl28_sh (x := (at_ r43 g47.toNat)) h
       replace h := (h.m1).rowH_same
       replace H := jx0 H hK39
       replace H := ej1 H; subst H
       exact ⟨rfl, h.se 4 []⟩
     ·
      refine wp_exit ?_
      refine then_exit ?_
      refine then_exit ?_
      refine blk_here ?_
      refine blk_normal ?_
      refine then_normal ?_
      exact ⟨(), sinj H, hr.fj (h.se 4 [0, 1])⟩
   clear h hr a; rintro _ a w ⟨rfl, j, hr, h⟩
   replace H := jk0 hK39
   refine wp_region_lit ?_
   refine oo [98, 99, 9] [vI g37, vI (wi (g37 + 1)), vI (wi (g37 + 1))] hr fun a hr => ?_
   refine ln ?_
   exact ⟨_, ⟨(wi (g37 + 1)), H, hr.fj h⟩, Nat.lt_succ_self _⟩
  ·
   refine wp_exit ?_
   refine then_exit ?_
   refine then_exit ?_
   refine blk_here ?_
   refine then_normal ?_
   refine sr ?_
   refine o1 hr (.agg #[vI 0, vI 0, vI 0]) fun a hr => ?_
   replace h := h.m1
   refine stm (wn rfl) hr h 0 ([vI 0, vI 0, vI 0]) (pts b2 (.cells #[vI 0, vI 0, vI 0] 104)) fun w h => ?_
   refine ln ?_
   refine wp_ret ?_
   refine end_retC (cs := [vI 0, vI 0, vI 0]) rfl hr (by kernel_rfl) (by kernel_rfl) (by kernel_rfl) (h.held 0 rfl) ?_
   replace H := ej1 H; subst H
   exact ⟨rfl, h.se 2 []⟩

/-- plunder/prog.shapeOK -/
def prog_shapeOK (p0 : T_api_Func) : Option (Bool) :=
  jn0 ((if p0.Params < 0 then some (.inr false) else (if p0.Params > 8 then some (.inr false) else (if p0.Regs < 1 then some (.inr false) else (if p0.Regs < p0.Params then some (.inr false) else (if p0.Regs > 16 then some (.inr false) else some (.inl ()))))))) ((if p0.Slots ≥ 0 then (if p0.Slots ≤ 8 then (if ((p0.Code.length : Nat) : Int) ≥ 1 then some (decide (((p0.Code.length : Nat) : Int) ≤ 512)) else some false) else some false) else some false))

theorem prog_shapeOK_ok {z w : World} {L : List HProp} {p0 : T_api_Func} {va0_Code : Option Addr} {vc0_Code : Nat} {r0 : Bool} (H : prog_shapeOK p0 = some r0) (h : Fit z (sepL (L)) w) (hv0_Code : RdRow L 5 enc_T_api_Instr va0_Code p0.Code) :
    Calls Tryd.prog 48 #[.agg #[vI p0.Params, vI p0.Regs, vI p0.Slots, .slice va0_Code p0.Code.length vc0_Code]] w fun e w => e = .returned (vB r0) ∧ Fit z (sepL (L)) w := by
 unfold prog_shapeOK at H
 refine enter Tryd.func48 rfl 48 rfl rfl [(0, .agg #[vI p0.Params, vI p0.Regs, vI p0.Slots, .slice va0_Code p0.Code.length vc0_Code])] ⟨rfl, trivial⟩ ?_
 intro j a hr
 refine sr ?_
 refine onew (wn rfl) hr h nb (#[vI p0.Params, vI p0.Regs, vI p0.Slots, .slice va0_Code p0.Code.length vc0_Code]) 76 fun b1 w a h hr => ?_
 refine o1 hr (vB false) fun a hr => ?_
 refine ln ?_
 obtain ⟨o3, H, hK2⟩ := jd0 H
 refine cut_rule (β := Unit) (fun _ a w => .inl () = o3 ∧ ∃ j, Rep 48 (lk [(1, pA b1 0)] j) a ∧ Fit z (sepL (ob76 b1 p0 va0_Code vc0_Code :: L)) w) ?_ ?_
 ·
  refine sr ?_
  refine o1 hr (pA b1 0) fun a hr => ?_
  refine ld (wn rfl) hr (vI p0.Params) (h.cell 0 rfl) fun a hr => ?_
  refine oo [5, 6] [vB (decide (p0.Params < 0)), vB (decide (p0.Params < 0))] hr fun a hr => ?_
  by_cases c4 : p0.Params < 0
  ·
   replace H := ifT c4 H
   refine offl (decide_eq_true c4) [7, 8, 9] hr fun a hr => ?_
   refine opv (wn rfl) hr (vB true) (rp_t (b := (decide (p0.Params < 0))) rfl (by kernel_rfl) (decide_eq_true c4) (by kernel_rfl)) fun a hr => ?_
   refine o1 hr (vB true) fun a hr => ?_
   refine offl (rfl : true = true) [12, 13, 14] hr fun a hr => ?_
   refine oo [15, 16] [vB true, vB true] hr fun a hr => ?_
   refine offl (rfl : true = true) [17, 18, 19, 20, 21] hr fun a hr => ?_
   refine oo [22, 23] [vB true, vB true] hr fun a hr => ?_
   refine offl (rfl : true = true) [24, 25, 26] hr fun a hr => ?_
   refine o1 hr (vB true) fun a hr => ?_
   refine ln ?_
   refine cond_tt hr (b := true) rfl ?_
   refine sr ?_
   refine o1 hr (vB false) fun a hr => ?_
   refine ln ?_
   refine wp_ret ?_
   refine then_ret ?_
   refine end_ret1 (v := vB false) rfl hr (by kernel_rfl) ?_
   replace H := jx0 H hK2
   replace H := ej1 H; subst H
   exact ⟨rfl, h.se 1 []⟩
  ·
   replace H := ifF c4 H
   refine onl (decide_eq_false c4) [7] [pA b1 0] hr fun a hr => ?_
   refine ld (wgt hr (decide_eq_false c4)) hr (vI p0.Params) (h.cell 0 rfl) fun a hr => ?_
   refine onl (decide_eq_false c4) [9] [vB (decide (p0.Params > 8))] hr fun a hr => ?_
   refine opv (wn rfl) hr (vB (decide (p0.Params > 8))) (rp_f (b := (decide (p0.Params < 0))) rfl (by kernel_rfl) (decide_eq_false c4) (by kernel_rfl)) fun a hr => ?_
   refine o1 hr (vB (decide (p0.Params > 8))) fun a hr => ?_
   by_cases c5 : p0.Params > 8
   ·
    replace H := ifT c5 H
    refine offl (decide_eq_true c5) [12, 13, 14] hr fun a hr => ?_
    refine opv (wn rfl) hr (vB true) (rp_t (b := (decide (p0.Params > 8))) rfl (by kernel_rfl) (decide_eq_true c5) (by kernel_rfl)) fun a hr => ?_
    refine o1 hr (vB true) fun a hr => ?_
    refine offl (rfl : true = true) [17, 18, 19, 20, 21] hr fun a hr => ?_
    refine oo [22, 23] [vB true, vB true] hr fun a hr => ?_
    refine offl (rfl : true = true) [24, 25, 26] hr fun a hr => ?_
    refine o1 hr (vB true) fun a hr => ?_
    refine ln ?_
    refine cond_tt hr (b := true) rfl ?_
    refine sr ?_
    refine o1 hr (vB false) fun a hr => ?_
    refine ln ?_
    refine wp_ret ?_
    refine then_ret ?_
    refine end_ret1 (v := vB false) rfl hr (by kernel_rfl) ?_
    replace H := jx0 H hK2
    replace H := ej1 H; subst H
    exact ⟨rfl, h.se 1 []⟩
   ·
    replace H := ifF c5 H
    refine onl (decide_eq_false c5) [12] [pA b1 1] hr fun a hr => ?_
    refine ld (wgt hr (decide_eq_false c5)) hr (vI p0.Regs) (h.cell 1 rfl) fun a hr => ?_
    refine onl (decide_eq_false c5) [14] [vB (decide (p0.Regs < 1))] hr fun a hr => ?_
    refine opv (wn rfl) hr (vB (decide (p0.Regs < 1))) (rp_f (b := (decide (p0.Params > 8))) rfl (by kernel_rfl) (decide_eq_false c5) (by kernel_rfl)) fun a hr => ?_
    refine o1 hr (vB (decide (p0.Regs < 1))) fun a hr => ?_
    by_cases c6 : p0.Regs < 1
    ·
     replace H := ifT c6 H
     refine offl (decide_eq_true c6) [17, 18, 19, 20, 21] hr fun a hr => ?_
     refine opv (wn rfl) hr (vB true) (rp_t (b := (decide (p0.Regs < 1))) rfl (by kernel_rfl) (decide_eq_true c6) (by kernel_rfl)) fun a hr => ?_
     refine o1 hr (vB true) fun a hr => ?_
     refine offl (rfl : true = true) [24, 25, 26] hr fun a hr => ?_
     refine o1 hr (vB true) fun a hr => ?_
     refine ln ?_
     refine cond_tt hr (b := true) rfl ?_
     refine sr ?_
     refine o1 hr (vB false) fun a hr => ?_
     refine ln ?_
     refine wp_ret ?_
     refine then_ret ?_
     refine end_ret1 (v := vB false) rfl hr (by kernel_rfl) ?_
     replace H := jx0 H hK2
     replace H := ej1 H; subst H
     exact ⟨rfl, h.se 1 []⟩
    ·
     replace H := ifF c6 H
     refine onl (decide_eq_false c6) [17] [pA b1 1] hr fun a hr => ?_
     refine ld (wgt hr (decide_eq_false c6)) hr (vI p0.Regs) (h.cell 1 rfl) fun a hr => ?_
     refine onl (decide_eq_false c6) [19] [pA b1 0] hr fun a hr => ?_
     refine ld (wgt hr (decide_eq_false c6)) hr (vI p0.Params) (h.cell 0 rfl) fun a hr => ?_
     refine onl (decide_eq_false c6) [21] [vB (decide (p0.Regs < p0.Params))] hr fun a hr => ?_
     refine opv (wn rfl) hr (vB (decide (p0.Regs < p0.Params))) (rp_f (b := (decide (p0.Regs < 1))) rfl (by kernel_rfl) (decide_eq_false c6) (by kernel_rfl)) fun a hr => ?_
     refine o1 hr (vB (decide (p0.Regs < p0.Params))) fun a hr => ?_
     by_cases c7 : p0.Regs < p0.Params
     ·
      replace H := ifT c7 H
      refine offl (decide_eq_true c7) [24, 25, 26] hr fun a hr => ?_
      refine opv (wn rfl) hr (vB true) (rp_t (b := (decide (p0.Regs < p0.Params))) rfl (by kernel_rfl) (decide_eq_true c7) (by kernel_rfl)) fun a hr => ?_
      refine ln ?_
      refine cond_tt hr (b := true) rfl ?_
      refine sr ?_
      refine o1 hr (vB false) fun a hr => ?_
      refine ln ?_
      refine wp_ret ?_
      refine then_ret ?_
      refine end_ret1 (v := vB false) rfl hr (by kernel_rfl) ?_
      replace H := jx0 H hK2
      replace H := ej1 H; subst H
      exact ⟨rfl, h.se 1 []⟩
     ·
      replace H := ifF c7 H
      refine onl (decide_eq_false c7) [24] [pA b1 1] hr fun a hr => ?_
      refine ld (wgt hr (decide_eq_false c7)) hr (vI p0.Regs) (h.cell 1 rfl) fun a hr => ?_
      refine onl (decide_eq_false c7) [26] [vB (decide (p0.Regs > 16))] hr fun a hr => ?_
      refine opv (wn rfl) hr (vB (decide (p0.Regs > 16))) (rp_f (b := (decide (p0.Regs < p0.Params))) rfl (by kernel_rfl) (decide_eq_false c7) (by kernel_rfl)) fun a hr => ?_
      refine ln ?_
      refine cD hr H (fun c8 H => ?_) fun c8 H => ?_
      ·
       refine sr ?_
       refine o1 hr (vB false) fun a hr => ?_
       refine ln ?_
       refine wp_ret ?_
       refine then_ret ?_
       refine end_ret1 (v := vB false) rfl hr (by kernel_rfl) ?_
       replace H := jx0 H hK2
       replace H := ej1 H; subst H
       exact ⟨rfl, h.se 1 []⟩
      ·
       refine wp_skip ?_
       refine then_normal ?_
       exact ⟨(), sinj H, hr.fj h⟩
 clear h hr a; rintro _ a w ⟨rfl, j, hr, h⟩
 replace H := jk0 hK2
 refine sr ?_
 refine o1 hr (pA b1 2) fun a hr => ?_
 refine ld (wn rfl) hr (vI p0.Slots) (h.cell 2 rfl) fun a hr => ?_
 refine oo [30, 31] [vB (decide (p0.Slots ≥ 0)), vB (decide (p0.Slots ≥ 0))] hr fun a hr => ?_
 by_cases c9 : p0.Slots ≥ 0
 ·
  replace H := ifT c9 H
  refine onl (decide_eq_true c9) [32] [pA b1 2] hr fun a hr => ?_
  refine ld (wgt hr (decide_eq_true c9)) hr (vI p0.Slots) (h.cell 2 rfl) fun a hr => ?_
  refine onl (decide_eq_true c9) [34] [vB (decide (p0.Slots ≤ 8))] hr fun a hr => ?_
  refine opv (wn rfl) hr (vB (decide (p0.Slots ≤ 8))) (rp_t (b := (decide (p0.Slots ≥ 0))) rfl (by kernel_rfl) (decide_eq_true c9) (by kernel_rfl)) fun a hr => ?_
  refine o1 hr (vB (decide (p0.Slots ≤ 8))) fun a hr => ?_
  by_cases c10 : p0.Slots ≤ 8
  ·
   replace H := ifT c10 H
   refine onl (decide_eq_true c10) [37] [pA b1 3] hr fun a hr => ?_
   refine ld (wgt hr (decide_eq_true c10)) hr (.slice va0_Code p0.Code.length vc0_Code) (h.cell 3 rfl) fun a hr => ?_
   refine onl (decide_eq_true c10) [39, 40] [vI ((p0.Code.length : Nat) : Int), vB (decide (((p0.Code.length : Nat) : Int) ≥ 1))] hr fun a hr => ?_
   refine opv (wn rfl) hr (vB (decide (((p0.Code.length : Nat) : Int) ≥ 1))) (rp_t (b := (decide (p0.Slots ≤ 8))) rfl (by kernel_rfl) (decide_eq_true c10) (by kernel_rfl)) fun a hr => ?_
   refine o1 hr (vB (decide (((p0.Code.length : Nat) : Int) ≥ 1))) fun a hr => ?_
   by_cases c11 : ((p0.Code.length : Nat) : Int) ≥ 1
   ·
    replace H := ifT c11 H
    refine onl (decide_eq_true c11) [43] [pA b1 3] hr fun a hr => ?_
    refine ld (wgt hr (decide_eq_true c11)) hr (.slice va0_Code p0.Code.length vc0_Code) (h.cell 3 rfl) fun a hr => ?_
    refine onl (decide_eq_true c11) [45, 46] [vI ((p0.Code.length : Nat) : Int), vB (decide (((p0.Code.length : Nat) : Int) ≤ 512))] hr fun a hr => ?_
    refine opv (wn rfl) hr (vB (decide (((p0.Code.length : Nat) : Int) ≤ 512))) (rp_t (b := (decide (((p0.Code.length : Nat) : Int) ≥ 1))) rfl (by kernel_rfl) (decide_eq_true c11) (by kernel_rfl)) fun a hr => ?_
    refine o1 hr (vB (decide (((p0.Code.length : Nat) : Int) ≤ 512))) fun a hr => ?_
    refine ln ?_
    refine wp_ret ?_
    refine end_ret1 (v := vB (decide (((p0.Code.length : Nat) : Int) ≤ 512))) rfl hr (by kernel_rfl) ?_
    replace H := ej1 H; subst H
    exact ⟨rfl, h.se 1 []⟩
   ·
    replace H := ifF c11 H
    refine offl (decide_eq_false c11) [43, 44, 45, 46] hr fun a hr => ?_
    refine opv (wn rfl) hr (vB false) (rp_f (b := (decide (((p0.Code.length : Nat) : Int) ≥ 1))) rfl (by kernel_rfl) (decide_eq_false c11) (by kernel_rfl)) fun a hr => ?_
    refine o1 hr (vB false) fun a hr => ?_
    refine ln ?_
    refine wp_ret ?_
    refine end_ret1 (v := vB false) rfl hr (by kernel_rfl) ?_
    replace H := ej1 H; subst H
    exact ⟨rfl, h.se 1 []⟩
  ·
   replace H := ifF c10 H
   refine offl (decide_eq_false c10) [37, 38, 39, 40] hr fun a hr => ?_
   refine opv (wn rfl) hr (vB false) (rp_f (b := (decide (p0.Slots ≤ 8))) rfl (by kernel_rfl) (decide_eq_false c10) (by kernel_rfl)) fun a hr => ?_
   refine o1 hr (vB false) fun a hr => ?_
   refine offl (rfl : false = false) [43, 44, 45, 46] hr fun a hr => ?_
   refine oo [47, 2] [vB false, vB false] hr fun a hr => ?_
   refine ln ?_
   refine wp_ret ?_
   refine end_ret1 (v := vB false) rfl hr (by kernel_rfl) ?_
   replace H := ej1 H; subst H
   exact ⟨rfl, h.se 1 []⟩
 ·
  replace H := ifF c9 H
  refine offl (decide_eq_false c9) [32, 33, 34] hr fun a hr => ?_
  refine opv (wn rfl) hr (vB false) (rp_f (b := (decide (p0.Slots ≥ 0))) rfl (by kernel_rfl) (decide_eq_false c9) (by kernel_rfl)) fun a hr => ?_
  refine o1 hr (vB false) fun a hr => ?_
  refine offl (rfl : false = false) [37, 38, 39, 40] hr fun a hr => ?_
  refine oo [41, 42] [vB false, vB false] hr fun a hr => ?_
  refine offl (rfl : false = false) [43, 44, 45, 46] hr fun a hr => ?_
  refine oo [47, 2] [vB false, vB false] hr fun a hr => ?_
  refine ln ?_
  refine wp_ret ?_
  refine end_ret1 (v := vB false) rfl hr (by kernel_rfl) ?_
  replace H := ej1 H; subst H
  exact ⟨rfl, h.se 1 []⟩

/-- plunder/prog.lastOK -/
def prog_lastOK (p0 : T_api_Func) : Option (Bool) :=
  if inr_ (wi (((p0.Code.length : Nat) : Int) - 1)) p0.Code.length then (if (at_ p0.Code (wi (((p0.Code.length : Nat) : Int) - 1)).toNat).Kind = 3 then some true else some ((at_ p0.Code (wi (((p0.Code.length : Nat) : Int) - 1)).toNat).Kind == 9)) else none

theorem prog_lastOK_ok {z w : World} {L : List HProp} {p0 : T_api_Func} {va0_Code : Option Addr} {vc0_Code : Nat} {r0 : Bool} (H : prog_lastOK p0 = some r0) (h : Fit z (sepL (L)) w) (hv0_Code : RdRow L 5 enc_T_api_Instr va0_Code p0.Code) :
    Calls Tryd.prog 63 #[.agg #[vI p0.Params, vI p0.Regs, vI p0.Slots, .slice va0_Code p0.Code.length vc0_Code]] w fun e w => e = .returned (vB r0) ∧ Fit z (sepL (L)) w := by
 unfold prog_lastOK at H
 refine enter Tryd.func63 rfl 19 rfl rfl [(0, .agg #[vI p0.Params, vI p0.Regs, vI p0.Slots, .slice va0_Code p0.Code.length vc0_Code])] ⟨rfl, trivial⟩ ?_
 intro j a hr
 refine sr ?_
 refine onew (wn rfl) hr h nb (#[vI p0.Params, vI p0.Regs, vI p0.Slots, .slice va0_Code p0.Code.length vc0_Code]) 76 fun b1 w a h hr => ?_
 refine o1 hr (vB false) fun a hr => ?_
 refine ln ?_
 refine sr ?_
 refine o1 hr (pA b1 3) fun a hr => ?_
 refine ld (wn rfl) hr (.slice va0_Code p0.Code.length vc0_Code) (h.cell 3 rfl) fun a hr => ?_
 refine o1 hr (pA b1 3) fun a hr => ?_
 refine ld (wn rfl) hr (.slice va0_Code p0.Code.length vc0_Code) (h.cell 3 rfl) fun a hr => ?_
 obtain ⟨c2, H⟩ := gd H
 refine oo [8, 9] [vI ((p0.Code.length : Nat) : Int), vI (wi (((p0.Code.length : Nat) : Int) - 1))] hr fun a hr => ?_
 refine opv (wn rfl) hr (pA (blk va0_Code) (offs va0_Code + (wi (((p0.Code.length : Nat) : Int) - 1)).toNat * 5)) (ri_rd (k := .i64) (E := 108) (cc := vc0_Code) rfl (by kernel_rfl) (by kernel_rfl) rfl (by kernel_rfl) (by kernel_rfl) hv0_Code c2) fun a hr => ?_
 refine o1 hr (pA (blk va0_Code) (offs va0_Code + (wi (((p0.Code.length : Nat) : Int) - 1)).toNat * 5)) fun a hr => ?_
 refine ld (wn rfl) hr (vI (at_ p0.Code (wi (((p0.Code.length : Nat) : Int) - 1)).toNat).Kind) (hv0_Code.cell c2 (h.dn 1) 0 rfl) fun a hr => ?_
 refine o1 hr (vI (at_ p0.Code (wi (((p0.Code.length : Nat) : Int) - 1)).toNat).Kind) fun a hr => ?_
 refine ln ?_
 refine sr ?_
 refine oo [13, 14, 15] [vI (at_ p0.Code (wi (((p0.Code.length : Nat) : Int) - 1)).toNat).Kind, vB ((at_ p0.Code (wi (((p0.Code.length : Nat) : Int) - 1)).toNat).Kind == 3), vB ((at_ p0.Code (wi (((p0.Code.length : Nat) : Int) - 1)).toNat).Kind == 3)] hr fun a hr => ?_
 by_cases c3 : (at_ p0.Code (wi (((p0.Code.length : Nat) : Int) - 1)).toNat).Kind = 3
 ·
  replace H := ifT c3 H
  refine offl (beq_iff_eq.mpr c3) [16, 17] hr fun a hr => ?_
  refine opv (wn rfl) hr (vB true) (rp_t (b := ((at_ p0.Code (wi (((p0.Code.length : Nat) : Int) - 1)).toNat).Kind == 3)) rfl (by kernel_rfl) (beq_iff_eq.mpr c3) (by kernel_rfl)) fun a hr => ?_
  refine o1 hr (vB true) fun a hr => ?_
  refine ln ?_
  refine wp_ret ?_
  refine end_ret1 (v := vB true) rfl hr (by kernel_rfl) ?_
  replace H := ej1 H; subst H
  exact ⟨rfl, h.se 1 []⟩
 ·
  replace H := ifF c3 H
  refine onl (beq_eq_false_iff_ne.mpr c3) [16, 17] [vI (at_ p0.Code (wi (((p0.Code.length : Nat) : Int) - 1)).toNat).Kind, vB ((at_ p0.Code (wi (((p0.Code.length : Nat) : Int) - 1)).toNat).Kind == 9)] hr fun a hr => ?_
  refine opv (wn rfl) hr (vB ((at_ p0.Code (wi (((p0.Code.length : Nat) : Int) - 1)).toNat).Kind == 9)) (rp_f (b := ((at_ p0.Code (wi (((p0.Code.length : Nat) : Int) - 1)).toNat).Kind == 3)) rfl (by kernel_rfl) (beq_eq_false_iff_ne.mpr c3) (by kernel_rfl)) fun a hr => ?_
  refine o1 hr (vB ((at_ p0.Code (wi (((p0.Code.length : Nat) : Int) - 1)).toNat).Kind == 9)) fun a hr => ?_
  refine ln ?_
  refine wp_ret ?_
  refine end_ret1 (v := vB ((at_ p0.Code (wi (((p0.Code.length : Nat) : Int) - 1)).toNat).Kind == 9)) rfl hr (by kernel_rfl) ?_
  replace H := ej1 H; subst H
  exact ⟨rfl, h.se 1 []⟩

/-- plunder/prog.fits -/
def prog_fits (p0 : Int) (p1 : Int) (p2 : T_api_Func) (p3 : Int) : Option (Bool) :=
  (if p0 = 0 then some true else (if p0 = 1 then (if p1 ≥ 0 then some (decide (p1 < p2.Regs)) else some false) else (if p0 = 2 then (if p1 ≥ 0 then some (decide (p1 < p2.Slots)) else some false) else (if p0 = 3 then (if p1 ≥ 0 then some (decide (p1 < ((p2.Code.length : Nat) : Int))) else some false) else (if p0 = 5 then (if p1 ≥ 0 then some (decide (p1 < 16)) else some false) else (if p0 = 4 then (if p3 < 0 then some true else (if p1 ≥ 0 then some (decide (p1 < p3)) else some false)) else (if p1 ≥ 0 then some (decide (p1 < 0)) else some false)))))))

theorem prog_fits_ok {z w : World} {L : List HProp} {p0 p1 p3 : Int} {p2 : T_api_Func} {va2_Code : Option Addr} {vc2_Code : Nat} {r0 : Bool} (H : prog_fits p0 p1 p2 p3 = some r0) (h : Fit z (sepL (L)) w) (hv2_Code : RdRow L 5 enc_T_api_Instr va2_Code p2.Code) :
    Calls Tryd.prog 74 #[vI p0, vI p1, .agg #[vI p2.Params, vI p2.Regs, vI p2.Slots, .slice va2_Code p2.Code.length vc2_Code], vI p3] w fun e w => e = .returned (vB r0) ∧ Fit z (sepL (L)) w := by
 unfold prog_fits at H
 refine enter Tryd.func74 rfl 40 rfl rfl [(0, vI p0), (1, vI p1), (2, .agg #[vI p2.Params, vI p2.Regs, vI p2.Slots, .slice va2_Code p2.Code.length vc2_Code]), (3, vI p3)] ⟨rfl, rfl, rfl, rfl, trivial⟩ ?_
 intro j a hr
 refine sr ?_
 refine onew (wn rfl) hr h nb (#[vI p2.Params, vI p2.Regs, vI p2.Slots, .slice va2_Code p2.Code.length vc2_Code]) 76 fun b1 w a h hr => ?_
 refine o1 hr (vB false) fun a hr => ?_
 refine ln ?_
 refine sr ?_
 refine o1 hr (vI 0) fun a hr => ?_
 refine ln ?_
 refine wp_seq ?_
 refine sr ?_
 refine o1 hr (vI p0) fun a hr => ?_
 refine ln ?_
 refine wp_block ?_
 refine sr ?_
 refine oo [12, 11] [vB (p0 == 0), vB (p0 == 0)] hr fun a hr => ?_
 refine ln ?_
 refine cD hr H (fun c2 H => ?_) fun c2 H => ?_
 ·
  refine sr ?_
  refine o1 hr (vB true) fun a hr => ?_
  refine ln ?_
  refine wp_ret ?_
  refine blk_ret ?_
  refine then_ret ?_
  refine end_ret1 (v := vB true) rfl hr (by kernel_rfl) ?_
  replace H := ej1 H; subst H
  exact ⟨rfl, h.se 1 []⟩
 ·
  refine sr ?_
  refine oo [14, 13] [vB (p0 == 1), vB (p0 == 1)] hr fun a hr => ?_
  refine ln ?_
  refine cD hr H (fun c3 H => ?_) fun c3 H => ?_
  ·
   refine wp_region_lit ?_
   refine o1 hr (pA b1 1) fun a hr => ?_
   refine ld (wn rfl) hr (vI p2.Regs) (h.cell 1 rfl) fun a hr => ?_
   refine o1 hr (vI p2.Regs) fun a hr => ?_
   refine wpList_nil ?_
   refine blk_normal ?_
   refine then_normal ?_
   refine sr ?_
   refine oo [33, 34, 35] [vI p1, vB (decide (p1 ≥ 0)), vB (decide (p1 ≥ 0))] hr fun a hr => ?_
   by_cases c4 : p1 ≥ 0
   ·
    replace H := ifT c4 H
    refine onl (decide_eq_true c4) [36, 37, 38] [vI p1, vI p2.Regs, vB (decide (p1 < p2.Regs))] hr fun a hr => ?_
    refine opv (wn rfl) hr (vB (decide (p1 < p2.Regs))) (rp_t (b := (decide (p1 ≥ 0))) rfl (by kernel_rfl) (decide_eq_true c4) (by kernel_rfl)) fun a hr => ?_
    refine o1 hr (vB (decide (p1 < p2.Regs))) fun a hr => ?_
    refine ln ?_
    refine wp_ret ?_
    refine end_ret1 (v := vB (decide (p1 < p2.Regs))) rfl hr (by kernel_rfl) ?_
    replace H := ej1 H; subst H
    exact ⟨rfl, h.se 1 []⟩
   ·
    replace H := ifF c4 H
    refine offl (decide_eq_false c4) [36, 37, 38] hr fun a hr => ?_
    refine opv (wn rfl) hr (vB false) (rp_f (b := (decide (p1 ≥ 0))) rfl (by kernel_rfl) (decide_eq_false c4) (by kernel_rfl)) fun a hr => ?_
    refine o1 hr (vB false) fun a hr => ?_
    refine ln ?_
    refine wp_ret ?_
    refine end_ret1 (v := vB false) rfl hr (by kernel_rfl) ?_
    replace H := ej1 H; subst H
    exact ⟨rfl, h.se 1 []⟩
  ·
   refine sr ?_
   refine oo [18, 17] [vB (p0 == 2), vB (p0 == 2)] hr fun a hr => ?_
   refine ln ?_
   refine cD hr H (fun c5 H => ?_) fun c5 H => ?_
   ·
    refine wp_region_lit ?_
    refine o1 hr (pA b1 2) fun a hr => ?_
    refine ld (wn rfl) hr (vI p2.Slots) (h.cell 2 rfl) fun a hr => ?_
    refine o1 hr (vI p2.Slots) fun a hr => ?_
    refine wpList_nil ?_
    refine blk_normal ?_
    refine then_normal ?_
    refine sr ?_
    refine oo [33, 34, 35] [vI p1, vB (decide (p1 ≥ 0)), vB (decide (p1 ≥ 0))] hr fun a hr => ?_
    by_cases c6 : p1 ≥ 0
    ·
     replace H := ifT c6 H
     refine onl (decide_eq_true c6) [36, 37, 38] [vI p1, vI p2.Slots, vB (decide (p1 < p2.Slots))] hr fun a hr => ?_
     refine opv (wn rfl) hr (vB (decide (p1 < p2.Slots))) (rp_t (b := (decide (p1 ≥ 0))) rfl (by kernel_rfl) (decide_eq_true c6) (by kernel_rfl)) fun a hr => ?_
     refine o1 hr (vB (decide (p1 < p2.Slots))) fun a hr => ?_
     refine ln ?_
     refine wp_ret ?_
     refine end_ret1 (v := vB (decide (p1 < p2.Slots))) rfl hr (by kernel_rfl) ?_
     replace H := ej1 H; subst H
     exact ⟨rfl, h.se 1 []⟩
    ·
     replace H := ifF c6 H
     refine offl (decide_eq_false c6) [36, 37, 38] hr fun a hr => ?_
     refine opv (wn rfl) hr (vB false) (rp_f (b := (decide (p1 ≥ 0))) rfl (by kernel_rfl) (decide_eq_false c6) (by kernel_rfl)) fun a hr => ?_
     refine o1 hr (vB false) fun a hr => ?_
     refine ln ?_
     refine wp_ret ?_
     refine end_ret1 (v := vB false) rfl hr (by kernel_rfl) ?_
     replace H := ej1 H; subst H
     exact ⟨rfl, h.se 1 []⟩
   ·
    refine sr ?_
    refine oo [22, 21] [vB (p0 == 3), vB (p0 == 3)] hr fun a hr => ?_
    refine ln ?_
    refine cD hr H (fun c7 H => ?_) fun c7 H => ?_
    ·
     refine wp_region_lit ?_
     refine o1 hr (pA b1 3) fun a hr => ?_
     refine ld (wn rfl) hr (.slice va2_Code p2.Code.length vc2_Code) (h.cell 3 rfl) fun a hr => ?_
     refine oo [25, 9] [vI ((p2.Code.length : Nat) : Int), vI ((p2.Code.length : Nat) : Int)] hr fun a hr => ?_
     refine wpList_nil ?_
     refine blk_normal ?_
     refine then_normal ?_
     refine sr ?_
     refine oo [33, 34, 35] [vI p1, vB (decide (p1 ≥ 0)), vB (decide (p1 ≥ 0))] hr fun a hr => ?_
     by_cases c8 : p1 ≥ 0
     ·
      replace H := ifT c8 H
      refine onl (decide_eq_true c8) [36, 37, 38] [vI p1, vI ((p2.Code.length : Nat) : Int), vB (decide (p1 < ((p2.Code.length : Nat) : Int)))] hr fun a hr => ?_
      refine opv (wn rfl) hr (vB (decide (p1 < ((p2.Code.length : Nat) : Int)))) (rp_t (b := (decide (p1 ≥ 0))) rfl (by kernel_rfl) (decide_eq_true c8) (by kernel_rfl)) fun a hr => ?_
      refine o1 hr (vB (decide (p1 < ((p2.Code.length : Nat) : Int)))) fun a hr => ?_
      refine ln ?_
      refine wp_ret ?_
      refine end_ret1 (v := vB (decide (p1 < ((p2.Code.length : Nat) : Int)))) rfl hr (by kernel_rfl) ?_
      replace H := ej1 H; subst H
      exact ⟨rfl, h.se 1 []⟩
     ·
      replace H := ifF c8 H
      refine offl (decide_eq_false c8) [36, 37, 38] hr fun a hr => ?_
      refine opv (wn rfl) hr (vB false) (rp_f (b := (decide (p1 ≥ 0))) rfl (by kernel_rfl) (decide_eq_false c8) (by kernel_rfl)) fun a hr => ?_
      refine o1 hr (vB false) fun a hr => ?_
      refine ln ?_
      refine wp_ret ?_
      refine end_ret1 (v := vB false) rfl hr (by kernel_rfl) ?_
      replace H := ej1 H; subst H
      exact ⟨rfl, h.se 1 []⟩
    ·
     refine sr ?_
     refine oo [27, 26] [vB (p0 == 5), vB (p0 == 5)] hr fun a hr => ?_
     refine ln ?_
     refine cD hr H (fun c9 H => ?_) fun c9 H => ?_
     ·
      refine wp_region_lit ?_
      refine o1 hr (vI 16) fun a hr => ?_
      refine wpList_nil ?_
      refine blk_normal ?_
      refine then_normal ?_
      refine sr ?_
      refine oo [33, 34, 35] [vI p1, vB (decide (p1 ≥ 0)), vB (decide (p1 ≥ 0))] hr fun a hr => ?_
      by_cases c10 : p1 ≥ 0
      ·
       replace H := ifT c10 H
       refine onl (decide_eq_true c10) [36, 37, 38] [vI p1, vI 16, vB (decide (p1 < 16))] hr fun a hr => ?_
       refine opv (wn rfl) hr (vB (decide (p1 < 16))) (rp_t (b := (decide (p1 ≥ 0))) rfl (by kernel_rfl) (decide_eq_true c10) (by kernel_rfl)) fun a hr => ?_
       refine o1 hr (vB (decide (p1 < 16))) fun a hr => ?_
       refine ln ?_
       refine wp_ret ?_
       refine end_ret1 (v := vB (decide (p1 < 16))) rfl hr (by kernel_rfl) ?_
       replace H := ej1 H; subst H
       exact ⟨rfl, h.se 1 []⟩
      ·
       replace H := ifF c10 H
       refine offl (decide_eq_false c10) [36, 37, 38] hr fun a hr => ?_
       refine opv (wn rfl) hr (vB false) (rp_f (b := (decide (p1 ≥ 0))) rfl (by kernel_rfl) (decide_eq_false c10) (by kernel_rfl)) fun a hr => ?_
       refine o1 hr (vB false) fun a hr => ?_
       refine ln ?_
       refine wp_ret ?_
       refine end_ret1 (v := vB false) rfl hr (by kernel_rfl) ?_
       replace H := ej1 H; subst H
       exact ⟨rfl, h.se 1 []⟩
     ·
      refine sr ?_
      refine oo [29, 28] [vB (p0 == 4), vB (p0 == 4)] hr fun a hr => ?_
      refine ln ?_
      refine cD hr H (fun c11 H => ?_) fun c11 H => ?_
      ·
       refine wp_seq ?_
       refine sr ?_
       refine oo [30, 31] [vI p3, vB (decide (p3 < 0))] hr fun a hr => ?_
       refine ln ?_
       refine cD hr H (fun c12 H => ?_) fun c12 H => ?_
       ·
        refine sr ?_
        refine o1 hr (vB true) fun a hr => ?_
        refine ln ?_
        refine wp_ret ?_
        refine then_ret ?_
        refine blk_ret ?_
        refine then_ret ?_
        refine end_ret1 (v := vB true) rfl hr (by kernel_rfl) ?_
        replace H := ej1 H; subst H
        exact ⟨rfl, h.se 1 []⟩
       ·
        refine wp_skip ?_
        refine then_normal ?_
        refine wp_region_lit ?_
        refine oo [32, 9] [vI p3, vI p3] hr fun a hr => ?_
        refine wpList_nil ?_
        refine blk_normal ?_
        refine then_normal ?_
        refine sr ?_
        refine oo [33, 34, 35] [vI p1, vB (decide (p1 ≥ 0)), vB (decide (p1 ≥ 0))] hr fun a hr => ?_
        by_cases c13 : p1 ≥ 0
        ·
         replace H := ifT c13 H
         refine onl (decide_eq_true c13) [36, 37, 38] [vI p1, vI p3, vB (decide (p1 < p3))] hr fun a hr => ?_
         refine opv (wn rfl) hr (vB (decide (p1 < p3))) (rp_t (b := (decide (p1 ≥ 0))) rfl (by kernel_rfl) (decide_eq_true c13) (by kernel_rfl)) fun a hr => ?_
         refine o1 hr (vB (decide (p1 < p3))) fun a hr => ?_
         refine ln ?_
         refine wp_ret ?_
         refine end_ret1 (v := vB (decide (p1 < p3))) rfl hr (by kernel_rfl) ?_
         replace H := ej1 H; subst H
         exact ⟨rfl, h.se 1 []⟩
        ·
         replace H := ifF c13 H
         refine offl (decide_eq_false c13) [36, 37, 38] hr fun a hr => ?_
         refine opv (wn rfl) hr (vB false) (rp_f (b := (decide (p1 ≥ 0))) rfl (by kernel_rfl) (decide_eq_false c13) (by kernel_rfl)) fun a hr => ?_
         refine o1 hr (vB false) fun a hr => ?_
         refine ln ?_
         refine wp_ret ?_
         refine end_ret1 (v := vB false) rfl hr (by kernel_rfl) ?_
         replace H := ej1 H; subst H
         exact ⟨rfl, h.se 1 []⟩
      ·
       refine wp_skip ?_
       refine blk_normal ?_
       refine then_normal ?_
       refine sr ?_
       refine oo [33, 34, 35] [vI p1, vB (decide (p1 ≥ 0)), vB (decide (p1 ≥ 0))] hr fun a hr => ?_
       by_cases c14 : p1 ≥ 0
       ·
        replace H := ifT c14 H
        refine onl (decide_eq_true c14) [36, 37, 38] [vI p1, vI 0, vB (decide (p1 < 0))] hr fun a hr => ?_
        refine opv (wn rfl) hr (vB (decide (p1 < 0))) (rp_t (b := (decide (p1 ≥ 0))) rfl (by kernel_rfl) (decide_eq_true c14) (by kernel_rfl)) fun a hr => ?_
        refine o1 hr (vB (decide (p1 < 0))) fun a hr => ?_
        refine ln ?_
        refine wp_ret ?_
        refine end_ret1 (v := vB (decide (p1 < 0))) rfl hr (by kernel_rfl) ?_
        replace H := ej1 H; subst H
        exact ⟨rfl, h.se 1 []⟩
       ·
        replace H := ifF c14 H
        refine offl (decide_eq_false c14) [36, 37, 38] hr fun a hr => ?_
        refine opv (wn rfl) hr (vB false) (rp_f (b := (decide (p1 ≥ 0))) rfl (by kernel_rfl) (decide_eq_false c14) (by kernel_rfl)) fun a hr => ?_
        refine o1 hr (vB false) fun a hr => ?_
        refine ln ?_
        refine wp_ret ?_
        refine end_ret1 (v := vB false) rfl hr (by kernel_rfl) ?_
        replace H := ej1 H; subst H
        exact ⟨rfl, h.se 1 []⟩

/-- plunder/prog.instrOK -/
def prog_instrOK (p0 : T_api_Instr) (p1 : T_api_Func) (p2 : List T_api_Func) : Option (Bool) :=
  jn0 ((if p0.Kind < 0 then some (.inr false) else (if p0.Kind ≥ 10 then some (.inr false) else some (.inl ())))) (if inr_ p0.Kind gl0.length then ob0 (if 0 < p2.length then some () else none) (jn0 (ob1 (prog_fits (at_ gl0 p0.Kind.toNat).a p0.A p1 ((p2.length : Nat) : Int)) (fun r14 => (if r14 = true then ob1 (prog_fits (at_ gl0 p0.Kind.toNat).b p0.B p1 ((p2.length : Nat) : Int)) (fun r17 => (if r17 = true then ob1 (prog_fits (at_ gl0 p0.Kind.toNat).c p0.C p1 ((p2.length : Nat) : Int)) (fun r20 => (if r20 = true then some (.inl ()) else some (.inr false))) else some (.inr false))) else some (.inr false)))) (jn0 ((if (at_ gl0 p0.Kind.toNat).k = 5 then (if p0.K < 0 then some (.inr false) else (if p0.K ≥ 16 then some (.inr false) else some (.inl ()))) else some (.inl ()))) (ob1 ((if p0.Kind = 5 then if 0 < p2.length then some true else none else some false)) (fun g28 => (if g28 = true then if inr_ p0.B p2.length then (if (at_ p2 p0.B.toNat).Params = 0 then some true else (if p0.C ≥ 0 then some (decide (p0.C ≤ (wi (p1.Regs - (at_ p2 p0.B.toNat).Params)))) else some false)) else none else some true))))) else none)

theorem prog_instrOK_ok {z w : World} {L : List HProp} {p0 : T_api_Instr} {p1 : T_api_Func} {p2 : List T_api_Func} {va1_Code va2 : Option Addr} {vc1_Code vc2 : Nat} {hs2 : Nat → Option Addr × Nat} {r0 : Bool} (H : prog_instrOK p0 p1 p2 = some r0) (h : Fit z (sepL (L)) w) (hv1_Code : RdRow L 5 enc_T_api_Instr va1_Code p1.Code) (hv2 : Rd76 L va2 hs2 p2) (hg0 : RdRow L 5 enc_T_anon155 (some ⟨0, 0, none⟩) gl0) :
    Calls Tryd.prog 62 #[ag_T_api_Instr p0, .agg #[vI p1.Params, vI p1.Regs, vI p1.Slots, .slice va1_Code p1.Code.length vc1_Code], .slice va2 p2.length vc2] w fun e w => e = .returned (vB r0) ∧ Fit z (sepL (L)) w := by
 unfold prog_instrOK at H
 refine enter Tryd.func62 rfl 96 rfl rfl [(0, ag_T_api_Instr p0), (1, .agg #[vI p1.Params, vI p1.Regs, vI p1.Slots, .slice va1_Code p1.Code.length vc1_Code]), (2, .slice va2 p2.length vc2)] ⟨rfl, rfl, rfl, trivial⟩ ?_
 intro j a hr
 refine sr ?_
 refine onew (wn rfl) hr h nb (ca_T_api_Instr p0) 108 fun b1 w a h hr => ?_
 refine onew (wn rfl) hr h nb (#[vI p1.Params, vI p1.Regs, vI p1.Slots, .slice va1_Code p1.Code.length vc1_Code]) 76 fun b2 w a h hr => ?_
 refine o1 hr (vB false) fun a hr => ?_
 refine ln ?_
 obtain ⟨o4, H, hK3⟩ := jd0 H
 refine cut_rule (β := Unit) (fun _ a w => .inl () = o4 ∧ ∃ j, Rep 96 (lk [(2, .slice va2 p2.length vc2), (3, pA b1 0), (4, pA b2 0)] j) a ∧ Fit z (sepL (ob108 b1 p0 :: ob76 b2 p1 va1_Code vc1_Code :: L)) w) ?_ ?_
 ·
  refine sr ?_
  refine o1 hr (pA b1 0) fun a hr => ?_
  refine ld (wn rfl) hr (vI p0.Kind) ((h.pick 1).cell 0 rfl) fun a hr => ?_
  refine oo [12, 13] [vB (decide (p0.Kind < 0)), vB (decide (p0.Kind < 0))] hr fun a hr => ?_
  by_cases c5 : p0.Kind < 0
  ·
   replace H := ifT c5 H
   refine offl (decide_eq_true c5) [14, 15, 16] hr fun a hr => ?_
   refine opv (wn rfl) hr (vB true) (rp_t (b := (decide (p0.Kind < 0))) rfl (by kernel_rfl) (decide_eq_true c5) (by kernel_rfl)) fun a hr => ?_
   refine ln ?_
   refine cond_tt hr (b := true) rfl ?_
   refine sr ?_
   refine o1 hr (vB false) fun a hr => ?_
   refine ln ?_
   refine wp_ret ?_
   refine then_ret ?_
   refine end_ret1 (v := vB false) rfl hr (by kernel_rfl) ?_
   replace H := jx0 H hK3
   replace H := ej1 H; subst H
   exact ⟨rfl, h.se 2 []⟩
  ·
   replace H := ifF c5 H
   refine onl (decide_eq_false c5) [14] [pA b1 0] hr fun a hr => ?_
   refine ld (wgt hr (decide_eq_false c5)) hr (vI p0.Kind) ((h.pick 1).cell 0 rfl) fun a hr => ?_
   refine onl (decide_eq_false c5) [16] [vB (decide (p0.Kind ≥ 10))] hr fun a hr => ?_
   refine opv (wn rfl) hr (vB (decide (p0.Kind ≥ 10))) (rp_f (b := (decide (p0.Kind < 0))) rfl (by kernel_rfl) (decide_eq_false c5) (by kernel_rfl)) fun a hr => ?_
   refine ln ?_
   refine cD hr H (fun c6 H => ?_) fun c6 H => ?_
   ·
    refine sr ?_
    refine o1 hr (vB false) fun a hr => ?_
    refine ln ?_
    refine wp_ret ?_
    refine then_ret ?_
    refine end_ret1 (v := vB false) rfl hr (by kernel_rfl) ?_
    replace H := jx0 H hK3
    replace H := ej1 H; subst H
    exact ⟨rfl, h.se 2 []⟩
   ·
    refine wp_skip ?_
    refine then_normal ?_
    exact ⟨(), sinj H, hr.fj (h.se 2 [1, 0])⟩
 clear h hr a; rintro _ a w ⟨rfl, j, hr, h⟩
 replace H := jk0 hK3
 refine sr ?_
 refine o1 hr (pA b1 0) fun a hr => ?_
 refine ld (wn rfl) hr (vI p0.Kind) (h.cell 0 rfl) fun a hr => ?_
 obtain ⟨c7, H⟩ := gd H
 refine opv (wn rfl) hr (pA (blk (some ⟨0, 0, none⟩)) (p0.Kind.toNat * 5)) (ri_arr (xs := gl0) (k := .i64) (E := 155) rfl (by kernel_rfl) (by kernel_rfl) (by kernel_rfl) (by kernel_rfl) rfl c7) fun a hr => ?_
 refine ldm (wn rfl) hr (ag_T_anon155 (at_ gl0 p0.Kind.toNat)) (cs := cl_T_anon155 (at_ gl0 p0.Kind.toNat)) ⟨hg0.cell0 c7 (h.dn 2) 0 rfl, hg0.cell0 c7 (h.dn 2) 1 rfl, hg0.cell0 c7 (h.dn 2) 2 rfl, hg0.cell0 c7 (h.dn 2) 3 rfl, hg0.cell0 c7 (h.dn 2) 4 rfl, trivial⟩ fun a hr => ?_
 refine onew (wn rfl) hr h nb (#[vI 0, vI 0, vI 0, vI 0, vB false]) 155 fun b8 w a h hr => ?_
 refine stm (wn rfl) hr h 0 (cl_T_anon155 (at_ gl0 p0.Kind.toNat)) (ob155 b8 (at_ gl0 p0.Kind.toNat)) fun w h => ?_
 refine ln ?_
 refine sr ?_
 refine oo [22, 23, 8] [.slice va2 p2.length vc2, vI ((p2.length : Nat) : Int), vI ((p2.length : Nat) : Int)] hr fun a hr => ?_
 refine ln ?_
 obtain ⟨o10, H, hK9⟩ := kd0 H
 refine cut_rule (β := Unit) (fun _ a w => () = o10 ∧ ∃ j, Rep 96 (lk [(2, .slice va2 p2.length vc2), (3, pA b1 0), (4, pA b2 0), (7, pA b8 0), (8, vI ((p2.length : Nat) : Int))] j) a ∧ Fit z (sepL (ob108 b1 p0 :: ob76 b2 p1 va1_Code vc1_Code :: ob155 b8 (at_ gl0 p0.Kind.toNat) :: L)) w) ?_ ?_
 ·
  refine sr ?_
  obtain ⟨c11, H⟩ := gd H
  refine o1 hr (.slice va2 p2.length vc2) fun a hr => ?_
  refine opv (wn rfl) hr (vB false) (rnil_ne (n0 := p2.length) (cc := vc2) rfl (by kernel_rfl) (by kernel_rfl) (E := 76) (by kernel_rfl) (hv2.ne c11)) fun a hr => ?_
  refine ln ?_
  refine cond_ff hr (b := false) rfl ?_
  refine wp_skip ?_
  refine then_normal ?_
  exact ⟨(), sinj H, hr.fj (h.se 3 [1, 2, 0])⟩
 clear h hr a; rintro _ a w ⟨rfl, j, hr, h⟩
 replace H := kk0 hK9
 obtain ⟨o13, H, hK12⟩ := jd0 H
 refine cut_rule (β := Unit) (fun _ a w => .inl () = o13 ∧ ∃ j, Rep 96 (lk [(2, .slice va2 p2.length vc2), (3, pA b1 0), (4, pA b2 0), (7, pA b8 0)] j) a ∧ Fit z (sepL (ob108 b1 p0 :: ob76 b2 p1 va1_Code vc1_Code :: ob155 b8 (at_ gl0 p0.Kind.toNat) :: L)) w) ?_ ?_
 ·
  refine sr ?_
  refine o1 hr (pA b8 0) fun a hr => ?_
  refine ld (wn rfl) hr (vI (at_ gl0 p0.Kind.toNat).a) ((h.pick 2).cell 0 rfl) fun a hr => ?_
  refine o1 hr (pA b1 1) fun a hr => ?_
  refine ld (wn rfl) hr (vI p0.A) (h.cell 1 rfl) fun a hr => ?_
  refine ldm (wn rfl) hr (.agg #[vI p1.Params, vI p1.Regs, vI p1.Slots, .slice va1_Code p1.Code.length vc1_Code]) (cs := [vI p1.Params, vI p1.Regs, vI p1.Slots, .slice va1_Code p1.Code.length vc1_Code]) ((h.pick 1).held 0 rfl) fun a hr => ?_
  obtain ⟨r14, e15, H⟩ := bd1 H
  refine o1 hr (vI ((p2.length : Nat) : Int)) fun a hr => ?_
  have hc := prog_fits_ok (va2_Code := va1_Code) (vc2_Code := vc1_Code) (hv2_Code := (RdRow.up 3 hv1_Code)) (H := e15) (h := h)
  refine cl (wn rfl) hr hc ?_; clear hc h
  rintro _ w ⟨rfl, h⟩; refine ⟨_, rfl, fun a hr => ?_⟩
  refine oo [33, 34] [vB (!r14), vB (!r14)] hr fun a hr => ?_
  by_cases c16 : r14 = true
  ·
   replace H := ifT c16 H
   refine onl (show (!r14) = false from (by rw [show r14 = true from (c16)]; rfl)) [35] [pA b8 1] hr fun a hr => ?_
   refine ld (wgt hr (x := !r14) (c := false) (by rw [show r14 = true from (c16)]; rfl)) hr (vI (at_ gl0 p0.Kind.toNat).b) ((h.pick 2).cell 1 rfl) fun a hr => ?_
   refine onl (show (!r14) = false from (by rw [show r14 = true from (c16)]; rfl)) [37] [pA b1 2] hr fun a hr => ?_
   refine ld (wgt hr (x := !r14) (c := false) (by rw [show r14 = true from (c16)]; rfl)) hr (vI p0.B) (h.cell 2 rfl) fun a hr => ?_
   refine ldm (wgt hr (x := !r14) (c := false) (by rw [show r14 = true from (c16)]; rfl)) hr (.agg #[vI p1.Params, vI p1.Regs, vI p1.Slots, .slice va1_Code p1.Code.length vc1_Code]) (cs := [vI p1.Params, vI p1.Regs, vI p1.Slots, .slice va1_Code p1.Code.length vc1_Code]) ((h.pick 1).held 0 rfl) fun a hr => ?_
   obtain ⟨r17, e18, H⟩ := bd1 H
   refine onl (show (!r14) = false from (by rw [show r14 = true from (c16)]; rfl)) [40] [vI ((p2.length : Nat) : Int)] hr fun a hr => ?_
   have hc := prog_fits_ok (va2_Code := va1_Code) (vc2_Code := vc1_Code) (hv2_Code := (RdRow.up 3 hv1_Code)) (H := e18) (h := h)
   refine cl (wgt hr (x := !r14) (c := false) (by rw [show r14 = true from (c16)]; rfl)) hr hc ?_; clear hc h
   rintro _ w ⟨rfl, h⟩; refine ⟨_, rfl, fun a hr => ?_⟩
   refine onl (show (!r14) = false from (by rw [show r14 = true from (c16)]; rfl)) [42] [vB (!r17)] hr fun a hr => ?_
   refine opv (wn rfl) hr (vB (!r17)) (rp_f (b := (!r14)) rfl (by kernel_rfl) (by rw [show r14 = true from (c16)]; rfl) (by kernel_rfl)) fun a hr => ?_
   refine o1 hr (vB (!r17)) fun a hr => ?_
   by_cases c19 : r17 = true
   ·
    replace H := ifT c19 H
    refine onl (show (!r17) = false from (by rw [show r17 = true from (c19)]; rfl)) [45] [pA b8 2] hr fun a hr => ?_
    refine ld (wgt hr (x := !r17) (c := false) (by rw [show r17 = true from (c19)]; rfl)) hr (vI (at_ gl0 p0.Kind.toNat).c) ((h.pick 2).cell 2 rfl) fun a hr => ?_
    refine onl (show (!r17) = false from (by rw [show r17 = true from (c19)]; rfl)) [47] [pA b1 3] hr fun a hr => ?_
    refine ld (wgt hr (x := !r17) (c := false) (by rw [show r17 = true from (c19)]; rfl)) hr (vI p0.C) (h.cell 3 rfl) fun a hr => ?_
    refine ldm (wgt hr (x := !r17) (c := false) (by rw [show r17 = true from (c19)]; rfl)) hr (.agg #[vI p1.Params, vI p1.Regs, vI p1.Slots, .slice va1_Code p1.Code.length vc1_Code]) (cs := [vI p1.Params, vI p1.Regs, vI p1.Slots, .slice va1_Code p1.Code.length vc1_Code]) ((h.pick 1).held 0 rfl) fun a hr => ?_
    obtain ⟨r20, e21, H⟩ := bd1 H
    refine onl (show (!r17) = false from (by rw [show r17 = true from (c19)]; rfl)) [50] [vI ((p2.length : Nat) : Int)] hr fun a hr => ?_
    have hc := prog_fits_ok (va2_Code := va1_Code) (vc2_Code := vc1_Code) (hv2_Code := (RdRow.up 3 hv1_Code)) (H := e21) (h := h)
    refine cl (wgt hr (x := !r17) (c := false) (by rw [show r17 = true from (c19)]; rfl)) hr hc ?_; clear hc h
    rintro _ w ⟨rfl, h⟩; refine ⟨_, rfl, fun a hr => ?_⟩
    refine onl (show (!r17) = false from (by rw [show r17 = true from (c19)]; rfl)) [52] [vB (!r20)] hr fun a hr => ?_
    refine opv (wn rfl) hr (vB (!r20)) (rp_f (b := (!r17)) rfl (by kernel_rfl) (by rw [show r17 = true from (c19)]; rfl) (by kernel_rfl)) fun a hr => ?_
    refine ln ?_
    refine cM hr H (fun c22 H => ?_) fun c22 H => ?_
    ·
     refine wp_skip ?_
     refine then_normal ?_
     exact ⟨(), sinj H, hr.fj h⟩
    ·
     refine sr ?_
     refine o1 hr (vB false) fun a hr => ?_
     refine ln ?_
     refine wp_ret ?_
     refine then_ret ?_
     refine end_ret1 (v := vB false) rfl hr (by kernel_rfl) ?_
     replace H := jx0 H hK12
     replace H := ej1 H; subst H
     exact ⟨rfl, h.se 3 []⟩
   ·
    replace H := ifF c19 H
    refine offl (show (!r17) = true from (by rw [show r17 = false from (bF c19)]; rfl)) [45, 46, 47, 48, 49, 50, 51, 52] hr fun a hr => ?_
    refine opv (wn rfl) hr (vB true) (rp_t (b := (!r17)) rfl (by kernel_rfl) (by rw [show r17 = false from (bF c19)]; rfl) (by kernel_rfl)) fun a hr => ?_
    refine ln ?_
    refine cond_tt hr (b := true) rfl ?_
    refine sr ?_
    refine o1 hr (vB false) fun a hr => ?_
    refine ln ?_
    refine wp_ret ?_
    refine then_ret ?_
    refine end_ret1 (v := vB false) rfl hr (by kernel_rfl) ?_
    replace H := jx0 H hK12
    replace H := ej1 H; subst H
    exact ⟨rfl, h.se 3 []⟩
  ·
   replace H := ifF c16 H
   refine offl (show (!r14) = true from (by rw [show r14 = false from (bF c16)]; rfl)) [35, 36, 37, 38, 39, 40, 41, 42] hr fun a hr => ?_
   refine opv (wn rfl) hr (vB true) (rp_t (b := (!r14)) rfl (by kernel_rfl) (by rw [show r14 = false from (bF c16)]; rfl) (by kernel_rfl)) fun a hr => ?_
   refine o1 hr (vB true) fun a hr => ?_
   refine offl (rfl : true = true) [45, 46, 47, 48, 49, 50, 51, 52] hr fun a hr => ?_
   refine o1 hr (vB true) fun a hr => ?_
   refine ln ?_
   refine cond_tt hr (b := true) rfl ?_
   refine sr ?_
   refine o1 hr (vB false) fun a hr => ?_
   refine ln ?_
   refine wp_ret ?_
   refine then_ret ?_
   refine end_ret1 (v := vB false) rfl hr (by kernel_rfl) ?_
   replace H := jx0 H hK12
   replace H := ej1 H; subst H
   exact ⟨rfl, h.se 3 []⟩
 clear h hr a; rintro _ a w ⟨rfl, j, hr, h⟩
 replace H := jk0 hK12
 obtain ⟨o24, H, hK23⟩ := jd0 H
 refine cut_rule (β := Unit) (fun _ a w => .inl () = o24 ∧ ∃ j, Rep 96 (lk [(2, .slice va2 p2.length vc2), (3, pA b1 0), (4, pA b2 0)] j) a ∧ Fit z (sepL (ob108 b1 p0 :: ob76 b2 p1 va1_Code vc1_Code :: L)) w) ?_ ?_
 ·
  refine sr ?_
  refine o1 hr (pA b8 3) fun a hr => ?_
  refine ld (wn rfl) hr (vI (at_ gl0 p0.Kind.toNat).k) ((h.pick 2).cell 3 rfl) fun a hr => ?_
  refine oo [56, 57] [vB ((at_ gl0 p0.Kind.toNat).k == 5), vB ((at_ gl0 p0.Kind.toNat).k == 5)] hr fun a hr => ?_
  by_cases c25 : (at_ gl0 p0.Kind.toNat).k = 5
  ·
   replace H := ifT c25 H
   refine onl (beq_iff_eq.mpr c25) [58] [pA b1 4] hr fun a hr => ?_
   refine ld (wgt hr (beq_iff_eq.mpr c25)) hr (vI p0.K) (h.cell 4 rfl) fun a hr => ?_
   refine onl (beq_iff_eq.mpr c25) [60, 61] [vB (decide (p0.K < 0)), vB (decide (p0.K < 0))] hr fun a hr => ?_
   by_cases c26 : p0.K < 0
   ·
    replace H := ifT c26 H
    refine offl (decide_eq_true c26) [62, 63, 64] hr fun a hr => ?_
    refine opv (wgt hr (beq_iff_eq.mpr c25)) hr (vB true) (rp_t (b := (decide (p0.K < 0))) rfl (by kernel_rfl) (decide_eq_true c26) (by kernel_rfl)) fun a hr => ?_
    refine opv (wn rfl) hr (vB true) (rp_t (b := ((at_ gl0 p0.Kind.toNat).k == 5)) rfl (by kernel_rfl) (beq_iff_eq.mpr c25) (by kernel_rfl)) fun a hr => ?_
    refine ln ?_
    refine cond_tt hr (b := true) rfl ?_
    refine sr ?_
    refine o1 hr (vB false) fun a hr => ?_
    refine ln ?_
    refine wp_ret ?_
    refine then_ret ?_
    refine end_ret1 (v := vB false) rfl hr (by kernel_rfl) ?_
    replace H := jx0 H hK23
    replace H := ej1 H; subst H
    exact ⟨rfl, h.se 3 []⟩
   ·
    replace H := ifF c26 H
    refine onl (decide_eq_false c26) [62] [pA b1 4] hr fun a hr => ?_
    refine ld (wgt hr (decide_eq_false c26)) hr (vI p0.K) (h.cell 4 rfl) fun a hr => ?_
    refine onl (decide_eq_false c26) [64] [vB (decide (p0.K ≥ 16))] hr fun a hr => ?_
    refine opv (wgt hr (beq_iff_eq.mpr c25)) hr (vB (decide (p0.K ≥ 16))) (rp_f (b := (decide (p0.K < 0))) rfl (by kernel_rfl) (decide_eq_false c26) (by kernel_rfl)) fun a hr => ?_
    refine opv (wn rfl) hr (vB (decide (p0.K ≥ 16))) (rp_t (b := ((at_ gl0 p0.Kind.toNat).k == 5)) rfl (by kernel_rfl) (beq_iff_eq.mpr c25) (by kernel_rfl)) fun a hr => ?_
    refine ln ?_
    refine cD hr H (fun c27 H => ?_) fun c27 H => ?_
    ·
     refine sr ?_
     refine o1 hr (vB false) fun a hr => ?_
     refine ln ?_
     refine wp_ret ?_
     refine then_ret ?_
     refine end_ret1 (v := vB false) rfl hr (by kernel_rfl) ?_
     replace H := jx0 H hK23
     replace H := ej1 H; subst H
     exact ⟨rfl, h.se 3 []⟩
    ·
     refine wp_skip ?_
     refine then_normal ?_
     exact ⟨(), sinj H, hr.fj (h.se 3 [0, 1])⟩
  ·
   replace H := ifF c25 H
   refine offl (beq_eq_false_iff_ne.mpr c25) [58, 59, 60, 61] hr fun a hr => ?_
   refine offu false [62, 63, 64] hr fun a hr => ?_
   refine offl (beq_eq_false_iff_ne.mpr c25) [65] hr fun a hr => ?_
   refine opv (wn rfl) hr (vB false) (rp_f (b := ((at_ gl0 p0.Kind.toNat).k == 5)) rfl (by kernel_rfl) (beq_eq_false_iff_ne.mpr c25) (by kernel_rfl)) fun a hr => ?_
   refine ln ?_
   refine cond_ff hr (b := false) rfl ?_
   refine wp_skip ?_
   refine then_normal ?_
   exact ⟨(), sinj H, hr.fj (h.se 3 [0, 1])⟩
 clear h hr a; rintro _ a w ⟨rfl, j, hr, h⟩
 replace H := jk0 hK23
 refine wp_seq ?_
 obtain ⟨o30, H, hK29⟩ := kd1 H
 refine cut_rule (β := Unit) (fun _ a w => ∃ g28 : Bool, g28 = o30 ∧ ∃ j, Rep 96 (lk [(2, .slice va2 p2.length vc2), (3, pA b1 0), (4, pA b2 0), (73, vB g28)] j) a ∧ Fit z (sepL (ob108 b1 p0 :: ob76 b2 p1 va1_Code vc1_Code :: L)) w) ?_ ?_
 ·
  refine wp_region_lit ?_
  refine o1 hr (pA b1 0) fun a hr => ?_
  refine ld (wn rfl) hr (vI p0.Kind) (h.cell 0 rfl) fun a hr => ?_
  refine oo [69, 70] [vB (p0.Kind == 5), vB (p0.Kind == 5)] hr fun a hr => ?_
  by_cases c31 : p0.Kind = 5
  ·
   replace H := ifT c31 H
   obtain ⟨c32, H⟩ := gd H
   refine onl (beq_iff_eq.mpr c31) [71] [.slice va2 p2.length vc2] hr fun a hr => ?_
   refine opv (wgt hr (beq_iff_eq.mpr c31)) hr (vB true) (rnil_neq (n0 := p2.length) (cc := vc2) rfl (by kernel_rfl) (by kernel_rfl) (E := 76) (by kernel_rfl) (hv2.ne c32)) fun a hr => ?_
   refine opv (wn rfl) hr (vB true) (rp_t (b := (p0.Kind == 5)) rfl (by kernel_rfl) (beq_iff_eq.mpr c31) (by kernel_rfl)) fun a hr => ?_
   refine ln ?_
   exact ⟨(), true, sinj H, hr.fj h⟩
  ·
   replace H := ifF c31 H
   refine offl (beq_eq_false_iff_ne.mpr c31) [71, 72] hr fun a hr => ?_
   refine opv (wn rfl) hr (vB false) (rp_f (b := (p0.Kind == 5)) rfl (by kernel_rfl) (beq_eq_false_iff_ne.mpr c31) (by kernel_rfl)) fun a hr => ?_
   refine ln ?_
   exact ⟨(), false, sinj H, hr.fj h⟩
 clear h hr a; rintro _ a w ⟨g28, rfl, j, hr, h⟩
 replace H := kk1 hK29
 refine cV hr H (fun c33 H => ?_) fun c33 H => ?_
 ·
  refine sr ?_
  refine oo [74, 75] [.slice va2 p2.length vc2, pA b1 2] hr fun a hr => ?_
  refine ld (wn rfl) hr (vI p0.B) (h.cell 2 rfl) fun a hr => ?_
  obtain ⟨c34, H⟩ := gd H
  refine opv (wn rfl) hr (pA (blk va2) (offs va2 + p0.B.toNat * 4)) (ri_rn (k := .i64) (E := 76) (cc := vc2) rfl (by kernel_rfl) (by kernel_rfl) rfl (by kernel_rfl) (by kernel_rfl) hv2 c34) fun a hr => ?_
  refine o1 hr (pA (blk va2) (offs va2 + p0.B.toNat * 4)) fun a hr => ?_
  refine ld (wn rfl) hr (vI (at_ p2 p0.B.toNat).Params) (hv2.cell c34 (h.dn 2) 0 rfl) fun a hr => ?_
  refine o1 hr (vI (at_ p2 p0.B.toNat).Params) fun a hr => ?_
  refine ln ?_
  refine sr ?_
  refine oo [80, 81, 82] [vI (at_ p2 p0.B.toNat).Params, vB ((at_ p2 p0.B.toNat).Params == 0), vB ((at_ p2 p0.B.toNat).Params == 0)] hr fun a hr => ?_
  by_cases c35 : (at_ p2 p0.B.toNat).Params = 0
  ·
   replace H := ifT c35 H
   refine offl (beq_iff_eq.mpr c35) [83, 84, 85, 86] hr fun a hr => ?_
   refine offu true [87, 88, 89, 90, 91, 92, 93] hr fun a hr => ?_
   refine offl (beq_iff_eq.mpr c35) [94] hr fun a hr => ?_
   refine opv (wn rfl) hr (vB true) (rp_t (b := ((at_ p2 p0.B.toNat).Params == 0)) rfl (by kernel_rfl) (beq_iff_eq.mpr c35) (by kernel_rfl)) fun a hr => ?_
   refine o1 hr (vB true) fun a hr => ?_
   refine ln ?_
   refine wp_ret ?_
   refine then_ret ?_
   refine end_ret1 (v := vB true) rfl hr (by kernel_rfl) ?_
   replace H := ej1 H; subst H
   exact ⟨rfl, h.se 2 []⟩
  ·
   replace H := ifF c35 H
   refine onl (beq_eq_false_iff_ne.mpr c35) [83] [pA b1 3] hr fun a hr => ?_
   refine ld (wgt hr (beq_eq_false_iff_ne.mpr c35)) hr (vI p0.C) (h.cell 3 rfl) fun a hr => ?_
   refine onl (beq_eq_false_iff_ne.mpr c35) [85, 86] [vB (decide (p0.C ≥ 0)), vB (decide (p0.C ≥ 0))] hr fun a hr => ?_
   by_cases c36 : p0.C ≥ 0
   ·
    replace H := ifT c36 H
    refine onl (decide_eq_true c36) [87] [pA b1 3] hr fun a hr => ?_
    refine ld (wgt hr (decide_eq_true c36)) hr (vI p0.C) (h.cell 3 rfl) fun a hr => ?_
    refine onl (decide_eq_true c36) [89] [pA b2 1] hr fun a hr => ?_
    refine ld (wgt hr (decide_eq_true c36)) hr (vI p1.Regs) ((h.pick 1).cell 1 rfl) fun a hr => ?_
    refine onl (decide_eq_true c36) [91, 92, 93] [vI (at_ p2 p0.B.toNat).Params, vI (wi (p1.Regs - (at_ p2 p0.B.toNat).Params)), vB (decide (p0.C ≤ (wi (p1.Regs - (at_ p2 p0.B.toNat).Params))))] hr fun a hr => ?_
    refine opv (wgt hr (beq_eq_false_iff_ne.mpr c35)) hr (vB (decide (p0.C ≤ (wi (p1.Regs - (at_ p2 p0.B.toNat).Params))))) (rp_t (b := (decide (p0.C ≥ 0))) rfl (by kernel_rfl) (decide_eq_true c36) (by kernel_rfl)) fun a hr => ?_
    refine opv (wn rfl) hr (vB (decide (p0.C ≤ (wi (p1.Regs - (at_ p2 p0.B.toNat).Params))))) (rp_f (b := ((at_ p2 p0.B.toNat).Params == 0)) rfl (by kernel_rfl) (beq_eq_false_iff_ne.mpr c35) (by kernel_rfl)) fun a hr => ?_
    refine o1 hr (vB (decide (p0.C ≤ (wi (p1.Regs - (at_ p2 p0.B.toNat).Params))))) fun a hr => ?_
    refine ln ?_
    refine wp_ret ?_
    refine then_ret ?_
    refine end_ret1 (v := vB (decide (p0.C ≤ (wi (p1.Regs - (at_ p2 p0.B.toNat).Params))))) rfl hr (by kernel_rfl) ?_
    replace H := ej1 H; subst H
    exact ⟨rfl, h.se 2 []⟩
   ·
    replace H := ifF c36 H
    refine offl (decide_eq_false c36) [87, 88, 89, 90, 91, 92, 93] hr fun a hr => ?_
    refine opv (wgt hr (beq_eq_false_iff_ne.mpr c35)) hr (vB false) (rp_f (b := (decide (p0.C ≥ 0))) rfl (by kernel_rfl) (decide_eq_false c36) (by kernel_rfl)) fun a hr => ?_
    refine opv (wn rfl) hr (vB false) (rp_f (b := ((at_ p2 p0.B.toNat).Params == 0)) rfl (by kernel_rfl) (beq_eq_false_iff_ne.mpr c35) (by kernel_rfl)) fun a hr => ?_
    refine o1 hr (vB false) fun a hr => ?_
    refine ln ?_
    refine wp_ret ?_
    refine then_ret ?_
    refine end_ret1 (v := vB false) rfl hr (by kernel_rfl) ?_
    replace H := ej1 H; subst H
    exact ⟨rfl, h.se 2 []⟩
 ·
  refine wp_skip ?_
  refine then_normal ?_
  refine sr ?_
  refine o1 hr (vB true) fun a hr => ?_
  refine ln ?_
  refine wp_ret ?_
  refine end_ret1 (v := vB true) rfl hr (by kernel_rfl) ?_
  replace H := ej1 H; subst H
  exact ⟨rfl, h.se 2 []⟩

/-- plunder/prog.follow -/
def prog_follow (p0 : T_api_Func) (p1 : Int) : Option ((List Int)) :=
  if inr_ p1 p0.Code.length then ob1 (if inr_ (at_ p0.Code p1.toNat).Kind gl0.length then (if (at_ gl0 (at_ p0.Code p1.toNat).Kind.toNat).next = true then (if (wi (p1 + 1)) < ((p0.Code.length : Nat) : Int) then if (([] : List Int).length + 1) * 8 ≤ 140737488355328 then some (([] : List Int) ++ [wi (p1 + 1)]) else none else some ([] : List Int)) else some ([] : List Int)) else none) (fun l6 => (if (at_ p0.Code p1.toNat).Kind = 3 then if (l6.length + 1) * 8 ≤ 140737488355328 then some (l6 ++ [(at_ p0.Code p1.toNat).A]) else none else (if (at_ p0.Code p1.toNat).Kind = 4 then if (l6.length + 1) * 8 ≤ 140737488355328 then some (l6 ++ [(at_ p0.Code p1.toNat).B]) else none else some l6))) else none


end
end Go.Proofs.YtpikpffbcjpmcaaDoor.Mo
