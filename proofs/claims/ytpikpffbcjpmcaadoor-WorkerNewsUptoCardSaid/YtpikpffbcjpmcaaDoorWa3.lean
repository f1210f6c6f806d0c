/- what the functions compute, as plain Lean functions, and that they do -/
import Derived.Test.YtpikpffbcjpmcaaDoorWa2
namespace Go.Proofs.YtpikpffbcjpmcaaDoor.Mo
open Go Go.RowKit Go.Proofs.YtpikpffbcjpmcaaDoor.SL Go.Proofs.YtpikpffbcjpmcaaDoor.GX
set_option linter.unusedVariables false
set_option linter.unusedSimpArgs false
set_option maxRecDepth 100000
set_option maxHeartbeats 4000000
noncomputable section

theorem plunderlaw11_unchanged_ok {z w : World} {L : List HProp} {K : Nat} {p0 p1 : T_plunderlaw11_Case} {va0_P_Funcs va0_Args va0_S_Picks va0_S_Draws va1_P_Funcs va1_Args va1_S_Picks va1_S_Draws : Option Addr} {vc0_P_Funcs vc0_Args vc0_S_Picks vc0_S_Draws vc1_P_Funcs vc1_Args vc1_S_Picks vc1_S_Draws : Nat} {hs0_P_Funcs hs1_P_Funcs : Nat → Option Addr × Nat} {r0 : Bool} (H : plunderlaw11_unchanged K p0 p1 = some r0) (h : Fit z (sepL (L)) w) (hv0_P_Funcs : Rd76 L va0_P_Funcs hs0_P_Funcs p0.P_Funcs) (hv0_Args : RdRow L 1 encZ_i64 va0_Args p0.Args) (hv0_S_Picks : RdRow L 1 encZ_i64 va0_S_Picks p0.S_Picks) (hv0_S_Draws : RdRow L 1 encZ_i64 va0_S_Draws p0.S_Draws) (hv1_P_Funcs : Rd76 L va1_P_Funcs hs1_P_Funcs p1.P_Funcs) (hv1_Args : RdRow L 1 encZ_i64 va1_Args p1.Args) (hv1_S_Picks : RdRow L 1 encZ_i64 va1_S_Picks p1.S_Picks) (hv1_S_Draws : RdRow L 1 encZ_i64 va1_S_Draws p1.S_Draws) :
    Calls Tryd.prog 10 #[.agg #[.slice va0_P_Funcs p0.P_Funcs.length vc0_P_Funcs, .slice va0_Args p0.Args.length vc0_Args, vI p0.Workers, vI p0.Lim_Frames, vI p0.Lim_First, vI p0.Lim_Most, .slice va0_S_Picks p0.S_Picks.length vc0_S_Picks, .slice va0_S_Draws p0.S_Draws.length vc0_S_Draws], .agg #[.slice va1_P_Funcs p1.P_Funcs.length vc1_P_Funcs, .slice va1_Args p1.Args.length vc1_Args, vI p1.Workers, vI p1.Lim_Frames, vI p1.Lim_First, vI p1.Lim_Most, .slice va1_S_Picks p1.S_Picks.length vc1_S_Picks, .slice va1_S_Draws p1.S_Draws.length vc1_S_Draws]] w fun e w => e = .returned (vB r0) ∧ Fit z (sepL (L)) w := by
 unfold plunderlaw11_unchanged at H
 refine enter Tryd.func10 rfl 128 rfl rfl [(0, .agg #[.slice va0_P_Funcs p0.P_Funcs.length vc0_P_Funcs, .slice va0_Args p0.Args.length vc0_Args, vI p0.Workers, vI p0.Lim_Frames, vI p0.Lim_First, vI p0.Lim_Most, .slice va0_S_Picks p0.S_Picks.length vc0_S_Picks, .slice va0_S_Draws p0.S_Draws.length vc0_S_Draws]), (1, .agg #[.slice va1_P_Funcs p1.P_Funcs.length vc1_P_Funcs, .slice va1_Args p1.Args.length vc1_Args, vI p1.Workers, vI p1.Lim_Frames, vI p1.Lim_First, vI p1.Lim_Most, .slice va1_S_Picks p1.S_Picks.length vc1_S_Picks, .slice va1_S_Draws p1.S_Draws.length vc1_S_Draws])] ⟨rfl, rfl, trivial⟩ ?_
 intro j a hr
 refine sr ?_
 refine onew (wn rfl) hr h nb (#[.slice va0_P_Funcs p0.P_Funcs.length vc0_P_Funcs, .slice va0_Args p0.Args.length vc0_Args, vI p0.Workers, vI p0.Lim_Frames, vI p0.Lim_First, vI p0.Lim_Most, .slice va0_S_Picks p0.S_Picks.length vc0_S_Picks, .slice va0_S_Draws p0.S_Draws.length vc0_S_Draws]) 32 fun b1 w a h hr => ?_
 refine onew (wn rfl) hr h nb (#[.slice va1_P_Funcs p1.P_Funcs.length vc1_P_Funcs, .slice va1_Args p1.Args.length vc1_Args, vI p1.Workers, vI p1.Lim_Frames, vI p1.Lim_First, vI p1.Lim_Most, .slice va1_S_Picks p1.S_Picks.length vc1_S_Picks, .slice va1_S_Draws p1.S_Draws.length vc1_S_Draws]) 32 fun b2 w a h hr => ?_
 refine o1 hr (vB false) fun a hr => ?_
 refine ln ?_
 obtain ⟨o4, H, hK3⟩ := jd0 H
 refine cut_rule (β := Unit) (fun _ a w => .inl () = o4 ∧ ∃ j, Rep 128 (lk [(2, pA b1 0), (3, pA b2 0)] j) a ∧ Fit z (sepL (ob32 b1 p0 va0_P_Funcs vc0_P_Funcs va0_Args vc0_Args va0_S_Picks vc0_S_Picks va0_S_Draws vc0_S_Draws :: ob32 b2 p1 va1_P_Funcs vc1_P_Funcs va1_Args vc1_Args va1_S_Picks vc1_S_Picks va1_S_Draws vc1_S_Draws :: L)) w) ?_ ?_
 ·
  refine sr ?_
  refine oo [10, 11] [pA b1 0, pA b1 0] hr fun a hr => ?_
  refine ld (wn rfl) hr (.slice va0_P_Funcs p0.P_Funcs.length vc0_P_Funcs) ((h.pick 1).cell 0 rfl) fun a hr => ?_
  refine oo [13, 14, 15] [vI ((p0.P_Funcs.length : Nat) : Int), pA b2 0, pA b2 0] hr fun a hr => ?_
  refine ld (wn rfl) hr (.slice va1_P_Funcs p1.P_Funcs.length vc1_P_Funcs) (h.cell 0 rfl) fun a hr => ?_
  refine oo [17, 18, 19] [vI ((p1.P_Funcs.length : Nat) : Int), vB (((p0.P_Funcs.length : Nat) : Int) != ((p1.P_Funcs.length : Nat) : Int)), vB (((p0.P_Funcs.length : Nat) : Int) != ((p1.P_Funcs.length : Nat) : Int))] hr fun a hr => ?_
  by_cases c5 : ((p0.P_Funcs.length : Nat) : Int) = ((p1.P_Funcs.length : Nat) : Int)
  ·
   replace H := ifT c5 H
   refine onl (bne_eq_false_iff_eq.mpr c5) [20] [pA b1 1] hr fun a hr => ?_
   refine ld (wgt hr (bne_eq_false_iff_eq.mpr c5)) hr (.slice va0_Args p0.Args.length vc0_Args) ((h.pick 1).cell 1 rfl) fun a hr => ?_
   refine onl (bne_eq_false_iff_eq.mpr c5) [22, 23] [vI ((p0.Args.length : Nat) : Int), pA b2 1] hr fun a hr => ?_
   refine ld (wgt hr (bne_eq_false_iff_eq.mpr c5)) hr (.slice va1_Args p1.Args.length vc1_Args) (h.cell 1 rfl) fun a hr => ?_
   refine onl (bne_eq_false_iff_eq.mpr c5) [25, 26] [vI ((p1.Args.length : Nat) : Int), vB (((p0.Args.length : Nat) : Int) != ((p1.Args.length : Nat) : Int))] hr fun a hr => ?_
   refine opv (wn rfl) hr (vB (((p0.Args.length : Nat) : Int) != ((p1.Args.length : Nat) : Int))) (rp_f (b := (((p0.P_Funcs.length : Nat) : Int) != ((p1.P_Funcs.length : Nat) : Int))) rfl (by kernel_rfl) (bne_eq_false_iff_eq.mpr c5) (by kernel_rfl)) fun a hr => ?_
   refine ln ?_
   refine cN hr H (fun c6 H => ?_) fun c6 H => ?_
   ·
    refine wp_skip ?_
    refine then_normal ?_
    exact ⟨(), sinj H, hr.fj (h.se 2 [1, 0])⟩
   ·
    refine sr ?_
    refine o1 hr (vB false) fun a hr => ?_
    refine ln ?_
    refine wp_ret ?_
    refine then_ret ?_
    refine end_ret1 (v := vB false) rfl hr (by kernel_rfl) ?_
    replace H := jx0 H hK3
    replace H := ej1 H; subst H
    exact ⟨rfl, h.se 2 []⟩
  ·
   replace H := ifF c5 H
   refine offl (bne_iff_ne.mpr c5) [20, 21, 22, 23, 24, 25, 26] hr fun a hr => ?_
   refine opv (wn rfl) hr (vB true) (rp_t (b := (((p0.P_Funcs.length : Nat) : Int) != ((p1.P_Funcs.length : Nat) : Int))) rfl (by kernel_rfl) (bne_iff_ne.mpr c5) (by kernel_rfl)) fun a hr => ?_
   refine ln ?_
   refine cond_tt hr (b := true) rfl ?_
   refine sr ?_
   refine o1 hr (vB false) fun a hr => ?_
   refine ln ?_
   refine wp_ret ?_
   refine then_ret ?_
   refine end_ret1 (v := vB false) rfl hr (by kernel_rfl) ?_
   replace H := jx0 H hK3
   replace H := ej1 H; subst H
   exact ⟨rfl, h.se 2 []⟩
 clear h hr a; rintro _ a w ⟨rfl, j, hr, h⟩
 replace H := jk0 hK3
 obtain ⟨o8, H, hK7⟩ := jd0 H
 refine cut_rule (β := Unit) (fun _ a w => .inl () = o8 ∧ ∃ j, Rep 128 (lk [(2, pA b1 0), (3, pA b2 0)] j) a ∧ Fit z (sepL (ob32 b1 p0 va0_P_Funcs vc0_P_Funcs va0_Args vc0_Args va0_S_Picks vc0_S_Picks va0_S_Draws vc0_S_Draws :: ob32 b2 p1 va1_P_Funcs vc1_P_Funcs va1_Args vc1_Args va1_S_Picks vc1_S_Picks va1_S_Draws vc1_S_Draws :: L)) w) ?_ ?_
 ·
  refine sr ?_
  refine o1 hr (vI 0) fun a hr => ?_
  refine ln ?_
  refine wp_block ?_
  refine loop_rule (β := Nat) id (fun m a w => ∃ g9 : Int, (plunderlaw11_unchanged_l1 K p0 p1 m g9) = some o8 ∧ ∃ j, Rep 128 (lk [(2, pA b1 0), (3, pA b2 0), (5, vI g9)] j) a ∧ Fit z (sepL (ob32 b1 p0 va0_P_Funcs vc0_P_Funcs va0_Args vc0_Args va0_S_Picks vc0_S_Picks va0_S_Draws vc0_S_Draws :: ob32 b2 p1 va1_P_Funcs vc1_P_Funcs va1_Args vc1_Args va1_S_Picks vc1_S_Picks va1_S_Draws vc1_S_Draws :: L)) w) K ⟨0, H, hr.fj h⟩ ?_
  clear h hr a H; rintro k1 a w ⟨g9, H, j, hr, h⟩
  cases k1 with
  | zero => exact absurd H (by simp [plunderlaw11_unchanged_l1])
  | succ k1 =>
   rw [plunderlaw11_unchanged_l1] at H
   refine wp_seq ?_
   refine sr ?_
   refine oo [28, 29, 30] [vI g9, pA b1 0, pA b1 0] hr fun a hr => ?_
   refine ld (wn rfl) hr (.slice va0_P_Funcs p0.P_Funcs.length vc0_P_Funcs) (h.cell 0 rfl) fun a hr => ?_
   refine oo [32, 33] [vI ((p0.P_Funcs.length : Nat) : Int), vB (decide (g9 < ((p0.P_Funcs.length : Nat) : Int)))] hr fun a hr => ?_
   refine ln ?_
   refine cD hr H (fun c10 H => ?_) fun c10 H => ?_
   ·
    refine wp_skip ?_
    refine then_normal ?_
    obtain ⟨o12, H, hK11⟩ := jd0 H
    refine cut_rule (β := Unit) (fun _ a w => .inl () = o12 ∧ ∃ j, Rep 128 (lk [(2, pA b1 0), (3, pA b2 0), (5, vI g9)] j) a ∧ Fit z (sepL (ob32 b1 p0 va0_P_Funcs vc0_P_Funcs va0_Args vc0_Args va0_S_Picks vc0_S_Picks va0_S_Draws vc0_S_Draws :: ob32 b2 p1 va1_P_Funcs vc1_P_Funcs va1_Args vc1_Args va1_S_Picks vc1_S_Picks va1_S_Draws vc1_S_Draws :: L)) w) ?_ ?_
    ·
     refine wp_block ?_
     refine sr ?_
     refine oo [36, 37] [pA b1 0, pA b1 0] hr fun a hr => ?_
     refine ld (wn rfl) hr (.slice va0_P_Funcs p0.P_Funcs.length vc0_P_Funcs) (h.cell 0 rfl) fun a hr => ?_
     obtain ⟨c13, H⟩ := gd H
     refine o1 hr (vI g9) fun a hr => ?_
     refine opv (wn rfl) hr (pA (blk va0_P_Funcs) (offs va0_P_Funcs + g9.toNat * 4)) (ri_rn (k := .i64) (E := 76) (cc := vc0_P_Funcs) rfl (by kernel_rfl) (by kernel_rfl) rfl (by kernel_rfl) (by kernel_rfl) hv0_P_Funcs c13) fun a hr => ?_
     refine ldm (wn rfl) hr (.agg #[vI (at_ p0.P_Funcs g9.toNat).Params, vI (at_ p0.P_Funcs g9.toNat).Regs, vI (at_ p0.P_Funcs g9.toNat).Slots, .slice ((hs0_P_Funcs g9.toNat).1) (at_ p0.P_Funcs g9.toNat).Code.length ((hs0_P_Funcs g9.toNat).2)]) (cs := [vI (at_ p0.P_Funcs g9.toNat).Params, vI (at_ p0.P_Funcs g9.toNat).Regs, vI (at_ p0.P_Funcs g9.toNat).Slots, .slice ((hs0_P_Funcs g9.toNat).1) (at_ p0.P_Funcs g9.toNat).Code.length ((hs0_P_Funcs g9.toNat).2)]) ⟨hv0_P_Funcs.cell c13 (h.dn 2) 0 rfl, hv0_P_Funcs.cell c13 (h.dn 2) 1 rfl, hv0_P_Funcs.cell c13 (h.dn 2) 2 rfl, hv0_P_Funcs.cell c13 (h.dn 2) 3 rfl, trivial⟩ fun a hr => ?_
     refine onew (wn rfl) hr h nb (#[vI 0, vI 0, vI 0, .slice none 0 0]) 76 fun b14 w a h hr => ?_
     refine stm (wn rfl) hr h 0 ([vI (at_ p0.P_Funcs g9.toNat).Params, vI (at_ p0.P_Funcs g9.toNat).Regs, vI (at_ p0.P_Funcs g9.toNat).Slots, .slice ((hs0_P_Funcs g9.toNat).1) (at_ p0.P_Funcs g9.toNat).Code.length ((hs0_P_Funcs g9.toNat).2)]) (ob76 b14 (at_ p0.P_Funcs g9.toNat) ((hs0_P_Funcs g9.toNat).1) ((hs0_P_Funcs g9.toNat).2)) fun w h => ?_
     refine ln ?_
     refine sr ?_
     refine oo [42, 43] [pA b2 0, pA b2 0] hr fun a hr => ?_
     refine ld (wn rfl) hr (.slice va1_P_Funcs p1.P_Funcs.length vc1_P_Funcs) ((h.pick 2).cell 0 rfl) fun a hr => ?_
     obtain ⟨c15, H⟩ := gd H
     refine o1 hr (vI g9) fun a hr => ?_
     refine opv (wn rfl) hr (pA (blk va1_P_Funcs) (offs va1_P_Funcs + g9.toNat * 4)) (ri_rn (k := .i64) (E := 76) (cc := vc1_P_Funcs) rfl (by kernel_rfl) (by kernel_rfl) rfl (by kernel_rfl) (by kernel_rfl) hv1_P_Funcs c15) fun a hr => ?_
     refine ldm (wn rfl) hr (.agg #[vI (at_ p1.P_Funcs g9.toNat).Params, vI (at_ p1.P_Funcs g9.toNat).Regs, vI (at_ p1.P_Funcs g9.toNat).Slots, .slice ((hs1_P_Funcs g9.toNat).1) (at_ p1.P_Funcs g9.toNat).Code.length ((hs1_P_Funcs g9.toNat).2)]) (cs := [vI (at_ p1.P_Funcs g9.toNat).Params, vI (at_ p1.P_Funcs g9.toNat).Regs, vI (at_ p1.P_Funcs g9.toNat).Slots, .slice ((hs1_P_Funcs g9.toNat).1) (at_ p1.P_Funcs g9.toNat).Code.length ((hs1_P_Funcs g9.toNat).2)]) ⟨hv1_P_Funcs.cell c15 (h.dn 3) 0 rfl, hv1_P_Funcs.cell c15 (h.dn 3) 1 rfl, hv1_P_Funcs.cell c15 (h.dn 3) 2 rfl, hv1_P_Funcs.cell c15 (h.dn 3) 3 rfl, trivial⟩ fun a hr => ?_
     refine onew (wn rfl) hr h nb (#[vI 0, vI 0, vI 0, .slice none 0 0]) 76 fun b16 w a h hr => ?_
     refine stm (wn rfl) hr h 0 ([vI (at_ p1.P_Funcs g9.toNat).Params, vI (at_ p1.P_Funcs g9.toNat).Regs, vI (at_ p1.P_Funcs g9.toNat).Slots, .slice ((hs1_P_Funcs g9.toNat).1) (at_ p1.P_Funcs g9.toNat).Code.length ((hs1_P_Funcs g9.toNat).2)]) (ob76 b16 (at_ p1.P_Funcs g9.toNat) ((hs1_P_Funcs g9.toNat).1) ((hs1_P_Funcs g9.toNat).2)) fun w h => ?_
     refine ln ?_
     obtain ⟨o18, H, hK17⟩ := jd0 H
     refine cut_rule (β := Unit) (fun _ a w => .inl () = o18 ∧ ∃ j, Rep 128 (lk [(2, pA b1 0), (3, pA b2 0), (5, vI g9), (6, pA b14 0), (7, pA b16 0)] j) a ∧ Fit z (sepL (ob32 b1 p0 va0_P_Funcs vc0_P_Funcs va0_Args vc0_Args va0_S_Picks vc0_S_Picks va0_S_Draws vc0_S_Draws :: ob32 b2 p1 va1_P_Funcs vc1_P_Funcs va1_Args vc1_Args va1_S_Picks vc1_S_Picks va1_S_Draws vc1_S_Draws :: ob76 b14 (at_ p0.P_Funcs g9.toNat) ((hs0_P_Funcs g9.toNat).1) ((hs0_P_Funcs g9.toNat).2) :: ob76 b16 (at_ p1.P_Funcs g9.toNat) ((hs1_P_Funcs g9.toNat).1) ((hs1_P_Funcs g9.toNat).2) :: L)) w) ?_ ?_
     ·
      refine sr ?_
      refine o1 hr (pA b14 0) fun a hr => ?_
      refine ld (wn rfl) hr (vI (at_ p0.P_Funcs g9.toNat).Params) ((h.pick 1).cell 0 rfl) fun a hr => ?_
      refine o1 hr (pA b16 0) fun a hr => ?_
      refine ld (wn rfl) hr (vI (at_ p1.P_Funcs g9.toNat).Params) (h.cell 0 rfl) fun a hr => ?_
      refine oo [52, 53] [vB ((at_ p0.P_Funcs g9.toNat).Params != (at_ p1.P_Funcs g9.toNat).Params), vB ((at_ p0.P_Funcs g9.toNat).Params != (at_ p1.P_Funcs g9.toNat).Params)] hr fun a hr => ?_
      by_cases c19 : (at_ p0.P_Funcs g9.toNat).Params = (at_ p1.P_Funcs g9.toNat).Params
      ·
       replace H := ifT c19 H
       refine onl (bne_eq_false_iff_eq.mpr c19) [54] [pA b14 1] hr fun a hr => ?_
       refine ld (wgt hr (bne_eq_false_iff_eq.mpr c19)) hr (vI (at_ p0.P_Funcs g9.toNat).Regs) ((h.pick 1).cell 1 rfl) fun a hr => ?_
       refine onl (bne_eq_false_iff_eq.mpr c19) [56] [pA b16 1] hr fun a hr => ?_
       refine ld (wgt hr (bne_eq_false_iff_eq.mpr c19)) hr (vI (at_ p1.P_Funcs g9.toNat).Regs) (h.cell 1 rfl) fun a hr => ?_
       refine onl (bne_eq_false_iff_eq.mpr c19) [58] [vB ((at_ p0.P_Funcs g9.toNat).Regs != (at_ p1.P_Funcs g9.toNat).Regs)] hr fun a hr => ?_
       refine opv (wn rfl) hr (vB ((at_ p0.P_Funcs g9.toNat).Regs != (at_ p1.P_Funcs g9.toNat).Regs)) (rp_f (b := ((at_ p0.P_Funcs g9.toNat).Params != (at_ p1.P_Funcs g9.toNat).Params)) rfl (by kernel_rfl) (bne_eq_false_iff_eq.mpr c19) (by kernel_rfl)) fun a hr => ?_
       refine o1 hr (vB ((at_ p0.P_Funcs g9.toNat).Regs != (at_ p1.P_Funcs g9.toNat).Regs)) fun a hr => ?_
       by_cases c20 : (at_ p0.P_Funcs g9.toNat).Regs = (at_ p1.P_Funcs g9.toNat).Regs
       ·
        replace H := ifT c20 H
        refine onl (bne_eq_false_iff_eq.mpr c20) [61] [pA b14 2] hr fun a hr => ?_
        refine ld (wgt hr (bne_eq_false_iff_eq.mpr c20)) hr (vI (at_ p0.P_Funcs g9.toNat).Slots) ((h.pick 1).cell 2 rfl) fun a hr => ?_
        refine onl (bne_eq_false_iff_eq.mpr c20) [63] [pA b16 2] hr fun a hr => ?_
        refine ld (wgt hr (bne_eq_false_iff_eq.mpr c20)) hr (vI (at_ p1.P_Funcs g9.toNat).Slots) (h.cell 2 rfl) fun a hr => ?_
        refine onl (bne_eq_false_iff_eq.mpr c20) [65] [vB ((at_ p0.P_Funcs g9.toNat).Slots != (at_ p1.P_Funcs g9.toNat).Slots)] hr fun a hr => ?_
        refine opv (wn rfl) hr (vB ((at_ p0.P_Funcs g9.toNat).Slots != (at_ p1.P_Funcs g9.toNat).Slots)) (rp_f (b := ((at_ p0.P_Funcs g9.toNat).Regs != (at_ p1.P_Funcs g9.toNat).Regs)) rfl (by kernel_rfl) (bne_eq_false_iff_eq.mpr c20) (by kernel_rfl)) fun a hr => ?_
        refine o1 hr (vB ((at_ p0.P_Funcs g9.toNat).Slots != (at_ p1.P_Funcs g9.toNat).Slots)) fun a hr => ?_
        by_cases c21 : (at_ p0.P_Funcs g9.toNat).Slots = (at_ p1.P_Funcs g9.toNat).Slots
        ·
         replace H := ifT c21 H
         refine onl (bne_eq_false_iff_eq.mpr c21) [68] [pA b14 3] hr fun a hr => ?_
         refine ld (wgt hr (bne_eq_false_iff_eq.mpr c21)) hr (.slice ((hs0_P_Funcs g9.toNat).1) (at_ p0.P_Funcs g9.toNat).Code.length ((hs0_P_Funcs g9.toNat).2)) ((h.pick 1).cell 3 rfl) fun a hr => ?_
         refine onl (bne_eq_false_iff_eq.mpr c21) [70, 71] [vI (((at_ p0.P_Funcs g9.toNat).Code.length : Nat) : Int), pA b16 3] hr fun a hr => ?_
         refine ld (wgt hr (bne_eq_false_iff_eq.mpr c21)) hr (.slice ((hs1_P_Funcs g9.toNat).1) (at_ p1.P_Funcs g9.toNat).Code.length ((hs1_P_Funcs g9.toNat).2)) (h.cell 3 rfl) fun a hr => ?_
         refine onl (bne_eq_false_iff_eq.mpr c21) [73, 74] [vI (((at_ p1.P_Funcs g9.toNat).Code.length : Nat) : Int), vB ((((at_ p0.P_Funcs g9.toNat).Code.length : Nat) : Int) != (((at_ p1.P_Funcs g9.toNat).Code.length : Nat) : Int))] hr fun a hr => ?_
         refine opv (wn rfl) hr (vB ((((at_ p0.P_Funcs g9.toNat).Code.length : Nat) : Int) != (((at_ p1.P_Funcs g9.toNat).Code.length : Nat) : Int))) (rp_f (b := ((at_ p0.P_Funcs g9.toNat).Slots != (at_ p1.P_Funcs g9.toNat).Slots)) rfl (by kernel_rfl) (bne_eq_false_iff_eq.mpr c21) (by kernel_rfl)) fun a hr => ?_
         refine ln ?_
         refine cN hr H (fun c22 H => ?_) fun c22 H => ?_
         ·
          refine wp_skip ?_
          refine then_normal ?_
          exact ⟨(), sinj H, hr.fj (h.se 4 [2, 3, 1, 0])⟩
         ·
          refine sr ?_
          refine o1 hr (vB false) fun a hr => ?_
          refine ln ?_
          refine wp_ret ?_
          refine then_ret ?_
          refine blk_ret ?_
          refine then_ret ?_
          refine then_ret ?_
          refine blk_ret ?_
          refine then_ret ?_
          refine end_ret1 (v := vB false) rfl hr (by kernel_rfl) ?_
          replace H := jx0 H hK17
          replace H := jx0 H hK11
          replace H := jx0 H hK7
          replace H := ej1 H; subst H
          exact ⟨rfl, h.se 4 []⟩
        ·
         replace H := ifF c21 H
         refine offl (bne_iff_ne.mpr c21) [68, 69, 70, 71, 72, 73, 74] hr fun a hr => ?_
         refine opv (wn rfl) hr (vB true) (rp_t (b := ((at_ p0.P_Funcs g9.toNat).Slots != (at_ p1.P_Funcs g9.toNat).Slots)) rfl (by kernel_rfl) (bne_iff_ne.mpr c21) (by kernel_rfl)) fun a hr => ?_
         refine ln ?_
         refine cond_tt hr (b := true) rfl ?_
         refine sr ?_
         refine o1 hr (vB false) fun a hr => ?_
         refine ln ?_
         refine wp_ret ?_
         refine then_ret ?_
         refine blk_ret ?_
         refine then_ret ?_
         refine then_ret ?_
         refine blk_ret ?_
         refine then_ret ?_
         refine end_ret1 (v := vB false) rfl hr (by kernel_rfl) ?_
         replace H := jx0 H hK17
         replace H := jx0 H hK11
         replace H := jx0 H hK7
         replace H := ej1 H; subst H
         exact ⟨rfl, h.se 4 []⟩
       ·
        replace H := ifF c20 H
        refine offl (bne_iff_ne.mpr c20) [61, 62, 63, 64, 65] hr fun a hr => ?_
        refine opv (wn rfl) hr (vB true) (rp_t (b := ((at_ p0.P_Funcs g9.toNat).Regs != (at_ p1.P_Funcs g9.toNat).Regs)) rfl (by kernel_rfl) (bne_iff_ne.mpr c20) (by kernel_rfl)) fun a hr => ?_
        refine o1 hr (vB true) fun a hr => ?_
        refine offl (rfl : true = true) [68, 69, 70, 71, 72, 73, 74] hr fun a hr => ?_
        refine o1 hr (vB true) fun a hr => ?_
        refine ln ?_
        refine cond_tt hr (b := true) rfl ?_
        refine sr ?_
        refine o1 hr (vB false) fun a hr => ?_
        refine ln ?_
        refine wp_ret ?_
        refine then_ret ?_
        refine blk_ret ?_
        refine then_ret ?_
        refine then_ret ?_
        refine blk_ret ?_
        refine then_ret ?_
        refine end_ret1 (v := vB false) rfl hr (by kernel_rfl) ?_
        replace H := jx0 H hK17
        replace H := jx0 H hK11
        replace H := jx0 H hK7
        replace H := ej1 H; subst H
        exact ⟨rfl, h.se 4 []⟩
      ·
       replace H := ifF c19 H
       refine offl (bne_iff_ne.mpr c19) [54, 55, 56, 57, 58] hr fun a hr => ?_
       refine opv (wn rfl) hr (vB true) (rp_t (b := ((at_ p0.P_Funcs g9.toNat).Params != (at_ p1.P_Funcs g9.toNat).Params)) rfl (by kernel_rfl) (bne_iff_ne.mpr c19) (by kernel_rfl)) fun a hr => ?_
       refine o1 hr (vB true) fun a hr => ?_
       refine offl (rfl : true = true) [61, 62, 63, 64, 65] hr fun a hr => ?_
       refine oo [66, 67] [vB true, vB true] hr fun a hr => ?_
       refine offl (rfl : true = true) [68, 69, 70, 71, 72, 73, 74] hr fun a hr => ?_
       refine o1 hr (vB true) fun a hr => ?_
       refine ln ?_
       refine cond_tt hr (b := true) rfl ?_
       refine sr ?_
       refine o1 hr (vB false) fun a hr => ?_
       refine ln ?_
       refine wp_ret ?_
       refine then_ret ?_
       refine blk_ret ?_
       refine then_ret ?_
       refine then_ret ?_
       refine blk_ret ?_
       refine then_ret ?_
       refine end_ret1 (v := vB false) rfl hr (by kernel_rfl) ?_
       replace H := jx0 H hK17
       replace H := jx0 H hK11
       replace H := jx0 H hK7
       replace H := ej1 H; subst H
       exact ⟨rfl, h.se 4 []⟩
     clear h hr a; rintro _ a w ⟨rfl, j, hr, h⟩
     replace H := jk0 hK17
     refine sr ?_
     refine o1 hr (vI 0) fun a hr => ?_
     refine ln ?_
     refine wp_block ?_
     refine loop_rule (β := Nat) id (fun m a w => ∃ g23 : Int, (plunderlaw11_unchanged_l2 K p0 p1 g9 m g23) = some o12 ∧ ∃ j, Rep 128 (lk [(2, pA b1 0), (3, pA b2 0), (5, vI g9), (6, pA b14 0), (7, pA b16 0), (8, vI g23)] j) a ∧ Fit z (sepL (ob32 b1 p0 va0_P_Funcs vc0_P_Funcs va0_Args vc0_Args va0_S_Picks vc0_S_Picks va0_S_Draws vc0_S_Draws :: ob32 b2 p1 va1_P_Funcs vc1_P_Funcs va1_Args vc1_Args va1_S_Picks vc1_S_Picks va1_S_Draws vc1_S_Draws :: ob76 b14 (at_ p0.P_Funcs g9.toNat) ((hs0_P_Funcs g9.toNat).1) ((hs0_P_Funcs g9.toNat).2) :: ob76 b16 (at_ p1.P_Funcs g9.toNat) ((hs1_P_Funcs g9.toNat).1) ((hs1_P_Funcs g9.toNat).2) :: L)) w) K ⟨0, H, hr.fj h⟩ ?_
     clear h hr a H; rintro k2 a w ⟨g23, H, j, hr, h⟩
     cases k2 with
     | zero => exact absurd H (by simp [plunderlaw11_unchanged_l2])
     | succ k2 =>
      rw [plunderlaw11_unchanged_l2] at H
      refine wp_seq ?_
      refine sr ?_
      refine oo [76, 77] [vI g23, pA b14 3] hr fun a hr => ?_
      refine ld (wn rfl) hr (.slice ((hs0_P_Funcs g9.toNat).1) (at_ p0.P_Funcs g9.toNat).Code.length ((hs0_P_Funcs g9.toNat).2)) ((h.pick 2).cell 3 rfl) fun a hr => ?_
      refine oo [79, 80] [vI (((at_ p0.P_Funcs g9.toNat).Code.length : Nat) : Int), vB (decide (g23 < (((at_ p0.P_Funcs g9.toNat).Code.length : Nat) : Int)))] hr fun a hr => ?_
      refine ln ?_
      refine cD hr H (fun c24 H => ?_) fun c24 H => ?_
      ·
       refine wp_skip ?_
       refine then_normal ?_
       refine wp_seq ?_
       refine wp_block ?_
       refine wp_seq ?_
       obtain ⟨c25, H⟩ := gd H
       obtain ⟨c26, H⟩ := gd H
       refine regL [(b14, 3, [.slice ((hs0_P_Funcs g9.toNat).1) (at_ p0.P_Funcs g9.toNat).Code.length ((hs0_P_Funcs g9.toNat).2)]), (blk ((hs0_P_Funcs g9.toNat).1), offs ((hs0_P_Funcs g9.toNat).1) + g23.toNat * 5, cl_T_api_Instr (at_ (at_ p0.P_Funcs g9.toNat).Code g23.toNat)), (b16, 3, [.slice ((hs1_P_Funcs g9.toNat).1) (at_ p1.P_Funcs g9.toNat).Code.length ((hs1_P_Funcs g9.toNat).2)]), (blk ((hs1_P_Funcs g9.toNat).1), offs ((hs1_P_Funcs g9.toNat).1) + g23.toNat * 5, cl_T_api_Instr (at_ (at_ p1.P_Funcs g9.toNat).Code g23.toNat))] [0, 3, 5, 8] 11 h (fun h => ⟨⟨(h.pick 2).cell 3 rfl, trivial⟩, ⟨(hv0_P_Funcs.inn c13).cell c25 (h.dn 4) 0 rfl, (hv0_P_Funcs.inn c13).cell c25 (h.dn 4) 1 rfl, (hv0_P_Funcs.inn c13).cell c25 (h.dn 4) 2 rfl, (hv0_P_Funcs.inn c13).cell c25 (h.dn 4) 3 rfl, (hv0_P_Funcs.inn c13).cell c25 (h.dn 4) 4 rfl, trivial⟩, ⟨(h.pick 3).cell 3 rfl, trivial⟩, ⟨(hv1_P_Funcs.inn c15).cell c26 (h.dn 4) 0 rfl, (hv1_P_Funcs.inn c15).cell c26 (h.dn 4) 1 rfl, (hv1_P_Funcs.inn c15).cell c26 (h.dn 4) 2 rfl, (hv1_P_Funcs.inn c15).cell c26 (h.dn 4) 3 rfl, (hv1_P_Funcs.inn c15).cell c26 (h.dn 4) 4 rfl, trivial⟩, trivial⟩) fun w h hd => ?_
       refine evs' hd 7 [(0, 83, pA b14 3), (2, 85, vI g23), (5, 88, pA b16 3), (7, 90, vI g23)] hr fun a hr => ?_
       refine elx hd 0 6 1 hr (wn rfl) rfl rfl fun a hr => ?_
       refine eon hd 5 3 rfl (wn rfl) hr (pA (blk ((hs0_P_Funcs g9.toNat).1)) (offs ((hs0_P_Funcs g9.toNat).1) + g23.toNat * 5)) (hrun := fun w => ri_rd (k := .i64) (E := 108) (cc := ((hs0_P_Funcs g9.toNat).2)) rfl (by kernel_rfl) (by kernel_rfl) rfl (by kernel_rfl) (by kernel_rfl) (hv0_P_Funcs.inn c13) c25) fun a hr => ?_
       refine elm hd 1 4 4 hr (wn rfl) rfl rfl fun a hr => ?_
       refine elx hd 2 3 6 hr (wn rfl) rfl rfl fun a hr => ?_
       refine eon hd 2 8 rfl (wn rfl) hr (pA (blk ((hs1_P_Funcs g9.toNat).1)) (offs ((hs1_P_Funcs g9.toNat).1) + g23.toNat * 5)) (hrun := fun w => ri_rd (k := .i64) (E := 108) (cc := ((hs1_P_Funcs g9.toNat).2)) rfl (by kernel_rfl) (by kernel_rfl) rfl (by kernel_rfl) (by kernel_rfl) (hv1_P_Funcs.inn c15) c26) fun a hr => ?_
       refine elm hd 3 1 9 hr (wn rfl) rfl rfl fun a hr => ?_
       refine eon hd 0 10 rfl (wn rfl) hr (vB (!(decide (at_ (at_ p0.P_Funcs g9.toNat).Code g23.toNat = at_ (at_ p1.P_Funcs g9.toNat).Code g23.toNat)))) (hrun := fun w => rb (rne rfl (by kernel_rfl) (by kernel_rfl) (by kernel_rfl) (by kernel_rfl) (by kernel_rfl) (by kernel_rfl)) (congrArg (!·) (eq_T_api_Instr (at_ (at_ p0.P_Funcs g9.toNat).Code g23.toNat) (at_ (at_ p1.P_Funcs g9.toNat).Code g23.toNat)))) fun a hr => ?_
       refine een ?_
       refine then_normal ?_
       refine cN hr H (fun c27 H => ?_) fun c27 H => ?_
       ·
        refine wp_skip ?_
        refine blk_normal ?_
        refine then_normal ?_
        refine wp_region_lit ?_
        refine oo [81, 82, 8] [vI g23, vI (wi (g23 + 1)), vI (wi (g23 + 1))] hr fun a hr => ?_
        refine ln ?_
        exact ⟨_, ⟨(wi (g23 + 1)), H, hr.fj h⟩, Nat.lt_succ_self _⟩
       ·
        refine sr ?_
        refine o1 hr (vB false) fun a hr => ?_
        refine ln ?_
        refine wp_ret ?_
        refine blk_ret ?_
        refine then_ret ?_
        refine then_ret ?_
        refine blk_ret ?_
        refine blk_ret ?_
        refine then_ret ?_
        refine then_ret ?_
        refine blk_ret ?_
        refine then_ret ?_
        refine end_ret1 (v := vB false) rfl hr (by kernel_rfl) ?_
        replace H := jx0 H hK11
        replace H := jx0 H hK7
        replace H := ej1 H; subst H
        exact ⟨rfl, h.se 4 []⟩
      ·
       refine wp_exit ?_
       refine then_exit ?_
       refine then_exit ?_
       refine blk_here ?_
       refine blk_normal ?_
       refine then_normal ?_
       exact ⟨(), sinj H, hr.fj (h.se 4 [0, 1])⟩
    clear h hr a; rintro _ a w ⟨rfl, j, hr, h⟩
    replace H := jk0 hK11
    refine wp_region_lit ?_
    refine oo [34, 35, 5] [vI g9, vI (wi (g9 + 1)), vI (wi (g9 + 1))] hr fun a hr => ?_
    refine ln ?_
    exact ⟨_, ⟨(wi (g9 + 1)), H, hr.fj h⟩, Nat.lt_succ_self _⟩
   ·
    refine wp_exit ?_
    refine then_exit ?_
    refine then_exit ?_
    refine blk_here ?_
    refine then_normal ?_
    exact ⟨(), sinj H, hr.fj h⟩
 clear h hr a; rintro _ a w ⟨rfl, j, hr, h⟩
 replace H := jk0 hK7
 obtain ⟨o29, H, hK28⟩ := jd0 H
 refine cut_rule (β := Unit) (fun _ a w => .inl () = o29 ∧ ∃ j, Rep 128 (lk [(2, pA b1 0), (3, pA b2 0)] j) a ∧ Fit z (sepL (ob32 b1 p0 va0_P_Funcs vc0_P_Funcs va0_Args vc0_Args va0_S_Picks vc0_S_Picks va0_S_Draws vc0_S_Draws :: ob32 b2 p1 va1_P_Funcs vc1_P_Funcs va1_Args vc1_Args va1_S_Picks vc1_S_Picks va1_S_Draws vc1_S_Draws :: L)) w) ?_ ?_
 ·
  refine sr ?_
  refine o1 hr (vI 0) fun a hr => ?_
  refine ln ?_
  refine wp_block ?_
  refine loop_rule (β := Nat) id (fun m a w => ∃ g30 : Int, (plunderlaw11_unchanged_l3 K p0 p1 m g30) = some o29 ∧ ∃ j, Rep 128 (lk [(2, pA b1 0), (3, pA b2 0), (9, vI g30)] j) a ∧ Fit z (sepL (ob32 b1 p0 va0_P_Funcs vc0_P_Funcs va0_Args vc0_Args va0_S_Picks vc0_S_Picks va0_S_Draws vc0_S_Draws :: ob32 b2 p1 va1_P_Funcs vc1_P_Funcs va1_Args vc1_Args va1_S_Picks vc1_S_Picks va1_S_Draws vc1_S_Draws :: L)) w) K ⟨0, H, hr.fj h⟩ ?_
  clear h hr a H; rintro k3 a w ⟨g30, H, j, hr, h⟩
  cases k3 with
  | zero => exact absurd H (by simp [plunderlaw11_unchanged_l3])
  | succ k3 =>
   rw [plunderlaw11_unchanged_l3] at H
   refine wp_seq ?_
   refine sr ?_
   refine oo [94, 95] [vI g30, pA b1 1] hr fun a hr => ?_
   refine ld (wn rfl) hr (.slice va0_Args p0.Args.length vc0_Args) (h.cell 1 rfl) fun a hr => ?_
   refine oo [97, 98] [vI ((p0.Args.length : Nat) : Int), vB (decide (g30 < ((p0.Args.length : Nat) : Int)))] hr fun a hr => ?_
   refine ln ?_
   refine cD hr H (fun c31 H => ?_) fun c31 H => ?_
   ·
    refine wp_skip ?_
    refine then_normal ?_
    refine wp_seq ?_
    refine wp_block ?_
    refine wp_seq ?_
    obtain ⟨c32, H⟩ := gd H
    obtain ⟨c33, H⟩ := gd H
    refine regL [(b1, 1, [.slice va0_Args p0.Args.length vc0_Args]), (blk va0_Args, offs va0_Args + g30.toNat * 1, [vI (at_ p0.Args g30.toNat)]), (b2, 1, [.slice va1_Args p1.Args.length vc1_Args]), (blk va1_Args, offs va1_Args + g30.toNat * 1, [vI (at_ p1.Args g30.toNat)])] [0, 3, 5, 8] 11 h (fun h => ⟨⟨h.cell 1 rfl, trivial⟩, ⟨hv0_Args.cell c32 (h.dn 2) 0 rfl, trivial⟩, ⟨(h.pick 1).cell 1 rfl, trivial⟩, ⟨hv1_Args.cell c33 (h.dn 2) 0 rfl, trivial⟩, trivial⟩) fun w h hd => ?_
    refine evs' hd 7 [(0, 101, pA b1 1), (2, 103, vI g30), (5, 106, pA b2 1), (7, 108, vI g30)] hr fun a hr => ?_
    refine elx hd 0 6 1 hr (wn rfl) rfl rfl fun a hr => ?_
    refine eon hd 5 3 rfl (wn rfl) hr (pA (blk va0_Args) (offs va0_Args + g30.toNat * 1)) (hrun := fun w => ri_rd (k := .i64) (E := 2) (cc := vc0_Args) rfl (by kernel_rfl) (by kernel_rfl) rfl (by kernel_rfl) (by kernel_rfl) hv0_Args c32) fun a hr => ?_
    refine elx hd 1 4 4 hr (wn rfl) rfl rfl fun a hr => ?_
    refine elx hd 2 3 6 hr (wn rfl) rfl rfl fun a hr => ?_
    refine eon hd 2 8 rfl (wn rfl) hr (pA (blk va1_Args) (offs va1_Args + g30.toNat * 1)) (hrun := fun w => ri_rd (k := .i64) (E := 2) (cc := vc1_Args) rfl (by kernel_rfl) (by kernel_rfl) rfl (by kernel_rfl) (by kernel_rfl) hv1_Args c33) fun a hr => ?_
    refine elx hd 3 1 9 hr (wn rfl) rfl rfl fun a hr => ?_
    refine evs' hd 0 [(10, 111, vB ((at_ p0.Args g30.toNat) != (at_ p1.Args g30.toNat)))] hr fun a hr => ?_
    refine een ?_
    refine then_normal ?_
    refine cN hr H (fun c34 H => ?_) fun c34 H => ?_
    ·
     refine wp_skip ?_
     refine blk_normal ?_
     refine then_normal ?_
     refine wp_region_lit ?_
     refine oo [99, 100, 9] [vI g30, vI (wi (g30 + 1)), vI (wi (g30 + 1))] hr fun a hr => ?_
     refine ln ?_
     exact ⟨_, ⟨(wi (g30 + 1)), H, hr.fj h⟩, Nat.lt_succ_self _⟩
    ·
     refine sr ?_
     refine o1 hr (vB false) fun a hr => ?_
     refine ln ?_
     refine wp_ret ?_
     refine blk_ret ?_
     refine then_ret ?_
     refine then_ret ?_
     refine blk_ret ?_
     refine then_ret ?_
     refine end_ret1 (v := vB false) rfl hr (by kernel_rfl) ?_
     replace H := jx0 H hK28
     replace H := ej1 H; subst H
     exact ⟨rfl, h.se 2 []⟩
   ·
    refine wp_exit ?_
    refine then_exit ?_
    refine then_exit ?_
    refine blk_here ?_
    refine then_normal ?_
    exact ⟨(), sinj H, hr.fj h⟩
 clear h hr a; rintro _ a w ⟨rfl, j, hr, h⟩
 replace H := jk0 hK28
 refine sr ?_
 refine oo [112, 113] [pA b1 6, pA b1 6] hr fun a hr => ?_
 refine ld (wn rfl) hr (.slice va0_S_Picks p0.S_Picks.length vc0_S_Picks) (h.cell 6 rfl) fun a hr => ?_
 refine oo [115, 116] [pA b2 6, pA b2 6] hr fun a hr => ?_
 refine ld (wn rfl) hr (.slice va1_S_Picks p1.S_Picks.length vc1_S_Picks) ((h.pick 1).cell 6 rfl) fun a hr => ?_
 obtain ⟨r35, e36, H⟩ := bd1 H
 have hc := plunderlaw11_sameInts_ok (va0 := va0_S_Picks) (vc0 := vc0_S_Picks) (va1 := va1_S_Picks) (vc1 := vc1_S_Picks) (hv0 := (RdRow.up 2 hv0_S_Picks)) (hv1 := (RdRow.up 2 hv1_S_Picks)) (H := e36) (h := h)
 refine cl (wn rfl) hr hc ?_; clear hc h
 rintro _ w ⟨rfl, h⟩; refine ⟨_, rfl, fun a hr => ?_⟩
 refine o1 hr (vB r35) fun a hr => ?_
 by_cases c37 : r35 = true
 ·
  replace H := ifT c37 H
  refine onl (c37) [120, 121] [pA b1 6, pA b1 7] hr fun a hr => ?_
  refine ld (wgt hr (c37)) hr (.slice va0_S_Draws p0.S_Draws.length vc0_S_Draws) (h.cell 7 rfl) fun a hr => ?_
  refine onl (c37) [123, 124] [pA b2 6, pA b2 7] hr fun a hr => ?_
  refine ld (wgt hr (c37)) hr (.slice va1_S_Draws p1.S_Draws.length vc1_S_Draws) ((h.pick 1).cell 7 rfl) fun a hr => ?_
  obtain ⟨r38, e39, H⟩ := bd1 H
  have hc := plunderlaw11_sameInts_ok (va0 := va0_S_Draws) (vc0 := vc0_S_Draws) (va1 := va1_S_Draws) (vc1 := vc1_S_Draws) (hv0 := (RdRow.up 2 hv0_S_Draws)) (hv1 := (RdRow.up 2 hv1_S_Draws)) (H := e39) (h := h)
  refine cl (wgt hr (c37)) hr hc ?_; clear hc h
  rintro _ w ⟨rfl, h⟩; refine ⟨_, rfl, fun a hr => ?_⟩
  refine opv (wn rfl) hr (vB r38) (rp_t (b := r35) rfl (by kernel_rfl) (c37) (by kernel_rfl)) fun a hr => ?_
  refine o1 hr (vB r38) fun a hr => ?_
  refine ln ?_
  refine wp_ret ?_
  refine end_ret1 (v := vB r38) rfl hr (by kernel_rfl) ?_
  replace H := ej1 H; subst H
  exact ⟨rfl, h.se 2 []⟩
 ·
  replace H := ifF c37 H
  refine offl (bF c37) [120, 121, 122, 123, 124, 125, 126] hr fun a hr => ?_
  refine opv (wn rfl) hr (vB false) (rp_f (b := r35) rfl (by kernel_rfl) (bF c37) (by kernel_rfl)) fun a hr => ?_
  refine o1 hr (vB false) fun a hr => ?_
  refine ln ?_
  refine wp_ret ?_
  refine end_ret1 (v := vB false) rfl hr (by kernel_rfl) ?_
  replace H := ej1 H; subst H
  exact ⟨rfl, h.se 2 []⟩

def plunderlaw11_laid_l1 (K : Nat) (p2 : T_api_Limits) : Nat → (List T_api_Access) → Int → Option ((List T_api_Access))
  | 0, _, _ => none
  | k1 + 1, l17, g18 => (if g18 < p2.Frames then if (l17.length + 1) * 48 ≤ 140737488355328 then (plunderlaw11_laid_l1 K p2 k1 (l17 ++ [(⟨0, 1, wi ((2 : Int) + (wi ((10 : Int) * g18))), 1, 0, true⟩ : T_api_Access)]) (wi (g18 + 1))) else none else some l17)
def plunderlaw11_laid_l2 (K : Nat) (p1 : Int) (p2 : T_api_Limits) : Nat → (List T_api_Access) → Int → Int → Option ((List T_api_Access))
  | 0, _, _, _ => none
  | k2 + 1, l35, g36, g37 => (if g37 < p1 then if (l35.length + 1) * 48 ≤ 140737488355328 then if ((l35 ++ [(⟨0, 4, g36, wi ((4 : Int) + p2.First), 0, true⟩ : T_api_Access)]).length + 1) * 48 ≤ 140737488355328 then if (((l35 ++ [(⟨0, 4, g36, wi ((4 : Int) + p2.First), 0, true⟩ : T_api_Access)]) ++ [(⟨0, 1, wi (g36 + 2), wi (g36 + 3), 0, true⟩ : T_api_Access)]).length + 1) * 48 ≤ 140737488355328 then (plunderlaw11_laid_l2 K p1 p2 k2 (((l35 ++ [(⟨0, 4, g36, wi ((4 : Int) + p2.First), 0, true⟩ : T_api_Access)]) ++ [(⟨0, 1, wi (g36 + 2), wi (g36 + 3), 0, true⟩ : T_api_Access)]) ++ [(⟨0, 1, wi (g36 + 3), p2.First, 0, true⟩ : T_api_Access)]) (wi ((wi (g36 + 4)) + p2.First)) (wi (g37 + 1))) else none else none else none else some l35)
def plunderlaw11_laid_l3 (K : Nat) (p0 : Int) (l30 : List T_api_Access) : Nat → Int → Option ((List T_api_Access))
  | 0, _ => none
  | k3 + 1, g55 => (if g55 < (((l30 ++ [(⟨0, 3, 1, 1, 1, true⟩ : T_api_Access)]).length : Nat) : Int) then if inr_ g55 (l30 ++ [(⟨0, 3, 1, 1, 1, true⟩ : T_api_Access)]).length then (if (at_ (l30 ++ [(⟨0, 3, 1, 1, 1, true⟩ : T_api_Access)]) g55.toNat).Kind = 4 then (if (wi ((at_ (l30 ++ [(⟨0, 3, 1, 1, 1, true⟩ : T_api_Access)]) g55.toNat).Addr + (at_ (l30 ++ [(⟨0, 3, 1, 1, 1, true⟩ : T_api_Access)]) g55.toNat).A)) > p0 then if 0 ≤ g55 ∧ g55 ≤ (((l30 ++ [(⟨0, 3, 1, 1, 1, true⟩ : T_api_Access)]).length : Nat) : Int) then some ((l30 ++ [(⟨0, 3, 1, 1, 1, true⟩ : T_api_Access)]).take g55.toNat) else none else (plunderlaw11_laid_l3 K p0 l30 k3 (wi (g55 + 1)))) else (plunderlaw11_laid_l3 K p0 l30 k3 (wi (g55 + 1)))) else none else some (l30 ++ [(⟨0, 3, 1, 1, 1, true⟩ : T_api_Access)]))
/-- plunder/plunderlaw11.laid -/
def plunderlaw11_laid (K : Nat) (p0 : Int) (p1 : Int) (p2 : T_api_Limits) : Option ((List T_api_Access)) :=
  if (([] : List T_api_Access).length + 1) * 48 ≤ 140737488355328 then if ((([] : List T_api_Access) ++ [(⟨0, 4, 0, 1, 0, true⟩ : T_api_Access)]).length + 1) * 48 ≤ 140737488355328 then ob1 ((plunderlaw11_laid_l1 K p2 K ((([] : List T_api_Access) ++ [(⟨0, 4, 0, 1, 0, true⟩ : T_api_Access)]) ++ [(⟨0, 4, 1, wi ((1 : Int) + (wi ((10 : Int) * p2.Frames))), 0, true⟩ : T_api_Access)]) 0)) (fun l12 => if (l12.length + 1) * 48 ≤ 140737488355328 then ob1 ((plunderlaw11_laid_l2 K p1 p2 K (l12 ++ [(⟨0, 4, wi ((2 : Int) + (wi ((10 : Int) * p2.Frames))), wi ((2 : Int) + p1), 0, true⟩ : T_api_Access)]) (wi ((wi ((wi ((2 : Int) + (wi ((10 : Int) * p2.Frames)))) + 2)) + p1)) 0)) (fun l30 => if (l30.length + 1) * 48 ≤ 140737488355328 then (plunderlaw11_laid_l3 K p0 l30 K 0) else none) else none) else none else none

theorem plunderlaw11_laid_ok {z w : World} {L : List HProp} {K : Nat} {p0 p1 : Int} {p2 : T_api_Limits} {r0 : List T_api_Access} (H : plunderlaw11_laid K p0 p1 p2 = some r0) (h : Fit z (sepL (L)) w)  :
    Calls Tryd.prog 13 #[vI p0, vI p1, ag_T_api_Limits p2] w fun e w => ∃ car0_1 ccr0_2, e = .returned (.slice car0_1 r0.length ccr0_2) ∧ Fit z (sepL (ro111 car0_1 ccr0_2 r0 :: L)) w := by
 unfold plunderlaw11_laid at H
 refine enter Tryd.func13 rfl 121 rfl rfl [(0, vI p0), (1, vI p1), (2, ag_T_api_Limits p2)] ⟨rfl, rfl, rfl, trivial⟩ ?_
 intro j a hr
 refine sr ?_
 refine onew (wn rfl) hr h nb (ca_T_api_Limits p2) 27 fun b1 w a h hr => ?_
 refine o1 hr (.slice none 0 0) fun a hr => ?_
 refine ln ?_
 refine sr ?_
 refine o1 hr (.slice none 0 0) fun a hr => ?_
 refine ln ?_
 refine sr ?_
 refine oo [12, 13] [.slice none 0 0, .agg #[vI 0, vI 4, vI 0, vI 1, vI 0, vB true]] hr fun a hr => ?_
 refine onew (wn rfl) hr h (fun b => .slice (some ⟨b, 0, none⟩) 1 1) (#[vI 0, vI 4, vI 0, vI 1, vI 0, vB true]) 111 fun b2 w a h hr => ?_
 replace h := h.row_nil (e := 111) (sz := 6) (enc := enc_T_api_Access)
 obtain ⟨c5, H⟩ := gd H
 refine op_append (n0 := 0) (c := 1) (bytes := 48) (wn rfl) rfl rfl hr rfl (by kernel_rfl) (by kernel_rfl) enc_T_api_Access_ok (E := 111) (xs := ([] : List T_api_Access)) (by kernel_rfl) (by kernel_rfl) h (news := [(⟨0, 4, 0, 1, 0, true⟩ : T_api_Access)]) (m := 1) rfl ((h.pick 1).news rfl) c5 rfl fun ca3 cc4 w a h hr => ?_
 refine o1 hr (.slice ca3 (([] : List T_api_Access) ++ [(⟨0, 4, 0, 1, 0, true⟩ : T_api_Access)]).length cc4) fun a hr => ?_
 refine ln ?_
 refine sr ?_
 refine oo [16, 17] [.slice ca3 (([] : List T_api_Access) ++ [(⟨0, 4, 0, 1, 0, true⟩ : T_api_Access)]).length cc4, pA b1 0] hr fun a hr => ?_
 refine ld (wn rfl) hr (vI p2.Frames) ((h.pick 2).cell 0 rfl) fun a hr => ?_
 refine oo [19, 20, 21] [vI (wi ((10 : Int) * p2.Frames)), vI (wi ((1 : Int) + (wi ((10 : Int) * p2.Frames)))), .agg #[vI 0, vI 4, vI 1, vI (wi ((1 : Int) + (wi ((10 : Int) * p2.Frames)))), vI 0, vB true]] hr fun a hr => ?_
 refine onew (wn rfl) hr h (fun b => .slice (some ⟨b, 0, none⟩) 1 1) (#[vI 0, vI 4, vI 1, vI (wi ((1 : Int) + (wi ((10 : Int) * p2.Frames)))), vI 0, vB true]) 111 fun b6 w a h hr => ?_
 replace h := h.m1
 obtain ⟨c9, H⟩ := gd H
 refine op_append (n0 := (([] : List T_api_Access) ++ [(⟨0, 4, 0, 1, 0, true⟩ : T_api_Access)]).length) (c := 1) (bytes := 48) (wn rfl) rfl rfl hr rfl (by kernel_rfl) (by kernel_rfl) enc_T_api_Access_ok (E := 111) (xs := (([] : List T_api_Access) ++ [(⟨0, 4, 0, 1, 0, true⟩ : T_api_Access)])) (by kernel_rfl) (by kernel_rfl) h (news := [(⟨0, 4, 1, wi ((1 : Int) + (wi ((10 : Int) * p2.Frames))), 0, true⟩ : T_api_Access)]) (m := 1) rfl ((h.pick 1).news rfl) c9 rfl fun ca7 cc8 w a h hr => ?_
 refine o1 hr (.slice ca7 ((([] : List T_api_Access) ++ [(⟨0, 4, 0, 1, 0, true⟩ : T_api_Access)]) ++ [(⟨0, 4, 1, wi ((1 : Int) + (wi ((10 : Int) * p2.Frames))), 0, true⟩ : T_api_Access)]).length cc8) fun a hr => ?_
 refine ln ?_
 obtain ⟨o14, H, hK13⟩ := kd1 H
 refine cut_rule (β := Unit) (fun _ a w => ∃ ca10 : Option Addr, ∃ cc11 : Nat, ∃ l12 : List T_api_Access, l12 = o14 ∧ ∃ j, Rep 121 (lk [(0, vI p0), (1, vI p1), (5, pA b1 0), (7, .slice ca10 l12.length cc11)] j) a ∧ Fit z (sepL (ob27 b1 p2 :: ro111 ca10 cc11 l12 :: L)) w) ?_ ?_
 ·
  refine sr ?_
  refine o1 hr (vI 0) fun a hr => ?_
  refine ln ?_
  refine wp_block ?_
  refine loop_rule (β := Nat) id (fun m a w => ∃ ca15 : Option Addr, ∃ cc16 : Nat, ∃ l17 : List T_api_Access, ∃ g18 : Int, (plunderlaw11_laid_l1 K p2 m l17 g18) = some o14 ∧ ∃ j, Rep 121 (lk [(0, vI p0), (1, vI p1), (5, pA b1 0), (7, .slice ca15 l17.length cc16), (8, vI g18)] j) a ∧ Fit z (sepL (ob27 b1 p2 :: ro111 ca15 cc16 l17 :: L)) w) K ⟨ca7, cc8, ((([] : List T_api_Access) ++ [(⟨0, 4, 0, 1, 0, true⟩ : T_api_Access)]) ++ [(⟨0, 4, 1, wi ((1 : Int) + (wi ((10 : Int) * p2.Frames))), 0, true⟩ : T_api_Access)]), 0, H, hr.fj (h.se 4 [3, 0])⟩ ?_
  clear h hr a H; rintro k1 a w ⟨ca15, cc16, l17, g18, H, j, hr, h⟩
  cases k1 with
  | zero => exact absurd H (by simp [plunderlaw11_laid_l1])
  | succ k1 =>
   rw [plunderlaw11_laid_l1] at H
   refine wp_seq ?_
   refine sr ?_
   refine oo [24, 25] [vI g18, pA b1 0] hr fun a hr => ?_
   refine ld (wn rfl) hr (vI p2.Frames) (h.cell 0 rfl) fun a hr => ?_
   refine o1 hr (vB (decide (g18 < p2.Frames))) fun a hr => ?_
   refine ln ?_
   refine cD hr H (fun c19 H => ?_) fun c19 H => ?_
   ·
    refine wp_skip ?_
    refine then_normal ?_
    refine wp_seq ?_
    refine wp_block ?_
    refine wp_region_lit ?_
    refine oo [30, 31, 32, 33, 34] [.slice ca15 l17.length cc16, vI g18, vI (wi ((10 : Int) * g18)), vI (wi ((2 : Int) + (wi ((10 : Int) * g18)))), .agg #[vI 0, vI 1, vI (wi ((2 : Int) + (wi ((10 : Int) * g18)))), vI 1, vI 0, vB true]] hr fun a hr => ?_
    refine onew (wn rfl) hr h (fun b => .slice (some ⟨b, 0, none⟩) 1 1) (#[vI 0, vI 1, vI (wi ((2 : Int) + (wi ((10 : Int) * g18)))), vI 1, vI 0, vB true]) 111 fun b20 w a h hr => ?_
    replace h := h.m2
    obtain ⟨c23, H⟩ := gd H
    refine op_append (n0 := l17.length) (c := 1) (bytes := 48) (wn rfl) rfl rfl hr rfl (by kernel_rfl) (by kernel_rfl) enc_T_api_Access_ok (E := 111) (xs := l17) (by kernel_rfl) (by kernel_rfl) h (news := [(⟨0, 1, wi ((2 : Int) + (wi ((10 : Int) * g18))), 1, 0, true⟩ : T_api_Access)]) (m := 1) rfl ((h.pick 1).news rfl) c23 rfl fun ca21 cc22 w a h hr => ?_
    refine o1 hr (.slice ca21 (l17 ++ [(⟨0, 1, wi ((2 : Int) + (wi ((10 : Int) * g18))), 1, 0, true⟩ : T_api_Access)]).length cc22) fun a hr => ?_
    refine wpList_nil ?_
    refine blk_normal ?_
    refine then_normal ?_
    refine wp_region_lit ?_
    refine oo [28, 29, 8] [vI g18, vI (wi (g18 + 1)), vI (wi (g18 + 1))] hr fun a hr => ?_
    refine ln ?_
    exact ⟨_, ⟨ca21, cc22, (l17 ++ [(⟨0, 1, wi ((2 : Int) + (wi ((10 : Int) * g18))), 1, 0, true⟩ : T_api_Access)]), (wi (g18 + 1)), H, hr.fj (h.se 3 [2, 0])⟩, Nat.lt_succ_self _⟩
   ·
    refine wp_exit ?_
    refine then_exit ?_
    refine then_exit ?_
    refine blk_here ?_
    refine then_normal ?_
    exact ⟨(), ca15, cc16, l17, sinj H, hr.fj h⟩
 clear h hr a; rintro _ a w ⟨ca10, cc11, l12, rfl, j, hr, h⟩
 replace H := kk1 hK13
 refine sr ?_
 refine o1 hr (pA b1 0) fun a hr => ?_
 refine ld (wn rfl) hr (vI p2.Frames) (h.cell 0 rfl) fun a hr => ?_
 refine oo [39, 40, 9] [vI (wi ((10 : Int) * p2.Frames)), vI (wi ((2 : Int) + (wi ((10 : Int) * p2.Frames)))), vI (wi ((2 : Int) + (wi ((10 : Int) * p2.Frames))))] hr fun a hr => ?_
 refine ln ?_
 refine sr ?_
 refine oo [41, 42, 43, 44, 45] [.slice ca10 l12.length cc11, vI (wi ((2 : Int) + (wi ((10 : Int) * p2.Frames)))), vI p1, vI (wi ((2 : Int) + p1)), .agg #[vI 0, vI 4, vI (wi ((2 : Int) + (wi ((10 : Int) * p2.Frames)))), vI (wi ((2 : Int) + p1)), vI 0, vB true]] hr fun a hr => ?_
 refine onew (wn rfl) hr h (fun b => .slice (some ⟨b, 0, none⟩) 1 1) (#[vI 0, vI 4, vI (wi ((2 : Int) + (wi ((10 : Int) * p2.Frames)))), vI (wi ((2 : Int) + p1)), vI 0, vB true]) 111 fun b24 w a h hr => ?_
 replace h := h.m2
 obtain ⟨c27, H⟩ := gd H
 refine op_append (n0 := l12.length) (c := 1) (bytes := 48) (wn rfl) rfl rfl hr rfl (by kernel_rfl) (by kernel_rfl) enc_T_api_Access_ok (E := 111) (xs := l12) (by kernel_rfl) (by kernel_rfl) h (news := [(⟨0, 4, wi ((2 : Int) + (wi ((10 : Int) * p2.Frames))), wi ((2 : Int) + p1), 0, true⟩ : T_api_Access)]) (m := 1) rfl ((h.pick 1).news rfl) c27 rfl fun ca25 cc26 w a h hr => ?_
 refine o1 hr (.slice ca25 (l12 ++ [(⟨0, 4, wi ((2 : Int) + (wi ((10 : Int) * p2.Frames))), wi ((2 : Int) + p1), 0, true⟩ : T_api_Access)]).length cc26) fun a hr => ?_
 refine ln ?_
 refine sr ?_
 refine oo [48, 49, 50, 51, 9] [vI (wi ((2 : Int) + (wi ((10 : Int) * p2.Frames)))), vI (wi ((wi ((2 : Int) + (wi ((10 : Int) * p2.Frames)))) + 2)), vI p1, vI (wi ((wi ((wi ((2 : Int) + (wi ((10 : Int) * p2.Frames)))) + 2)) + p1)), vI (wi ((wi ((wi ((2 : Int) + (wi ((10 : Int) * p2.Frames)))) + 2)) + p1))] hr fun a hr => ?_
 refine ln ?_
 obtain ⟨o32, H, hK31⟩ := kd1 H
 refine cut_rule (β := Unit) (fun _ a w => ∃ ca28 : Option Addr, ∃ cc29 : Nat, ∃ l30 : List T_api_Access, l30 = o32 ∧ ∃ j, Rep 121 (lk [(0, vI p0), (7, .slice ca28 l30.length cc29)] j) a ∧ Fit z (sepL (ro111 ca28 cc29 l30 :: L)) w) ?_ ?_
 ·
  refine sr ?_
  refine o1 hr (vI 0) fun a hr => ?_
  refine ln ?_
  refine wp_block ?_
  refine loop_rule (β := Nat) id (fun m a w => ∃ ca33 : Option Addr, ∃ cc34 : Nat, ∃ l35 : List T_api_Access, ∃ g36 : Int, ∃ g37 : Int, (plunderlaw11_laid_l2 K p1 p2 m l35 g36 g37) = some o32 ∧ ∃ j, Rep 121 (lk [(0, vI p0), (1, vI p1), (5, pA b1 0), (7, .slice ca33 l35.length cc34), (9, vI g36), (10, vI g37)] j) a ∧ Fit z (sepL (ob27 b1 p2 :: ro111 ca33 cc34 l35 :: L)) w) K ⟨ca25, cc26, (l12 ++ [(⟨0, 4, wi ((2 : Int) + (wi ((10 : Int) * p2.Frames))), wi ((2 : Int) + p1), 0, true⟩ : T_api_Access)]), (wi ((wi ((wi ((2 : Int) + (wi ((10 : Int) * p2.Frames)))) + 2)) + p1)), 0, H, hr.fj (h.se 3 [2, 0])⟩ ?_
  clear h hr a H; rintro k2 a w ⟨ca33, cc34, l35, g36, g37, H, j, hr, h⟩
  cases k2 with
  | zero => exact absurd H (by simp [plunderlaw11_laid_l2])
  | succ k2 =>
   rw [plunderlaw11_laid_l2] at H
   refine wp_seq ?_
   refine sr ?_
   refine oo [52, 53, 54] [vI g37, vI p1, vB (decide (g37 < p1))] hr fun a hr => ?_
   refine ln ?_
   refine cD hr H (fun c38 H => ?_) fun c38 H => ?_
   ·
    refine wp_skip ?_
    refine then_normal ?_
    refine wp_seq ?_
    refine wp_block ?_
    refine sr ?_
    refine oo [57, 58, 59] [.slice ca33 l35.length cc34, vI g36, pA b1 1] hr fun a hr => ?_
    refine ld (wn rfl) hr (vI p2.First) (h.cell 1 rfl) fun a hr => ?_
    refine oo [61, 62] [vI (wi ((4 : Int) + p2.First)), .agg #[vI 0, vI 4, vI g36, vI (wi ((4 : Int) + p2.First)), vI 0, vB true]] hr fun a hr => ?_
    refine onew (wn rfl) hr h (fun b => .slice (some ⟨b, 0, none⟩) 1 1) (#[vI 0, vI 4, vI g36, vI (wi ((4 : Int) + p2.First)), vI 0, vB true]) 111 fun b39 w a h hr => ?_
    replace h := h.m2
    obtain ⟨c42, H⟩ := gd H
    refine op_append (n0 := l35.length) (c := 1) (bytes := 48) (wn rfl) rfl rfl hr rfl (by kernel_rfl) (by kernel_rfl) enc_T_api_Access_ok (E := 111) (xs := l35) (by kernel_rfl) (by kernel_rfl) h (news := [(⟨0, 4, g36, wi ((4 : Int) + p2.First), 0, true⟩ : T_api_Access)]) (m := 1) rfl ((h.pick 1).news rfl) c42 rfl fun ca40 cc41 w a h hr => ?_
    refine o1 hr (.slice ca40 (l35 ++ [(⟨0, 4, g36, wi ((4 : Int) + p2.First), 0, true⟩ : T_api_Access)]).length cc41) fun a hr => ?_
    refine ln ?_
    refine sr ?_
    refine oo [65, 66, 67, 68, 69, 70] [.slice ca40 (l35 ++ [(⟨0, 4, g36, wi ((4 : Int) + p2.First), 0, true⟩ : T_api_Access)]).length cc41, vI g36, vI (wi (g36 + 2)), vI g36, vI (wi (g36 + 3)), .agg #[vI 0, vI 1, vI (wi (g36 + 2)), vI (wi (g36 + 3)), vI 0, vB true]] hr fun a hr => ?_
    refine onew (wn rfl) hr h (fun b => .slice (some ⟨b, 0, none⟩) 1 1) (#[vI 0, vI 1, vI (wi (g36 + 2)), vI (wi (g36 + 3)), vI 0, vB true]) 111 fun b43 w a h hr => ?_
    replace h := h.m1
    obtain ⟨c46, H⟩ := gd H
    refine op_append (n0 := (l35 ++ [(⟨0, 4, g36, wi ((4 : Int) + p2.First), 0, true⟩ : T_api_Access)]).length) (c := 1) (bytes := 48) (wn rfl) rfl rfl hr rfl (by kernel_rfl) (by kernel_rfl) enc_T_api_Access_ok (E := 111) (xs := (l35 ++ [(⟨0, 4, g36, wi ((4 : Int) + p2.First), 0, true⟩ : T_api_Access)])) (by kernel_rfl) (by kernel_rfl) h (news := [(⟨0, 1, wi (g36 + 2), wi (g36 + 3), 0, true⟩ : T_api_Access)]) (m := 1) rfl ((h.pick 1).news rfl) c46 rfl fun ca44 cc45 w a h hr => ?_
    refine o1 hr (.slice ca44 ((l35 ++ [(⟨0, 4, g36, wi ((4 : Int) + p2.First), 0, true⟩ : T_api_Access)]) ++ [(⟨0, 1, wi (g36 + 2), wi (g36 + 3), 0, true⟩ : T_api_Access)]).length cc45) fun a hr => ?_
    refine ln ?_
    refine sr ?_
    refine oo [73, 74, 75, 76] [.slice ca44 ((l35 ++ [(⟨0, 4, g36, wi ((4 : Int) + p2.First), 0, true⟩ : T_api_Access)]) ++ [(⟨0, 1, wi (g36 + 2), wi (g36 + 3), 0, true⟩ : T_api_Access)]).length cc45, vI g36, vI (wi (g36 + 3)), pA b1 1] hr fun a hr => ?_
    refine ld (wn rfl) hr (vI p2.First) ((h.pick 3).cell 1 rfl) fun a hr => ?_
    refine o1 hr (.agg #[vI 0, vI 1, vI (wi (g36 + 3)), vI p2.First, vI 0, vB true]) fun a hr => ?_
    refine onew (wn rfl) hr h (fun b => .slice (some ⟨b, 0, none⟩) 1 1) (#[vI 0, vI 1, vI (wi (g36 + 3)), vI p2.First, vI 0, vB true]) 111 fun b47 w a h hr => ?_
    replace h := h.m1
    obtain ⟨c50, H⟩ := gd H
    refine op_append (n0 := ((l35 ++ [(⟨0, 4, g36, wi ((4 : Int) + p2.First), 0, true⟩ : T_api_Access)]) ++ [(⟨0, 1, wi (g36 + 2), wi (g36 + 3), 0, true⟩ : T_api_Access)]).length) (c := 1) (bytes := 48) (wn rfl) rfl rfl hr rfl (by kernel_rfl) (by kernel_rfl) enc_T_api_Access_ok (E := 111) (xs := ((l35 ++ [(⟨0, 4, g36, wi ((4 : Int) + p2.First), 0, true⟩ : T_api_Access)]) ++ [(⟨0, 1, wi (g36 + 2), wi (g36 + 3), 0, true⟩ : T_api_Access)])) (by kernel_rfl) (by kernel_rfl) h (news := [(⟨0, 1, wi (g36 + 3), p2.First, 0, true⟩ : T_api_Access)]) (m := 1) rfl ((h.pick 1).news rfl) c50 rfl fun ca48 cc49 w a h hr => ?_
    refine o1 hr (.slice ca48 (((l35 ++ [(⟨0, 4, g36, wi ((4 : Int) + p2.First), 0, true⟩ : T_api_Access)]) ++ [(⟨0, 1, wi (g36 + 2), wi (g36 + 3), 0, true⟩ : T_api_Access)]) ++ [(⟨0, 1, wi (g36 + 3), p2.First, 0, true⟩ : T_api_Access)]).length cc49) fun a hr => ?_
    refine ln ?_
    refine wp_region_lit ?_
    refine oo [81, 82, 83] [vI g36, vI (wi (g36 + 4)), pA b1 1] hr fun a hr => ?_
    refine ld (wn rfl) hr (vI p2.First) ((h.pick 4).cell 1 rfl) fun a hr => ?_
    refine oo [85, 9] [vI (wi ((wi (g36 + 4)) + p2.First)), vI (wi ((wi (g36 + 4)) + p2.First))] hr fun a hr => ?_
    refine wpList_nil ?_
    refine blk_normal ?_
    refine then_normal ?_
    refine wp_region_lit ?_
    refine oo [55, 56, 10] [vI g37, vI (wi (g37 + 1)), vI (wi (g37 + 1))] hr fun a hr => ?_
    refine ln ?_
    exact ⟨_, ⟨ca48, cc49, (((l35 ++ [(⟨0, 4, g36, wi ((4 : Int) + p2.First), 0, true⟩ : T_api_Access)]) ++ [(⟨0, 1, wi (g36 + 2), wi (g36 + 3), 0, true⟩ : T_api_Access)]) ++ [(⟨0, 1, wi (g36 + 3), p2.First, 0, true⟩ : T_api_Access)]), (wi ((wi (g36 + 4)) + p2.First)), (wi (g37 + 1)), H, hr.fj (h.se 5 [4, 0])⟩, Nat.lt_succ_self _⟩
   ·
    refine wp_exit ?_
    refine then_exit ?_
    refine then_exit ?_
    refine blk_here ?_
    refine then_normal ?_
    exact ⟨(), ca33, cc34, l35, sinj H, hr.fj (h.se 2 [1])⟩
 clear h hr a; rintro _ a w ⟨ca28, cc29, l30, rfl, j, hr, h⟩
 replace H := kk1 hK31
 refine sr ?_
 refine oo [86, 87] [.slice ca28 l30.length cc29, .agg #[vI 0, vI 3, vI 1, vI 1, vI 1, vB true]] hr fun a hr => ?_
 refine onew (wn rfl) hr h (fun b => .slice (some ⟨b, 0, none⟩) 1 1) (#[vI 0, vI 3, vI 1, vI 1, vI 1, vB true]) 111 fun b51 w a h hr => ?_
 replace h := h.m1
 obtain ⟨c54, H⟩ := gd H
 refine op_append (n0 := l30.length) (c := 1) (bytes := 48) (wn rfl) rfl rfl hr rfl (by kernel_rfl) (by kernel_rfl) enc_T_api_Access_ok (E := 111) (xs := l30) (by kernel_rfl) (by kernel_rfl) h (news := [(⟨0, 3, 1, 1, 1, true⟩ : T_api_Access)]) (m := 1) rfl ((h.pick 1).news rfl) c54 rfl fun ca52 cc53 w a h hr => ?_
 refine o1 hr (.slice ca52 (l30 ++ [(⟨0, 3, 1, 1, 1, true⟩ : T_api_Access)]).length cc53) fun a hr => ?_
 refine ln ?_
 refine wp_seq ?_
 refine sr ?_
 refine o1 hr (vI 0) fun a hr => ?_
 refine ln ?_
 refine wp_block ?_
 refine loop_rule (β := Nat) id (fun m a w => ∃ g55 : Int, (plunderlaw11_laid_l3 K p0 l30 m g55) = some r0 ∧ ∃ j, Rep 121 (lk [(0, vI p0), (7, .slice ca52 (l30 ++ [(⟨0, 3, 1, 1, 1, true⟩ : T_api_Access)]).length cc53), (11, vI g55)] j) a ∧ Fit z (sepL (ro111 ca52 cc53 (l30 ++ [(⟨0, 3, 1, 1, 1, true⟩ : T_api_Access)]) :: L)) w) K ⟨0, H, hr.fj (h.se 2 [0])⟩ ?_
 clear h hr a H; rintro k3 a w ⟨g55, H, j, hr, h⟩
 cases k3 with
 | zero => exact absurd H (by simp [plunderlaw11_laid_l3])
 | succ k3 =>
  rw [plunderlaw11_laid_l3] at H
  refine wp_seq ?_
  refine sr ?_
  refine oo [90, 91, 92, 93] [vI g55, .slice ca52 (l30 ++ [(⟨0, 3, 1, 1, 1, true⟩ : T_api_Access)]).length cc53, vI (((l30 ++ [(⟨0, 3, 1, 1, 1, true⟩ : T_api_Access)]).length : Nat) : Int), vB (decide (g55 < (((l30 ++ [(⟨0, 3, 1, 1, 1, true⟩ : T_api_Access)]).length : Nat) : Int)))] hr fun a hr => ?_
  refine ln ?_
  refine cD hr H (fun c56 H => ?_) fun c56 H => ?_
  ·
   refine wp_skip ?_
   refine then_normal ?_
   refine wp_seq ?_
   refine wp_block ?_
   refine wp_seq ?_
   obtain ⟨c57, H⟩ := gd H
   by_cases c58 : (at_ (l30 ++ [(⟨0, 3, 1, 1, 1, true⟩ : T_api_Access)]) g55.toNat).Kind = 4
   ·
    replace H := ifT c58 H
    refine regL [(blk ca52, g55.toNat * 6 + 1, [vI (at_ (l30 ++ [(⟨0, 3, 1, 1, 1, true⟩ : T_api_Access)]) g55.toNat).Kind]), (blk ca52, g55.toNat * 6 + 2, [vI (at_ (l30 ++ [(⟨0, 3, 1, 1, 1, true⟩ : T_api_Access)]) g55.toNat).Addr]), (blk ca52, g55.toNat * 6 + 3, [vI (at_ (l30 ++ [(⟨0, 3, 1, 1, 1, true⟩ : T_api_Access)]) g55.toNat).A])] [2, 3, 5, 9, 10, 14, 15] 21 h (fun h => ⟨⟨h.row_cell enc_T_api_Access_ok (f := 1) (at_ok c57) rfl, trivial⟩, ⟨h.row_cell enc_T_api_Access_ok (f := 2) (at_ok c57) rfl, trivial⟩, ⟨h.row_cell enc_T_api_Access_ok (f := 3) (at_ok c57) rfl, trivial⟩, trivial⟩) fun w h hd => ?_
    refine evs' hd 19 [(0, 96, .slice ca52 (l30 ++ [(⟨0, 3, 1, 1, 1, true⟩ : T_api_Access)]).length cc53), (1, 97, vI g55)] hr fun a hr => ?_
    refine eon hd 18 2 rfl (wn rfl) hr (pA (blk ca52) (g55.toNat * 6)) (hrun := fun w => ri_row (k := .i64) (E := 111) rfl (by kernel_rfl) (by kernel_rfl) (by kernel_rfl) (by kernel_rfl) h c57) fun a hr => ?_
    refine evs' hd 17 [(3, 99, pA (blk ca52) (g55.toNat * 6 + 1))] hr fun a hr => ?_
    refine elx hd 0 16 4 hr (wn rfl) rfl rfl fun a hr => ?_
    refine evs' hd 14 [(5, 101, vB ((at_ (l30 ++ [(⟨0, 3, 1, 1, 1, true⟩ : T_api_Access)]) g55.toNat).Kind == 4)), (6, 102, vB ((at_ (l30 ++ [(⟨0, 3, 1, 1, 1, true⟩ : T_api_Access)]) g55.toNat).Kind == 4))] hr fun a hr => ?_
    refine eon hd 13 7 rfl (wgt hr (beq_iff_eq.mpr c58)) hr (.slice ca52 (l30 ++ [(⟨0, 3, 1, 1, 1, true⟩ : T_api_Access)]).length cc53) fun a hr => ?_
    refine eon hd 12 8 rfl (wgt hr (beq_iff_eq.mpr c58)) hr (vI g55) fun a hr => ?_
    refine eon hd 11 9 rfl (wgt hr (beq_iff_eq.mpr c58)) hr (pA (blk ca52) (g55.toNat * 6)) (hrun := fun w => ri_row (k := .i64) (E := 111) rfl (by kernel_rfl) (by kernel_rfl) (by kernel_rfl) (by kernel_rfl) h c57) fun a hr => ?_
    refine eon hd 10 10 rfl (wgt hr (beq_iff_eq.mpr c58)) hr (pA (blk ca52) (g55.toNat * 6 + 2)) fun a hr => ?_
    refine eon hd 9 12 rfl (wgt hr (beq_iff_eq.mpr c58)) hr (.slice ca52 (l30 ++ [(⟨0, 3, 1, 1, 1, true⟩ : T_api_Access)]).length cc53) fun a hr => ?_
    refine eon hd 8 13 rfl (wgt hr (beq_iff_eq.mpr c58)) hr (vI g55) fun a hr => ?_
    refine eon hd 7 14 rfl (wgt hr (beq_iff_eq.mpr c58)) hr (pA (blk ca52) (g55.toNat * 6)) (hrun := fun w => ri_row (k := .i64) (E := 111) rfl (by kernel_rfl) (by kernel_rfl) (by kernel_rfl) (by kernel_rfl) h c57) fun a hr => ?_
    refine eon hd 6 15 rfl (wgt hr (beq_iff_eq.mpr c58)) hr (pA (blk ca52) (g55.toNat * 6 + 3)) fun a hr => ?_
    refine eon hd 5 18 rfl (wgt hr (beq_iff_eq.mpr c58)) hr (vI p0) fun a hr => ?_
    refine elx hd 1 4 11 hr (wgt hr (beq_iff_eq.mpr c58)) rfl rfl fun a hr => ?_
    refine elx hd 2 3 16 hr (wgt hr (beq_iff_eq.mpr c58)) rfl rfl fun a hr => ?_
    refine eon hd 2 17 rfl (wgt hr (beq_iff_eq.mpr c58)) hr (vI (wi ((at_ (l30 ++ [(⟨0, 3, 1, 1, 1, true⟩ : T_api_Access)]) g55.toNat).Addr + (at_ (l30 ++ [(⟨0, 3, 1, 1, 1, true⟩ : T_api_Access)]) g55.toNat).A))) fun a hr => ?_
    refine eon hd 1 19 rfl (wgt hr (beq_iff_eq.mpr c58)) hr (vB (decide ((wi ((at_ (l30 ++ [(⟨0, 3, 1, 1, 1, true⟩ : T_api_Access)]) g55.toNat).Addr + (at_ (l30 ++ [(⟨0, 3, 1, 1, 1, true⟩ : T_api_Access)]) g55.toNat).A)) > p0))) fun a hr => ?_
    refine eon hd 0 20 rfl (wn rfl) hr (vB (decide ((wi ((at_ (l30 ++ [(⟨0, 3, 1, 1, 1, true⟩ : T_api_Access)]) g55.toNat).Addr + (at_ (l30 ++ [(⟨0, 3, 1, 1, 1, true⟩ : T_api_Access)]) g55.toNat).A)) > p0))) (hrun := fun w => rp_t (b := ((at_ (l30 ++ [(⟨0, 3, 1, 1, 1, true⟩ : T_api_Access)]) g55.toNat).Kind == 4)) rfl (by kernel_rfl) (beq_iff_eq.mpr c58) (by kernel_rfl)) fun a hr => ?_
    refine een ?_
    refine then_normal ?_
    refine cD hr H (fun c59 H => ?_) fun c59 H => ?_
    ·
     refine sr ?_
     obtain ⟨c60, H⟩ := gd H
     refine oo [117, 118] [.slice ca52 (l30 ++ [(⟨0, 3, 1, 1, 1, true⟩ : T_api_Access)]).length cc53, vI g55] hr fun a hr => ?_
     refine opv (wn rfl) hr (.slice ca52 ((l30 ++ [(⟨0, 3, 1, 1, 1, true⟩ : T_api_Access)]).take g55.toNat).length cc53) (rsl (k := .i64) rfl (by kernel_rfl) (by kernel_rfl) (by kernel_rfl) (by kernel_rfl) h c60) fun a hr => ?_
     refine o1 hr (.slice ca52 ((l30 ++ [(⟨0, 3, 1, 1, 1, true⟩ : T_api_Access)]).take g55.toNat).length cc53) fun a hr => ?_
     refine ln ?_
     refine wp_ret ?_
     refine blk_ret ?_
     refine then_ret ?_
     refine then_ret ?_
     refine blk_ret ?_
     refine then_ret ?_
     refine end_ret1 (v := .slice ca52 ((l30 ++ [(⟨0, 3, 1, 1, 1, true⟩ : T_api_Access)]).take g55.toNat).length cc53) rfl hr (by kernel_rfl) ?_
     replace h := Fit.row_cut enc_T_api_Access_ok h ((l30 ++ [(⟨0, 3, 1, 1, 1, true⟩ : T_api_Access)]).take g55.toNat)
     replace H := ej1 H; subst H
     exact ⟨ca52, cc53, rfl, h⟩
    ·
     refine wp_skip ?_
     refine blk_normal ?_
     refine then_normal ?_
     refine wp_region_lit ?_
     refine oo [94, 95, 11] [vI g55, vI (wi (g55 + 1)), vI (wi (g55 + 1))] hr fun a hr => ?_
     refine ln ?_
     exact ⟨_, ⟨(wi (g55 + 1)), H, hr.fj h⟩, Nat.lt_succ_self _⟩
   ·
    replace H := ifF c58 H
    refine regL [(blk ca52, g55.toNat * 6 + 1, [vI (at_ (l30 ++ [(⟨0, 3, 1, 1, 1, true⟩ : T_api_Access)]) g55.toNat).Kind])] [2, 3] 21 h (fun h => ⟨⟨h.row_cell enc_T_api_Access_ok (f := 1) (at_ok c57) rfl, trivial⟩, trivial⟩) fun w h hd => ?_
    refine evs' hd 19 [(0, 96, .slice ca52 (l30 ++ [(⟨0, 3, 1, 1, 1, true⟩ : T_api_Access)]).length cc53), (1, 97, vI g55)] hr fun a hr => ?_
    refine eon hd 18 2 rfl (wn rfl) hr (pA (blk ca52) (g55.toNat * 6)) (hrun := fun w => ri_row (k := .i64) (E := 111) rfl (by kernel_rfl) (by kernel_rfl) (by kernel_rfl) (by kernel_rfl) h c57) fun a hr => ?_
    refine evs' hd 17 [(3, 99, pA (blk ca52) (g55.toNat * 6 + 1))] hr fun a hr => ?_
    refine elx hd 0 16 4 hr (wn rfl) rfl rfl fun a hr => ?_
    refine evs' hd 14 [(5, 101, vB ((at_ (l30 ++ [(⟨0, 3, 1, 1, 1, true⟩ : T_api_Access)]) g55.toNat).Kind == 4)), (6, 102, vB ((at_ (l30 ++ [(⟨0, 3, 1, 1, 1, true⟩ : T_api_Access)]) g55.toNat).Kind == 4))] hr fun a hr => ?_
    refine eof hd 13 7 rfl (wgt hr (beq_eq_false_iff_ne.mpr c58)) hr fun a hr => ?_
    refine eof hd 12 8 rfl (wgt hr (beq_eq_false_iff_ne.mpr c58)) hr fun a hr => ?_
    refine eof hd 11 9 rfl (wgt hr (beq_eq_false_iff_ne.mpr c58)) hr fun a hr => ?_
    refine eof hd 10 10 rfl (wgt hr (beq_eq_false_iff_ne.mpr c58)) hr fun a hr => ?_
    refine eof hd 9 12 rfl (wgt hr (beq_eq_false_iff_ne.mpr c58)) hr fun a hr => ?_
    refine eof hd 8 13 rfl (wgt hr (beq_eq_false_iff_ne.mpr c58)) hr fun a hr => ?_
    refine eof hd 7 14 rfl (wgt hr (beq_eq_false_iff_ne.mpr c58)) hr fun a hr => ?_
    refine eof hd 6 15 rfl (wgt hr (beq_eq_false_iff_ne.mpr c58)) hr fun a hr => ?_
    refine eof hd 5 18 rfl (wgt hr (beq_eq_false_iff_ne.mpr c58)) hr fun a hr => ?_
    refine eof hd 4 11 rfl (wgt hr (beq_eq_false_iff_ne.mpr c58)) hr fun a hr => ?_
    refine eof hd 3 16 rfl (wgt hr (beq_eq_false_iff_ne.mpr c58)) hr fun a hr => ?_
    refine eof hd 2 17 rfl (wgt hr (beq_eq_false_iff_ne.mpr c58)) hr fun a hr => ?_
    refine eof hd 1 19 rfl (wgt hr (beq_eq_false_iff_ne.mpr c58)) hr fun a hr => ?_
    refine eon hd 0 20 rfl (wn rfl) hr (vB false) (hrun := fun w => rp_f (b := ((at_ (l30 ++ [(⟨0, 3, 1, 1, 1, true⟩ : T_api_Access)]) g55.toNat).Kind == 4)) rfl (by kernel_rfl) (beq_eq_false_iff_ne.mpr c58) (by kernel_rfl)) fun a hr => ?_
    refine een ?_
    refine then_normal ?_
    refine cond_ff hr (b := false) rfl ?_
    refine wp_skip ?_
    refine blk_normal ?_
    refine then_normal ?_
    refine wp_region_lit ?_
    refine oo [94, 95, 11] [vI g55, vI (wi (g55 + 1)), vI (wi (g55 + 1))] hr fun a hr => ?_
    refine ln ?_
    exact ⟨_, ⟨(wi (g55 + 1)), H, hr.fj h⟩, Nat.lt_succ_self _⟩
  ·
   refine wp_exit ?_
   refine then_exit ?_
   refine then_exit ?_
   refine blk_here ?_
   refine then_normal ?_
   refine sr ?_
   refine oo [120, 6] [.slice ca52 (l30 ++ [(⟨0, 3, 1, 1, 1, true⟩ : T_api_Access)]).length cc53, .slice ca52 (l30 ++ [(⟨0, 3, 1, 1, 1, true⟩ : T_api_Access)]).length cc53] hr fun a hr => ?_
   refine ln ?_
   refine wp_ret ?_
   refine end_ret1 (v := .slice ca52 (l30 ++ [(⟨0, 3, 1, 1, 1, true⟩ : T_api_Access)]).length cc53) rfl hr (by kernel_rfl) ?_
   replace H := ej1 H; subst H
   exact ⟨ca52, cc53, rfl, h⟩

/-- plunder/plunderlaw11.first -/
def plunderlaw11_first (p0 : Int) (p1 : T_api_Limits) : Option (Int) :=
  some (wi ((wi ((wi ((wi ((2 : Int) + (wi ((10 : Int) * p1.Frames)))) + 2)) + p0)) + (wi (p0 * (wi ((4 : Int) + p1.First))))))

theorem plunderlaw11_first_ok {z w : World} {L : List HProp} {p0 r0 : Int} {p1 : T_api_Limits} (H : plunderlaw11_first p0 p1 = some r0) (h : Fit z (sepL (L)) w)  :
    Calls Tryd.prog 7 #[vI p0, ag_T_api_Limits p1] w fun e w => e = .returned (vI r0) ∧ Fit z (sepL (L)) w := by
 unfold plunderlaw11_first at H
 refine enter Tryd.func7 rfl 18 rfl rfl [(0, vI p0), (1, ag_T_api_Limits p1)] ⟨rfl, rfl, trivial⟩ ?_
 intro j a hr
 refine sr ?_
 refine onew (wn rfl) hr h nb (ca_T_api_Limits p1) 27 fun b1 w a h hr => ?_
 refine o1 hr (vI 0) fun a hr => ?_
 refine ln ?_
 refine sr ?_
 refine o1 hr (pA b1 0) fun a hr => ?_
 refine ld (wn rfl) hr (vI p1.Frames) (h.cell 0 rfl) fun a hr => ?_
 refine oo [7, 8, 9, 10, 11, 12, 13] [vI (wi ((10 : Int) * p1.Frames)), vI (wi ((2 : Int) + (wi ((10 : Int) * p1.Frames)))), vI (wi ((wi ((2 : Int) + (wi ((10 : Int) * p1.Frames)))) + 2)), vI p0, vI (wi ((wi ((wi ((2 : Int) + (wi ((10 : Int) * p1.Frames)))) + 2)) + p0)), vI p0, pA b1 1] hr fun a hr => ?_
 refine ld (wn rfl) hr (vI p1.First) (h.cell 1 rfl) fun a hr => ?_
 refine oo [15, 16, 17, 4] [vI (wi ((4 : Int) + p1.First)), vI (wi (p0 * (wi ((4 : Int) + p1.First)))), vI (wi ((wi ((wi ((wi ((2 : Int) + (wi ((10 : Int) * p1.Frames)))) + 2)) + p0)) + (wi (p0 * (wi ((4 : Int) + p1.First)))))), vI (wi ((wi ((wi ((wi ((2 : Int) + (wi ((10 : Int) * p1.Frames)))) + 2)) + p0)) + (wi (p0 * (wi ((4 : Int) + p1.First))))))] hr fun a hr => ?_
 refine ln ?_
 refine wp_ret ?_
 refine end_ret1 (v := vI (wi ((wi ((wi ((wi ((2 : Int) + (wi ((10 : Int) * p1.Frames)))) + 2)) + p0)) + (wi (p0 * (wi ((4 : Int) + p1.First))))))) rfl hr (by kernel_rfl) ?_
 replace H := ej1 H; subst H
 exact ⟨rfl, h.se 1 []⟩

/-- (*plunder/plunderref11.World).sleepers -/
def plunderref11_World_sleepers (p0 : T_plunderref11_World) (p0_P_Funcs : List T_api_Func) (p0_Draws : List Int) : Option (Int) :=
  some (wi ((2 : Int) + (wi (p0.Lim_Frames * 10))))

theorem plunderref11_World_sleepers_ok {z w : World} {L : List HProp} {p0 : T_plunderref11_World} {p0_P_Funcs : List T_api_Func} {p0_Draws : List Int} {B0 vc0_P_Funcs vc0_Draws cc2 cc4 cc6 cc8 cc10 : Nat} {va0_P_Funcs va0_Draws ca1 ca3 ca5 ca7 ca9 : Option Addr} {hs0_P_Funcs : Nat → Option Addr × Nat} {r0 : Int} (H : plunderref11_World_sleepers p0 p0_P_Funcs p0_Draws = some r0) (h : Fit z (sepL (ob57 B0 p0 (.slice va0_P_Funcs p0_P_Funcs.length vc0_P_Funcs) ca1 cc2 ca3 cc4 ca5 cc6 ca7 cc8 ca9 cc10 (.slice va0_Draws p0_Draws.length vc0_Draws) :: ro2 ca1 cc2 p0.Cells :: rn117 ca3 cc4 p0.Frames :: ro115 ca5 cc6 p0.Workers :: ro190 ca7 cc8 p0.Events :: ro111 ca9 cc10 p0.Log :: L)) w) (hv0_P_Funcs : Rd76 L va0_P_Funcs hs0_P_Funcs p0_P_Funcs) (hv0_Draws : RdRow L 1 encZ_i64 va0_Draws p0_Draws) :
    Calls Tryd.prog 61 #[pA B0 0] w fun e w => e = .returned (vI r0) ∧ Fit z (sepL (ob57 B0 p0 (.slice va0_P_Funcs p0_P_Funcs.length vc0_P_Funcs) ca1 cc2 ca3 cc4 ca5 cc6 ca7 cc8 ca9 cc10 (.slice va0_Draws p0_Draws.length vc0_Draws) :: ro2 ca1 cc2 p0.Cells :: rn117 ca3 cc4 p0.Frames :: ro115 ca5 cc6 p0.Workers :: ro190 ca7 cc8 p0.Events :: ro111 ca9 cc10 p0.Log :: L)) w := by
 unfold plunderref11_World_sleepers at H
 refine enter Tryd.func61 rfl 10 rfl rfl [(0, pA B0 0)] ⟨rfl, trivial⟩ ?_
 intro j a hr
 refine sr ?_
 refine o1 hr (vI 0) fun a hr => ?_
 refine ln ?_
 refine sr ?_
 refine oo [3, 4, 5, 6] [pA B0 0, pA B0 0, pA B0 2, pA B0 2] hr fun a hr => ?_
 refine ld (wn rfl) hr (vI p0.Lim_Frames) (h.cell 2 rfl) fun a hr => ?_
 refine oo [8, 9, 2] [vI (wi (p0.Lim_Frames * 10)), vI (wi ((2 : Int) + (wi (p0.Lim_Frames * 10)))), vI (wi ((2 : Int) + (wi (p0.Lim_Frames * 10))))] hr fun a hr => ?_
 refine ln ?_
 refine wp_ret ?_
 refine end_ret1 (v := vI (wi ((2 : Int) + (wi (p0.Lim_Frames * 10))))) rfl hr (by kernel_rfl) ?_
 replace H := ej1 H; subst H
 exact ⟨rfl, h⟩

/-- (*plunder/plunderref11.World).flag -/
def plunderref11_World_flag (p0 : T_plunderref11_World) (p0_P_Funcs : List T_api_Func) (p0_Draws : List Int) (p1 : Int) : Option (Int) :=
  ob1 (plunderref11_World_sleepers p0 p0_P_Funcs p0_Draws) (fun r11 => some (wi ((wi (r11 + 2)) + p1)))

theorem plunderref11_World_flag_ok {z w : World} {L : List HProp} {p0 : T_plunderref11_World} {p0_P_Funcs : List T_api_Func} {p0_Draws : List Int} {p1 r0 : Int} {B0 vc0_P_Funcs vc0_Draws cc2 cc4 cc6 cc8 cc10 : Nat} {va0_P_Funcs va0_Draws ca1 ca3 ca5 ca7 ca9 : Option Addr} {hs0_P_Funcs : Nat → Option Addr × Nat} (H : plunderref11_World_flag p0 p0_P_Funcs p0_Draws p1 = some r0) (h : Fit z (sepL (ob57 B0 p0 (.slice va0_P_Funcs p0_P_Funcs.length vc0_P_Funcs) ca1 cc2 ca3 cc4 ca5 cc6 ca7 cc8 ca9 cc10 (.slice va0_Draws p0_Draws.length vc0_Draws) :: ro2 ca1 cc2 p0.Cells :: rn117 ca3 cc4 p0.Frames :: ro115 ca5 cc6 p0.Workers :: ro190 ca7 cc8 p0.Events :: ro111 ca9 cc10 p0.Log :: L)) w) (hv0_P_Funcs : Rd76 L va0_P_Funcs hs0_P_Funcs p0_P_Funcs) (hv0_Draws : RdRow L 1 encZ_i64 va0_Draws p0_Draws) :
    Calls Tryd.prog 46 #[pA B0 0, vI p1] w fun e w => e = .returned (vI r0) ∧ Fit z (sepL (ob57 B0 p0 (.slice va0_P_Funcs p0_P_Funcs.length vc0_P_Funcs) ca1 cc2 ca3 cc4 ca5 cc6 ca7 cc8 ca9 cc10 (.slice va0_Draws p0_Draws.length vc0_Draws) :: ro2 ca1 cc2 p0.Cells :: rn117 ca3 cc4 p0.Frames :: ro115 ca5 cc6 p0.Workers :: ro190 ca7 cc8 p0.Events :: ro111 ca9 cc10 p0.Log :: L)) w := by
 unfold plunderref11_World_flag at H
 refine enter Tryd.func46 rfl 10 rfl rfl [(0, pA B0 0), (1, vI p1)] ⟨rfl, rfl, trivial⟩ ?_
 intro j a hr
 refine sr ?_
 refine o1 hr (vI 0) fun a hr => ?_
 refine ln ?_
 refine sr ?_
 obtain ⟨r11, e12, H⟩ := bd1 H
 refine o1 hr (pA B0 0) fun a hr => ?_
 have hc := plunderref11_World_sleepers_ok (va0_P_Funcs := va0_P_Funcs) (vc0_P_Funcs := vc0_P_Funcs) (hv0_P_Funcs := (RdN.up 0 hv0_P_Funcs)) (va0_Draws := va0_Draws) (vc0_Draws := vc0_Draws) (hv0_Draws := (RdRow.up 0 hv0_Draws)) (hs0_P_Funcs := hs0_P_Funcs) (H := e12) (h := h)
 refine cl (wn rfl) hr hc ?_; clear hc h
 rintro _ w ⟨rfl, h⟩; refine ⟨_, rfl, fun a hr => ?_⟩
 refine oo [7, 8, 9, 4] [vI (wi (r11 + 2)), vI p1, vI (wi ((wi (r11 + 2)) + p1)), vI (wi ((wi (r11 + 2)) + p1))] hr fun a hr => ?_
 refine ln ?_
 refine wp_ret ?_
 refine end_ret1 (v := vI (wi ((wi (r11 + 2)) + p1))) rfl hr (by kernel_rfl) ?_
 replace H := ej1 H; subst H
 exact ⟨rfl, h⟩

/-- (*plunder/plunderref11.World).top -/
def plunderref11_World_top (p0 : T_plunderref11_World) (p0_P_Funcs : List T_api_Func) (p0_Draws : List Int) (p1 : Int) : Option (Int) :=
  ob1 (plunderref11_World_flag p0 p0_P_Funcs p0_Draws p0.N) (fun r11 => some (wi (r11 + (wi (p1 * (wi ((4 : Int) + p0.Lim_First)))))))

theorem plunderref11_World_top_ok {z w : World} {L : List HProp} {p0 : T_plunderref11_World} {p0_P_Funcs : List T_api_Func} {p0_Draws : List Int} {p1 r0 : Int} {B0 vc0_P_Funcs vc0_Draws cc2 cc4 cc6 cc8 cc10 : Nat} {va0_P_Funcs va0_Draws ca1 ca3 ca5 ca7 ca9 : Option Addr} {hs0_P_Funcs : Nat → Option Addr × Nat} (H : plunderref11_World_top p0 p0_P_Funcs p0_Draws p1 = some r0) (h : Fit z (sepL (ob57 B0 p0 (.slice va0_P_Funcs p0_P_Funcs.length vc0_P_Funcs) ca1 cc2 ca3 cc4 ca5 cc6 ca7 cc8 ca9 cc10 (.slice va0_Draws p0_Draws.length vc0_Draws) :: ro2 ca1 cc2 p0.Cells :: rn117 ca3 cc4 p0.Frames :: ro115 ca5 cc6 p0.Workers :: ro190 ca7 cc8 p0.Events :: ro111 ca9 cc10 p0.Log :: L)) w) (hv0_P_Funcs : Rd76 L va0_P_Funcs hs0_P_Funcs p0_P_Funcs) (hv0_Draws : RdRow L 1 encZ_i64 va0_Draws p0_Draws) :
    Calls Tryd.prog 28 #[pA B0 0, vI p1] w fun e w => e = .returned (vI r0) ∧ Fit z (sepL (ob57 B0 p0 (.slice va0_P_Funcs p0_P_Funcs.length vc0_P_Funcs) ca1 cc2 ca3 cc4 ca5 cc6 ca7 cc8 ca9 cc10 (.slice va0_Draws p0_Draws.length vc0_Draws) :: ro2 ca1 cc2 p0.Cells :: rn117 ca3 cc4 p0.Frames :: ro115 ca5 cc6 p0.Workers :: ro190 ca7 cc8 p0.Events :: ro111 ca9 cc10 p0.Log :: L)) w := by
 unfold plunderref11_World_top at H
 refine enter Tryd.func28 rfl 20 rfl rfl [(0, pA B0 0), (1, vI p1)] ⟨rfl, rfl, trivial⟩ ?_
 intro j a hr
 refine sr ?_
 refine o1 hr (vI 0) fun a hr => ?_
 refine ln ?_
 refine wp_seq ?_
 obtain ⟨r11, e12, H⟩ := bd1 H
 refine regL [(B0, 1, [vI p0.N]), (B0, 3, [vI p0.Lim_First])] [2, 3, 5, 8, 9, 10, 12, 13] 16 h (fun h => ⟨⟨h.cell 1 rfl, trivial⟩, ⟨h.cell 3 rfl, trivial⟩, trivial⟩) fun w h hd => ?_
 refine evs' hd 7 [(0, 5, pA B0 0), (1, 6, pA B0 0), (2, 7, pA B0 0), (3, 8, pA B0 1), (6, 11, vI p1), (7, 12, pA B0 0), (8, 13, pA B0 0), (9, 14, pA B0 2), (10, 15, pA B0 3)] hr fun a hr => ?_
 refine elx hd 0 6 4 hr (wn rfl) rfl rfl fun a hr => ?_
 refine elx hd 1 5 11 hr (wn rfl) rfl rfl fun a hr => ?_
 refine evs' hd 3 [(12, 17, vI (wi ((4 : Int) + p0.Lim_First))), (13, 18, vI (wi (p1 * (wi ((4 : Int) + p0.Lim_First)))))] hr fun a hr => ?_
 refine eo1 5 rfl ?_
 have hc := plunderref11_World_flag_ok (va0_P_Funcs := va0_P_Funcs) (vc0_P_Funcs := vc0_P_Funcs) (hv0_P_Funcs := (RdN.up 0 hv0_P_Funcs)) (va0_Draws := va0_Draws) (vc0_Draws := vc0_Draws) (hv0_Draws := (RdRow.up 0 hv0_Draws)) (hs0_P_Funcs := hs0_P_Funcs) (H := e12) (h := h)
 refine cl (wn rfl) hr hc ?_; clear hc h
 rintro _ w ⟨rfl, h⟩; refine ⟨_, rfl, fun a hr => ?_⟩
 refine ln ?_
 refine eE ⟨⟨h.cell 1 rfl, trivial⟩, ⟨h.cell 3 rfl, trivial⟩, trivial⟩ fun hd => ?_
 refine evs' hd 0 [(14, 19, vI (wi (r11 + (wi (p1 * (wi ((4 : Int) + p0.Lim_First))))))), (15, 4, vI (wi (r11 + (wi (p1 * (wi ((4 : Int) + p0.Lim_First)))))))] hr fun a hr => ?_
 refine een ?_
 refine then_normal ?_
 refine wp_ret ?_
 refine end_ret1 (v := vI (wi (r11 + (wi (p1 * (wi ((4 : Int) + p0.Lim_First))))))) rfl hr (by kernel_rfl) ?_
 replace H := ej1 H; subst H
 exact ⟨rfl, h⟩

/-- (*plunder/plunderref11.World).join -/
def plunderref11_World_join (p0 : T_plunderref11_World) (p0_P_Funcs : List T_api_Func) (p0_Draws : List Int) (p1 : Int) : Option (Int) :=
  some (wi ((2 : Int) + (wi (p1 * 10))))

theorem plunderref11_World_join_ok {z w : World} {L : List HProp} {p0 : T_plunderref11_World} {p0_P_Funcs : List T_api_Func} {p0_Draws : List Int} {p1 r0 : Int} {B0 vc0_P_Funcs vc0_Draws cc2 cc4 cc6 cc8 cc10 : Nat} {va0_P_Funcs va0_Draws ca1 ca3 ca5 ca7 ca9 : Option Addr} {hs0_P_Funcs : Nat → Option Addr × Nat} (H : plunderref11_World_join p0 p0_P_Funcs p0_Draws p1 = some r0) (h : Fit z (sepL (ob57 B0 p0 (.slice va0_P_Funcs p0_P_Funcs.length vc0_P_Funcs) ca1 cc2 ca3 cc4 ca5 cc6 ca7 cc8 ca9 cc10 (.slice va0_Draws p0_Draws.length vc0_Draws) :: ro2 ca1 cc2 p0.Cells :: rn117 ca3 cc4 p0.Frames :: ro115 ca5 cc6 p0.Workers :: ro190 ca7 cc8 p0.Events :: ro111 ca9 cc10 p0.Log :: L)) w) (hv0_P_Funcs : Rd76 L va0_P_Funcs hs0_P_Funcs p0_P_Funcs) (hv0_Draws : RdRow L 1 encZ_i64 va0_Draws p0_Draws) :
    Calls Tryd.prog 29 #[pA B0 0, vI p1] w fun e w => e = .returned (vI r0) ∧ Fit z (sepL (ob57 B0 p0 (.slice va0_P_Funcs p0_P_Funcs.length vc0_P_Funcs) ca1 cc2 ca3 cc4 ca5 cc6 ca7 cc8 ca9 cc10 (.slice va0_Draws p0_Draws.length vc0_Draws) :: ro2 ca1 cc2 p0.Cells :: rn117 ca3 cc4 p0.Frames :: ro115 ca5 cc6 p0.Workers :: ro190 ca7 cc8 p0.Events :: ro111 ca9 cc10 p0.Log :: L)) w := by
 unfold plunderref11_World_join at H
 refine enter Tryd.func29 rfl 8 rfl rfl [(0, pA B0 0), (1, vI p1)] ⟨rfl, rfl, trivial⟩ ?_
 intro j a hr
 refine sr ?_
 refine o1 hr (vI 0) fun a hr => ?_
 refine ln ?_
 refine sr ?_
 refine oo [5, 6, 7, 4] [vI p1, vI (wi (p1 * 10)), vI (wi ((2 : Int) + (wi (p1 * 10)))), vI (wi ((2 : Int) + (wi (p1 * 10))))] hr fun a hr => ?_
 refine ln ?_
 refine wp_ret ?_
 refine end_ret1 (v := vI (wi ((2 : Int) + (wi (p1 * 10))))) rfl hr (by kernel_rfl) ?_
 replace H := ej1 H; subst H
 exact ⟨rfl, h⟩

/-- (*plunder/plunderref11.World).buf -/
def plunderref11_World_buf (p0 : T_plunderref11_World) (p0_P_Funcs : List T_api_Func) (p0_Draws : List Int) (p1 : Int) : Option (Int) :=
  ob1 (plunderref11_World_top p0 p0_P_Funcs p0_Draws p1) (fun r11 => some (wi (r11 + 2)))

theorem plunderref11_World_buf_ok {z w : World} {L : List HProp} {p0 : T_plunderref11_World} {p0_P_Funcs : List T_api_Func} {p0_Draws : List Int} {p1 r0 : Int} {B0 vc0_P_Funcs vc0_Draws cc2 cc4 cc6 cc8 cc10 : Nat} {va0_P_Funcs va0_Draws ca1 ca3 ca5 ca7 ca9 : Option Addr} {hs0_P_Funcs : Nat → Option Addr × Nat} (H : plunderref11_World_buf p0 p0_P_Funcs p0_Draws p1 = some r0) (h : Fit z (sepL (ob57 B0 p0 (.slice va0_P_Funcs p0_P_Funcs.length vc0_P_Funcs) ca1 cc2 ca3 cc4 ca5 cc6 ca7 cc8 ca9 cc10 (.slice va0_Draws p0_Draws.length vc0_Draws) :: ro2 ca1 cc2 p0.Cells :: rn117 ca3 cc4 p0.Frames :: ro115 ca5 cc6 p0.Workers :: ro190 ca7 cc8 p0.Events :: ro111 ca9 cc10 p0.Log :: L)) w) (hv0_P_Funcs : Rd76 L va0_P_Funcs hs0_P_Funcs p0_P_Funcs) (hv0_Draws : RdRow L 1 encZ_i64 va0_Draws p0_Draws) :
    Calls Tryd.prog 30 #[pA B0 0, vI p1] w fun e w => e = .returned (vI r0) ∧ Fit z (sepL (ob57 B0 p0 (.slice va0_P_Funcs p0_P_Funcs.length vc0_P_Funcs) ca1 cc2 ca3 cc4 ca5 cc6 ca7 cc8 ca9 cc10 (.slice va0_Draws p0_Draws.length vc0_Draws) :: ro2 ca1 cc2 p0.Cells :: rn117 ca3 cc4 p0.Frames :: ro115 ca5 cc6 p0.Workers :: ro190 ca7 cc8 p0.Events :: ro111 ca9 cc10 p0.Log :: L)) w := by
 unfold plunderref11_World_buf at H
 refine enter Tryd.func30 rfl 9 rfl rfl [(0, pA B0 0), (1, vI p1)] ⟨rfl, rfl, trivial⟩ ?_
 intro j a hr
 refine sr ?_
 refine o1 hr (vI 0) fun a hr => ?_
 refine ln ?_
 refine sr ?_
 obtain ⟨r11, e12, H⟩ := bd1 H
 refine oo [5, 6] [pA B0 0, vI p1] hr fun a hr => ?_
 have hc := plunderref11_World_top_ok (va0_P_Funcs := va0_P_Funcs) (vc0_P_Funcs := vc0_P_Funcs) (hv0_P_Funcs := (RdN.up 0 hv0_P_Funcs)) (va0_Draws := va0_Draws) (vc0_Draws := vc0_Draws) (hv0_Draws := (RdRow.up 0 hv0_Draws)) (hs0_P_Funcs := hs0_P_Funcs) (H := e12) (h := h)
 refine cl (wn rfl) hr hc ?_; clear hc h
 rintro _ w ⟨rfl, h⟩; refine ⟨_, rfl, fun a hr => ?_⟩
 refine oo [8, 4] [vI (wi (r11 + 2)), vI (wi (r11 + 2))] hr fun a hr => ?_
 refine ln ?_
 refine wp_ret ?_
 refine end_ret1 (v := vI (wi (r11 + 2))) rfl hr (by kernel_rfl) ?_
 replace H := ej1 H; subst H
 exact ⟨rfl, h⟩

def plunderref11_New_l1 (K : Nat) (r4 : Int) : Nat → (List Int) → Int → Option ((List Int))
  | 0, _, _ => none
  | k1 + 1, l13, g14 => (if g14 < r4 then if (l13.length + 1) * 8 ≤ 140737488355328 then (plunderref11_New_l1 K r4 k1 (l13 ++ [0]) (wi (g14 + 1))) else none else some l13)
def plunderref11_New_l2 (K : Nat) (p0 : T_api_Program) (p3 : T_api_Limits) (p4 : List Int) : Nat → T_plunderref11_World → Int → Option (T_plunderref11_World)
  | 0, _, _ => none
  | k2 + 1, S33, g42 => (if g42 < p3.Frames then ob1 (plunderref11_World_join S33 p0.Funcs p4 g42) (fun r46 => if inr_ r46 S33.Cells.length then (plunderref11_New_l2 K p0 p3 p4 k2 ({ S33 with Cells := S33.Cells.set r46.toNat 1 }) (wi (g42 + 1))) else none) else some S33)
def plunderref11_New_l3 (K : Nat) (p0 : T_api_Program) (p2 : Int) (p3 : T_api_Limits) (p4 : List Int) : Nat → T_plunderref11_World → Int → Option (T_plunderref11_World)
  | 0, _, _ => none
  | k3 + 1, S55, g58 => (if g58 < p2 then ob1 (plunderref11_World_buf S55 p0.Funcs p4 g58) (fun r60 => ob1 (plunderref11_World_top S55 p0.Funcs p4 g58) (fun r62 => if inr_ r60 S55.Cells.length then ob1 (plunderref11_World_top ({ S55 with Cells := S55.Cells.set r60.toNat (wi (r62 + 3)) }) p0.Funcs p4 g58) (fun r66 => if inr_ (wi (r66 + 3)) (S55.Cells.set r60.toNat (wi (r62 + 3))).length then if (S55.Workers.length + 1) * 112 ≤ 140737488355328 then (plunderref11_New_l3 K p0 p2 p3 p4 k3 ({ S55 with Cells := (S55.Cells.set r60.toNat (wi (r62 + 3))).set (wi (r66 + 3)).toNat p3.First, Workers := S55.Workers ++ [(⟨38, 0, 0, 0, -1, 0, 0, 0, 0, 0, 0, 0, 0, 0⟩ : T_plunderref11_Worker)] }) (wi (g58 + 1))) else none else none) else none)) else some S55)
def plunderref11_New_l4 (K : Nat) (p0 : T_api_Program) : Nat → (List Int) → Int → Option ((List Int))
  | 0, _, _ => none
  | k4 + 1, l89, g90 => if inr_ (0 : Int) p0.Funcs.length then (if g90 < (at_ p0.Funcs 0).Regs then if (l89.length + 1) * 8 ≤ 140737488355328 then (plunderref11_New_l4 K p0 k4 (l89 ++ [0]) (wi (g90 + 1))) else none else some l89) else none
def plunderref11_New_l5 (K : Nat) (p1 : List Int) : Nat → (List Int) → Int → Option ((List Int))
  | 0, _, _ => none
  | k5 + 1, l100, g101 => (if g101 < ((p1.length : Nat) : Int) then if inr_ g101 p1.length then if inr_ g101 l100.length then (plunderref11_New_l5 K p1 k5 (l100.set g101.toNat (at_ p1 g101.toNat)) (wi (g101 + 1))) else none else none else some l100)
/-- plunder/plunderref11.New -/
def plunderref11_New (K : Nat) (p0 : T_api_Program) (p1 : List Int) (p2 : Int) (p3 : T_api_Limits) (p4 : List Int) : Option (T_plunderref11_World) :=
  ob1 (plunderref11_World_top (⟨p2, p3.Frames, p3.First, p3.Most, ([] : List Int), ([] : List T_plunderref11_Frame), ([] : List T_plunderref11_Worker), ([] : List T_api_Event), ([] : List T_api_Access), 0, 0, 0, false, false⟩ : T_plunderref11_World) p0.Funcs p4 p2) (fun r4 => ob1 ((plunderref11_New_l1 K r4 K ([] : List Int) 0)) (fun l8 => if inr_ (1 : Int) l8.length then ob1 ((plunderref11_New_l2 K p0 p3 p4 K (⟨p2, p3.Frames, p3.First, p3.Most, l8.set 1 1, ([] : List T_plunderref11_Frame), ([] : List T_plunderref11_Worker), ([] : List T_api_Event), ([] : List T_api_Access), 0, 0, 0, false, false⟩ : T_plunderref11_World) 0)) (fun S22 => ob1 ((plunderref11_New_l3 K p0 p2 p3 p4 K S22 0)) (fun S50 => if inr_ (0 : Int) S50.Workers.length then if inr_ (0 : Int) (S50.Workers.set 0 ({ at_ S50.Workers 0 with Frame := 0 })).length then ob1 ((if p2 = 1 then if inr_ (0 : Int) ((S50.Workers.set 0 ({ at_ S50.Workers 0 with Frame := 0 })).set 0 ({ { at_ S50.Workers 0 with Frame := 0 } with Now_K := 2, Now_A := 0, Now_B := -1, Now_C := 0 })).length then some (((S50.Workers.set 0 ({ at_ S50.Workers 0 with Frame := 0 })).set 0 ({ { at_ S50.Workers 0 with Frame := 0 } with Now_K := 2, Now_A := 0, Now_B := -1, Now_C := 0 })).set 0 ({ { { at_ S50.Workers 0 with Frame := 0 } with Now_K := 2, Now_A := 0, Now_B := -1, Now_C := 0 } with Now_K := 2, Now_A := 0, Now_B := -1, Now_C := 0 })) else none else some ((S50.Workers.set 0 ({ at_ S50.Workers 0 with Frame := 0 })).set 0 ({ { at_ S50.Workers 0 with Frame := 0 } with Now_K := 2, Now_A := 0, Now_B := -1, Now_C := 0 })))) (fun l76 => ob1 ((plunderref11_New_l4 K p0 K ([] : List Int) 0)) (fun l84 => ob1 ((plunderref11_New_l5 K p1 K l84 0)) (fun l97 => if (S50.Frames.length + 1) * 72 ≤ 140737488355328 then some ({ S50 with Frames := S50.Frames ++ [(⟨0, 0, -1, 0, 0, 1, l97⟩ : T_plunderref11_Frame)], Workers := l76 }) else none))) else none else none)) else none))

theorem plunderref11_New_ok {z w : World} {L : List HProp} {K : Nat} {p0 : T_api_Program} {p1 p4 : List Int} {p2 : Int} {p3 : T_api_Limits} {va0_Funcs va1 va4 : Option Addr} {vc0_Funcs vc1 vc4 : Nat} {hs0_Funcs : Nat → Option Addr × Nat} {r0 : T_plunderref11_World} (H : plunderref11_New K p0 p1 p2 p3 p4 = some r0) (h : Fit z (sepL (L)) w) (hv0_Funcs : Rd76 L va0_Funcs hs0_Funcs p0.Funcs) (hv1 : RdRow L 1 encZ_i64 va1 p1) (hv4 : RdRow L 1 encZ_i64 va4 p4) :
    Calls Tryd.prog 14 #[.agg #[.slice va0_Funcs p0.Funcs.length vc0_Funcs], .slice va1 p1.length vc1, vI p2, ag_T_api_Limits p3, .slice va4 p4.length vc4] w fun e w => ∃ Bn0 car0_1 ccr0_2 car0_3 ccr0_4 car0_5 ccr0_6 car0_7 ccr0_8 car0_9 ccr0_10, e = .returned (pA Bn0 0) ∧ Fit z (sepL (ob57 Bn0 r0 (.slice va0_Funcs p0.Funcs.length vc0_Funcs) car0_1 ccr0_2 car0_3 ccr0_4 car0_5 ccr0_6 car0_7 ccr0_8 car0_9 ccr0_10 (.slice va4 p4.length vc4) :: ro2 car0_1 ccr0_2 r0.Cells :: rn117 car0_3 ccr0_4 r0.Frames :: ro115 car0_5 ccr0_6 r0.Workers :: ro190 car0_7 ccr0_8 r0.Events :: ro111 car0_9 ccr0_10 r0.Log :: L)) w := by
 unfold plunderref11_New at H
 refine enter Tryd.func14 rfl 162 rfl rfl [(0, .agg #[.slice va0_Funcs p0.Funcs.length vc0_Funcs]), (1, .slice va1 p1.length vc1), (2, vI p2), (3, ag_T_api_Limits p3), (4, .slice va4 p4.length vc4)] ⟨rfl, rfl, rfl, rfl, rfl, trivial⟩ ?_
 intro j a hr
 refine sr ?_
 refine onew (wn rfl) hr h nb (#[.slice va0_Funcs p0.Funcs.length vc0_Funcs]) 24 fun b1 w a h hr => ?_
 refine onew (wn rfl) hr h nb (ca_T_api_Limits p3) 27 fun b2 w a h hr => ?_
 refine o1 hr (pN) fun a hr => ?_
 refine ln ?_
 refine sr ?_
 refine ldm (wn rfl) hr (.agg #[.slice va0_Funcs p0.Funcs.length vc0_Funcs]) (cs := [.slice va0_Funcs p0.Funcs.length vc0_Funcs]) ⟨(h.pick 1).cell 0 rfl, trivial⟩ fun a hr => ?_
 refine o1 hr (vI p2) fun a hr => ?_
 refine ldm (wn rfl) hr (ag_T_api_Limits p3) (cs := cl_T_api_Limits p3) (h.held 0 rfl) fun a hr => ?_
 refine oo [22, 23] [.slice va4 p4.length vc4, .agg #[.slice va0_Funcs p0.Funcs.length vc0_Funcs, vI p2, vI p3.Frames, vI p3.First, vI p3.Most, .slice none 0 0, .slice none 0 0, .slice none 0 0, .slice none 0 0, .slice none 0 0, .slice va4 p4.length vc4, vI 0, vI 0, vI 0, vB false, vB false]] hr fun a hr => ?_
 refine onew (wn rfl) hr h nb (#[.slice va0_Funcs p0.Funcs.length vc0_Funcs, vI p2, vI p3.Frames, vI p3.First, vI p3.Most, .slice none 0 0, .slice none 0 0, .slice none 0 0, .slice none 0 0, .slice none 0 0, .slice va4 p4.length vc4, vI 0, vI 0, vI 0, vB false, vB false]) 57 fun b3 w a h hr => ?_
 refine o1 hr (pA b3 0) fun a hr => ?_
 refine ln ?_
 refine sr ?_
 refine oo [25, 26] [pA b3 0, vI p2] hr fun a hr => ?_
 replace h := h.row_nil (e := 2) (sz := 1) (enc := encZ_i64)
 replace h := h.rowN_nil (e := 117) (sz := 7) (own := own_T_plunderref11_Frame)
 replace h := h.row_nil (e := 115) (sz := 14) (enc := enc_T_plunderref11_Worker)
 replace h := h.row_nil (e := 190) (sz := 6) (enc := enc_T_api_Event)
 replace h := h.row_nil (e := 111) (sz := 6) (enc := enc_T_api_Access)
 obtain ⟨r4, e5, H⟩ := bd1 H
 replace h := h.m1.m2.m3.m4.m5
 have hc := plunderref11_World_top_ok (va0_P_Funcs := va0_Funcs) (vc0_P_Funcs := vc0_Funcs) (hv0_P_Funcs := (RdN.up 2 hv0_Funcs)) (va0_Draws := va4) (vc0_Draws := vc4) (hv0_Draws := (RdRow.up 2 hv4)) (hs0_P_Funcs := hs0_Funcs) (H := e5) (h := h)
 refine cl (wn rfl) hr hc ?_; clear hc h
 rintro _ w ⟨rfl, h⟩; refine ⟨_, rfl, fun a hr => ?_⟩
 refine o1 hr (vI r4) fun a hr => ?_
 refine ln ?_
 obtain ⟨o10, H, hK9⟩ := kd1 H
 refine cut_rule (β := Unit) (fun _ a w => ∃ ca6 : Option Addr, ∃ cc7 : Nat, ∃ l8 : List Int, l8 = o10 ∧ ∃ j, Rep 162 (lk [(1, .slice va1 p1.length vc1), (2, vI p2), (5, pA b1 0), (8, pA b2 0), (11, pA b3 0)] j) a ∧ Fit z (sepL (pts b1 (.cells #[.slice va0_Funcs p0.Funcs.length vc0_Funcs] 24) :: ob27 b2 p3 :: pts b3 (.cells #[.slice va0_Funcs p0.Funcs.length vc0_Funcs, vI p2, vI p3.Frames, vI p3.First, vI p3.Most, .slice ca6 l8.length cc7, .slice none 0 0, .slice none 0 0, .slice none 0 0, .slice none 0 0, .slice va4 p4.length vc4, vI 0, vI 0, vI 0, vB false, vB false] 57) :: ro2 ca6 cc7 l8 :: rowOf 2 1 encZ_i64 (.slice none 0 0) ([] : List Int) :: L)) w) ?_ ?_
 ·
  refine sr ?_
  refine o1 hr (vI 0) fun a hr => ?_
  refine ln ?_
  refine wp_block ?_
  replace h := h.m1
  have hn14 : 0 = ([] : List Int).length := h.row_n; replace h := Fit.ren1 hn14 (fun q_ => rowOf 2 1 encZ_i64 (.slice none q_ 0) ([] : List Int)) (fun q_ => pts b3 (.cells #[.slice va0_Funcs p0.Funcs.length vc0_Funcs, vI p2, vI p3.Frames, vI p3.First, vI p3.Most, .slice none q_ 0, .slice none q_ 0, .slice none q_ 0, .slice none q_ 0, .slice none q_ 0, .slice va4 p4.length vc4, vI 0, vI 0, vI 0, vB false, vB false] 57)) h
  replace h := h.row_nil (e := 2) (sz := 1) (enc := encZ_i64)
  refine loop_rule (β := Nat) id (fun m a w => ∃ ca11 : Option Addr, ∃ cc12 : Nat, ∃ l13 : List Int, ∃ g14 : Int, (plunderref11_New_l1 K r4 m l13 g14) = some o10 ∧ ∃ j, Rep 162 (lk [(1, .slice va1 p1.length vc1), (2, vI p2), (5, pA b1 0), (8, pA b2 0), (11, pA b3 0), (12, vI r4), (13, vI g14)] j) a ∧ Fit z (sepL (pts b1 (.cells #[.slice va0_Funcs p0.Funcs.length vc0_Funcs] 24) :: ob27 b2 p3 :: pts b3 (.cells #[.slice va0_Funcs p0.Funcs.length vc0_Funcs, vI p2, vI p3.Frames, vI p3.First, vI p3.Most, .slice ca11 l13.length cc12, .slice none 0 0, .slice none 0 0, .slice none 0 0, .slice none 0 0, .slice va4 p4.length vc4, vI 0, vI 0, vI 0, vB false, vB false] 57) :: ro2 ca11 cc12 l13 :: rowOf 2 1 encZ_i64 (.slice none 0 0) ([] : List Int) :: L)) w) K ⟨none, 0, ([] : List Int), 0, H, hr.fj (h.se 9 [8, 7, 2, 1, 0])⟩ ?_
  clear h hr a H; rintro k1 a w ⟨ca11, cc12, l13, g14, H, j, hr, h⟩
  cases k1 with
  | zero => exact absurd H (by simp [plunderref11_New_l1])
  | succ k1 =>
   rw [plunderref11_New_l1] at H
   refine wp_seq ?_
   refine sr ?_
   refine oo [28, 29, 30] [vI g14, vI r4, vB (decide (g14 < r4))] hr fun a hr => ?_
   refine ln ?_
   refine cD hr H (fun c16 H => ?_) fun c16 H => ?_
   ·
    refine wp_skip ?_
    refine then_normal ?_
    refine wp_seq ?_
    refine wp_block ?_
    refine wp_region_lit ?_
    refine oo [33, 34, 35, 36] [pA b3 0, pA b3 0, pA b3 0, pA b3 5] hr fun a hr => ?_
    refine ld (wn rfl) hr (.slice ca11 l13.length cc12) ((h.pick 2).cell 5 rfl) fun a hr => ?_
    refine onew (wn rfl) hr h (fun b => .slice (some ⟨b, 0, none⟩) 1 1) (#[vI 0]) 2 fun b17 w a h hr => ?_
    replace h := h.m4
    obtain ⟨c20, H⟩ := gd H
    refine op_append (n0 := l13.length) (c := 1) (bytes := 8) (wn rfl) rfl rfl hr rfl (by kernel_rfl) (by kernel_rfl) encZ_i64_ok (E := 2) (xs := l13) (by kernel_rfl) (by kernel_rfl) h (news := [0]) (m := 1) rfl ((h.pick 1).news rfl) c20 rfl fun ca18 cc19 w a h hr => ?_
    refine oo [40, 41] [pA b3 0, pA b3 5] hr fun a hr => ?_
    replace h := h.m4
    refine st1 (wn rfl) hr h 5 (.slice ca18 (l13 ++ [0]).length cc19) (pts b3 (.cells #[.slice va0_Funcs p0.Funcs.length vc0_Funcs, vI p2, vI p3.Frames, vI p3.First, vI p3.Most, .slice ca18 (l13 ++ [0]).length cc19, .slice none 0 0, .slice none 0 0, .slice none 0 0, .slice none 0 0, .slice va4 p4.length vc4, vI 0, vI 0, vI 0, vB false, vB false] 57)) fun w h => ?_
    refine wpList_nil ?_
    refine blk_normal ?_
    refine then_normal ?_
    refine wp_region_lit ?_
    refine oo [31, 32, 13] [vI g14, vI (wi (g14 + 1)), vI (wi (g14 + 1))] hr fun a hr => ?_
    refine ln ?_
    exact ⟨_, ⟨ca18, cc19, (l13 ++ [0]), (wi (g14 + 1)), H, hr.fj (h.se 6 [3, 4, 0, 1, 5])⟩, Nat.lt_succ_self _⟩
   ·
    refine wp_exit ?_
    refine then_exit ?_
    refine then_exit ?_
    refine blk_here ?_
    refine then_normal ?_
    exact ⟨(), ca11, cc12, l13, sinj H, hr.fj h⟩
 clear h hr a; rintro _ a w ⟨ca6, cc7, l8, rfl, j, hr, h⟩
 replace H := kk1 hK9
 refine sr ?_
 refine oo [42, 43, 44] [pA b3 0, pA b3 0, pA b3 5] hr fun a hr => ?_
 refine ld (wn rfl) hr (.slice ca6 l8.length cc7) ((h.pick 2).cell 5 rfl) fun a hr => ?_
 obtain ⟨c21, H⟩ := gd H
 refine opv (wn rfl) hr (pA (blk ca6) (1 * 1)) (ri_row (i := (1 : Int)) (k := .i64) (E := 2) rfl (by kernel_rfl) (by kernel_rfl) (by kernel_rfl) (by kernel_rfl) (h.pick 3) c21) fun a hr => ?_
 replace h := h.m3
 refine stor (wn rfl) hr encZ_i64_ok h 1 0 (vI 1) (at_ l8 1) 1 (at_ok c21) fun w h => ?_
 refine ln ?_
 obtain ⟨o32, H, hK31⟩ := kd1 H
 refine cut_rule (β := Unit) (fun _ a w => ∃ ca23 : Option Addr, ∃ cc24 : Nat, ∃ ca25 : Option Addr, ∃ cc26 : Nat, ∃ ca27 : Option Addr, ∃ cc28 : Nat, ∃ ca29 : Option Addr, ∃ cc30 : Nat, ∃ S22 : T_plunderref11_World, S22 = o32 ∧ ∃ j, Rep 162 (lk [(1, .slice va1 p1.length vc1), (2, vI p2), (5, pA b1 0), (8, pA b2 0), (11, pA b3 0)] j) a ∧ Fit z (sepL (pts b1 (.cells #[.slice va0_Funcs p0.Funcs.length vc0_Funcs] 24) :: ob27 b2 p3 :: ob57 b3 S22 (.slice va0_Funcs p0.Funcs.length vc0_Funcs) ca6 cc7 ca23 cc24 ca25 cc26 ca27 cc28 ca29 cc30 (.slice va4 p4.length vc4) :: ro2 ca6 cc7 S22.Cells :: rn117 ca23 cc24 S22.Frames :: ro115 ca25 cc26 S22.Workers :: ro190 ca27 cc28 S22.Events :: ro111 ca29 cc30 S22.Log :: L)) w) ?_ ?_
 ·
  refine sr ?_
  refine o1 hr (vI 0) fun a hr => ?_
  refine ln ?_
  refine wp_block ?_
  replace h := h.m3.m1
  have hn42 : l8.length = (l8.set 1 1).length := h.row_n; replace h := Fit.ren1 hn42 (fun q_ => rowOf 2 1 encZ_i64 (.slice ca6 q_ cc7) (l8.set 1 1)) (fun q_ => pts b3 (.cells #[.slice va0_Funcs p0.Funcs.length vc0_Funcs, vI p2, vI p3.Frames, vI p3.First, vI p3.Most, .slice ca6 q_ cc7, .slice none 0 0, .slice none 0 0, .slice none 0 0, .slice none 0 0, .slice va4 p4.length vc4, vI 0, vI 0, vI 0, vB false, vB false] 57)) h
  replace h := h.m1.m4
  have hn43 : 0 = ([] : List Int).length := h.row_n; replace h := Fit.ren1 hn43 (fun q_ => rowOf 2 1 encZ_i64 (.slice none q_ 0) ([] : List Int)) (fun q_ => pts b3 (.cells #[.slice va0_Funcs p0.Funcs.length vc0_Funcs, vI p2, vI p3.Frames, vI p3.First, vI p3.Most, .slice ca6 (l8.set 1 1).length cc7, .slice none q_ 0, .slice none q_ 0, .slice none q_ 0, .slice none q_ 0, .slice va4 p4.length vc4, vI 0, vI 0, vI 0, vB false, vB false] 57)) h
  replace h := h.rowN_nil (e := 117) (sz := 7) (own := own_T_plunderref11_Frame)
  replace h := h.row_nil (e := 115) (sz := 14) (enc := enc_T_plunderref11_Worker)
  replace h := h.row_nil (e := 190) (sz := 6) (enc := enc_T_api_Event)
  replace h := h.row_nil (e := 111) (sz := 6) (enc := enc_T_api_Access)
  refine loop_rule (β := Nat) id (fun m a w => ∃ ca34 : Option Addr, ∃ cc35 : Nat, ∃ ca36 : Option Addr, ∃ cc37 : Nat, ∃ ca38 : Option Addr, ∃ cc39 : Nat, ∃ ca40 : Option Addr, ∃ cc41 : Nat, ∃ S33 : T_plunderref11_World, ∃ g42 : Int, (plunderref11_New_l2 K p0 p3 p4 m S33 g42) = some o32 ∧ ∃ j, Rep 162 (lk [(1, .slice va1 p1.length vc1), (2, vI p2), (5, pA b1 0), (8, pA b2 0), (11, pA b3 0), (14, vI g42)] j) a ∧ Fit z (sepL (pts b1 (.cells #[.slice va0_Funcs p0.Funcs.length vc0_Funcs] 24) :: ob27 b2 p3 :: ob57 b3 S33 (.slice va0_Funcs p0.Funcs.length vc0_Funcs) ca6 cc7 ca34 cc35 ca36 cc37 ca38 cc39 ca40 cc41 (.slice va4 p4.length vc4) :: ro2 ca6 cc7 S33.Cells :: rn117 ca34 cc35 S33.Frames :: ro115 ca36 cc37 S33.Workers :: ro190 ca38 cc39 S33.Events :: ro111 ca40 cc41 S33.Log :: L)) w) K ⟨none, 0, none, 0, none, 0, none, 0, (⟨p2, p3.Frames, p3.First, p3.Most, l8.set 1 1, ([] : List T_plunderref11_Frame), ([] : List T_plunderref11_Worker), ([] : List T_api_Event), ([] : List T_api_Access), 0, 0, 0, false, false⟩ : T_plunderref11_World), 0, H, hr.fj (h.se 9 [7, 8, 5, 6, 3, 2, 1, 0])⟩ ?_
  clear h hr a H; rintro k2 a w ⟨ca34, cc35, ca36, cc37, ca38, cc39, ca40, cc41, S33, g42, H, j, hr, h⟩
  cases k2 with
  | zero => exact absurd H (by simp [plunderref11_New_l2])
  | succ k2 =>
   rw [plunderref11_New_l2] at H
   refine wp_seq ?_
   refine sr ?_
   refine oo [47, 48] [vI g42, pA b2 0] hr fun a hr => ?_
   refine ld (wn rfl) hr (vI p3.Frames) ((h.pick 1).cell 0 rfl) fun a hr => ?_
   refine o1 hr (vB (decide (g42 < p3.Frames))) fun a hr => ?_
   refine ln ?_
   refine cD hr H (fun c45 H => ?_) fun c45 H => ?_
   ·
    refine wp_skip ?_
    refine then_normal ?_
    refine wp_seq ?_
    refine wp_block ?_
    obtain ⟨r46, e47, H⟩ := bd1 H
    obtain ⟨c48, H⟩ := gd H
    refine regL [(b3, 5, [.slice ca6 S33.Cells.length cc7])] [1, 2, 6] 9 h (fun h => ⟨⟨(h.pick 2).cell 5 rfl, trivial⟩, trivial⟩) fun w h hd => ?_
    refine evs' hd 4 [(0, 53, pA b3 0), (1, 54, pA b3 0), (2, 55, pA b3 5), (4, 57, pA b3 0), (5, 58, vI g42)] hr fun a hr => ?_
    refine elx hd 0 3 3 hr (wn rfl) rfl rfl fun a hr => ?_
    refine eo1 6 rfl ?_
    replace h := h.m7.m7.m7.m7.m7.m7
    have hc := plunderref11_World_join_ok (va0_P_Funcs := va0_Funcs) (vc0_P_Funcs := vc0_Funcs) (hv0_P_Funcs := (RdN.up 2 hv0_Funcs)) (va0_Draws := va4) (vc0_Draws := vc4) (hv0_Draws := (RdRow.up 2 hv4)) (hs0_P_Funcs := hs0_Funcs) (H := e47) (h := h)
    refine cl (wn rfl) hr hc ?_; clear hc h
    rintro _ w ⟨rfl, h⟩; refine ⟨_, rfl, fun a hr => ?_⟩
    refine ln ?_
    refine eE ⟨⟨h.cell 5 rfl, trivial⟩, trivial⟩ fun hd => ?_
    refine eon hd 1 7 rfl (wn rfl) hr (pA (blk ca6) (r46.toNat * 1)) (hrun := fun w => ri_row (k := .i64) (E := 2) rfl (by kernel_rfl) (by kernel_rfl) (by kernel_rfl) (by kernel_rfl) (h.pick 1) c48) fun a hr => ?_
    refine eo1 8 rfl ?_
    replace h := h.m1
    refine stor (wn rfl) hr encZ_i64_ok h r46.toNat 0 (vI 1) (at_ S33.Cells r46.toNat) 1 (at_ok c48) fun w h => ?_
    refine ln ?_
    refine xE ?_
    refine een ?_
    refine blk_normal ?_
    refine then_normal ?_
    refine wp_region_lit ?_
    refine oo [51, 52, 14] [vI g42, vI (wi (g42 + 1)), vI (wi (g42 + 1))] hr fun a hr => ?_
    refine ln ?_
    have hn48 : S33.Cells.length = (S33.Cells.set r46.toNat 1).length := h.row_n; replace h := Fit.ren1 hn48 (fun q_ => rowOf 2 1 encZ_i64 (.slice ca6 q_ cc7) (S33.Cells.set r46.toNat 1)) (fun q_ => pts b3 (.cells #[.slice va0_Funcs p0.Funcs.length vc0_Funcs, vI S33.N, vI S33.Lim_Frames, vI S33.Lim_First, vI S33.Lim_Most, .slice ca6 q_ cc7, .slice ca34 S33.Frames.length cc35, .slice ca36 S33.Workers.length cc37, .slice ca38 S33.Events.length cc39, .slice ca40 S33.Log.length cc41, .slice va4 p4.length vc4, vI S33.Drawn, vI S33.At, vI S33.Value, vB S33.HasV, vB S33.Capped] 57)) h
    exact ⟨_, ⟨ca34, cc35, ca36, cc37, ca38, cc39, ca40, cc41, ({ S33 with Cells := S33.Cells.set r46.toNat 1 }), (wi (g42 + 1)), H, hr.fj (h.se 8 [6, 7, 1, 0, 2, 3, 4, 5])⟩, Nat.lt_succ_self _⟩
   ·
    refine wp_exit ?_
    refine then_exit ?_
    refine then_exit ?_
    refine blk_here ?_
    refine then_normal ?_
    exact ⟨(), ca34, cc35, ca36, cc37, ca38, cc39, ca40, cc41, S33, sinj H, hr.fj h⟩
 clear h hr a; rintro _ a w ⟨ca23, cc24, ca25, cc26, ca27, cc28, ca29, cc30, S22, rfl, j, hr, h⟩
 replace H := kk1 hK31
 obtain ⟨o54, H, hK53⟩ := kd1 H
 refine cut_rule (β := Unit) (fun _ a w => ∃ ca51 : Option Addr, ∃ cc52 : Nat, ∃ S50 : T_plunderref11_World, S50 = o54 ∧ ∃ j, Rep 162 (lk [(1, .slice va1 p1.length vc1), (2, vI p2), (5, pA b1 0), (11, pA b3 0)] j) a ∧ Fit z (sepL (pts b1 (.cells #[.slice va0_Funcs p0.Funcs.length vc0_Funcs] 24) :: ob57 b3 S50 (.slice va0_Funcs p0.Funcs.length vc0_Funcs) ca6 cc7 ca23 cc24 ca51 cc52 ca27 cc28 ca29 cc30 (.slice va4 p4.length vc4) :: ro2 ca6 cc7 S50.Cells :: rn117 ca23 cc24 S50.Frames :: ro115 ca51 cc52 S50.Workers :: ro190 ca27 cc28 S50.Events :: ro111 ca29 cc30 S50.Log :: L)) w) ?_ ?_
 ·
  refine sr ?_
  refine o1 hr (vI 0) fun a hr => ?_
  refine ln ?_
  refine wp_block ?_
  refine loop_rule (β := Nat) id (fun m a w => ∃ ca56 : Option Addr, ∃ cc57 : Nat, ∃ S55 : T_plunderref11_World, ∃ g58 : Int, (plunderref11_New_l3 K p0 p2 p3 p4 m S55 g58) = some o54 ∧ ∃ j, Rep 162 (lk [(1, .slice va1 p1.length vc1), (2, vI p2), (5, pA b1 0), (8, pA b2 0), (11, pA b3 0), (15, vI g58)] j) a ∧ Fit z (sepL (pts b1 (.cells #[.slice va0_Funcs p0.Funcs.length vc0_Funcs] 24) :: ob27 b2 p3 :: ob57 b3 S55 (.slice va0_Funcs p0.Funcs.length vc0_Funcs) ca6 cc7 ca23 cc24 ca56 cc57 ca27 cc28 ca29 cc30 (.slice va4 p4.length vc4) :: ro2 ca6 cc7 S55.Cells :: rn117 ca23 cc24 S55.Frames :: ro115 ca56 cc57 S55.Workers :: ro190 ca27 cc28 S55.Events :: ro111 ca29 cc30 S55.Log :: L)) w) K ⟨ca25, cc26, S22, 0, H, hr.fj h⟩ ?_
  clear h hr a H; rintro k3 a w ⟨ca56, cc57, S55, g58, H, j, hr, h⟩
  cases k3 with
  | zero => exact absurd H (by simp [plunderref11_New_l3])
  | succ k3 =>
   rw [plunderref11_New_l3] at H
   refine wp_seq ?_
   refine sr ?_
   refine oo [61, 62, 63] [vI g58, vI p2, vB (decide (g58 < p2))] hr fun a hr => ?_
   refine ln ?_
   refine cD hr H (fun c59 H => ?_) fun c59 H => ?_
   ·
    refine wp_skip ?_
    refine then_normal ?_
    refine wp_seq ?_
    refine wp_block ?_
    refine wp_seq ?_
    obtain ⟨r60, e61, H⟩ := bd1 H
    obtain ⟨r62, e63, H⟩ := bd1 H
    obtain ⟨c64, H⟩ := gd H
    refine regL [(b3, 5, [.slice ca6 S55.Cells.length cc7])] [1, 2, 6, 9, 10] 13 h (fun h => ⟨⟨(h.pick 2).cell 5 rfl, trivial⟩, trivial⟩) fun w h hd => ?_
    refine evs' hd 6 [(0, 66, pA b3 0), (1, 67, pA b3 0), (2, 68, pA b3 5), (4, 70, pA b3 0), (5, 71, vI g58), (7, 73, pA b3 0), (8, 74, vI g58)] hr fun a hr => ?_
    refine elx hd 0 5 3 hr (wn rfl) rfl rfl fun a hr => ?_
    refine eo1 6 rfl ?_
    replace h := h.m7.m7.m7.m7.m7.m7
    have hc := plunderref11_World_buf_ok (va0_P_Funcs := va0_Funcs) (vc0_P_Funcs := vc0_Funcs) (hv0_P_Funcs := (RdN.up 2 hv0_Funcs)) (va0_Draws := va4) (vc0_Draws := vc4) (hv0_Draws := (RdRow.up 2 hv4)) (hs0_P_Funcs := hs0_Funcs) (H := e61) (h := h)
    refine cl (wn rfl) hr hc ?_; clear hc h
    rintro _ w ⟨rfl, h⟩; refine ⟨_, rfl, fun a hr => ?_⟩
    refine ln ?_
    refine eE ⟨⟨h.cell 5 rfl, trivial⟩, trivial⟩ fun hd => ?_
    refine eo1 9 rfl ?_
    have hc := plunderref11_World_top_ok (va0_P_Funcs := va0_Funcs) (vc0_P_Funcs := vc0_Funcs) (hv0_P_Funcs := (RdN.up 2 hv0_Funcs)) (va0_Draws := va4) (vc0_Draws := vc4) (hv0_Draws := (RdRow.up 2 hv4)) (hs0_P_Funcs := hs0_Funcs) (H := e63) (h := h)
    refine cl (wn rfl) hr hc ?_; clear hc h
    rintro _ w ⟨rfl, h⟩; refine ⟨_, rfl, fun a hr => ?_⟩
    refine ln ?_
    refine eE ⟨⟨h.cell 5 rfl, trivial⟩, trivial⟩ fun hd => ?_
    refine evs' hd 2 [(10, 76, vI (wi (r62 + 3)))] hr fun a hr => ?_
    refine eon hd 1 11 rfl (wn rfl) hr (pA (blk ca6) (r60.toNat * 1)) (hrun := fun w => ri_row (k := .i64) (E := 2) rfl (by kernel_rfl) (by kernel_rfl) (by kernel_rfl) (by kernel_rfl) (h.pick 1) c64) fun a hr => ?_
    refine eo1 12 rfl ?_
    replace h := h.m1
    refine stor (wn rfl) hr encZ_i64_ok h r60.toNat 0 (vI (wi (r62 + 3))) (at_ S55.Cells r60.toNat) (wi (r62 + 3)) (at_ok c64) fun w h => ?_
    refine ln ?_
    refine xE ?_
    refine een ?_
    refine then_normal ?_
    refine wp_seq ?_
    have hn64 : S55.Cells.length = (S55.Cells.set r60.toNat (wi (r62 + 3))).length := h.row_n; replace h := Fit.ren1 hn64 (fun q_ => rowOf 2 1 encZ_i64 (.slice ca6 q_ cc7) (S55.Cells.set r60.toNat (wi (r62 + 3)))) (fun q_ => pts b3 (.cells #[.slice va0_Funcs p0.Funcs.length vc0_Funcs, vI S55.N, vI S55.Lim_Frames, vI S55.Lim_First, vI S55.Lim_Most, .slice ca6 q_ cc7, .slice ca23 S55.Frames.length cc24, .slice ca56 S55.Workers.length cc57, .slice ca27 S55.Events.length cc28, .slice ca29 S55.Log.length cc30, .slice va4 p4.length vc4, vI S55.Drawn, vI S55.At, vI S55.Value, vB S55.HasV, vB S55.Capped] 57)) h
    replace hr := hr.re 69 (congrArg (fun q_ => Value.slice ca6 q_ cc7) hn64)
    obtain ⟨r66, e67, H⟩ := bd1 H
    obtain ⟨c68, H⟩ := gd H
    refine regL [(b3, 5, [.slice ca6 (S55.Cells.set r60.toNat (wi (r62 + 3))).length cc7]), (b2, 1, [vI p3.First])] [1, 2, 6, 7, 8] 12 h (fun h => ⟨⟨(h.pick 1).cell 5 rfl, trivial⟩, ⟨(h.pick 7).cell 1 rfl, trivial⟩, trivial⟩) fun w h hd => ?_
    refine evs' hd 6 [(0, 78, pA b3 0), (1, 79, pA b3 0), (2, 80, pA b3 5), (4, 82, pA b3 0), (5, 83, vI g58), (8, 86, pA b2 1)] hr fun a hr => ?_
    refine elx hd 0 5 3 hr (wn rfl) rfl rfl fun a hr => ?_
    refine elx hd 1 4 9 hr (wn rfl) rfl rfl fun a hr => ?_
    refine eo1 6 rfl ?_
    replace h := h.m5.m5.m5.m5.m4.m5
    have hc := plunderref11_World_top_ok (va0_P_Funcs := va0_Funcs) (vc0_P_Funcs := vc0_Funcs) (hv0_P_Funcs := (RdN.up 2 hv0_Funcs)) (va0_Draws := va4) (vc0_Draws := vc4) (hv0_Draws := (RdRow.up 2 hv4)) (hs0_P_Funcs := hs0_Funcs) (H := e67) (h := h)
    refine cl (wn rfl) hr hc ?_; clear hc h
    rintro _ w ⟨rfl, h⟩; refine ⟨_, rfl, fun a hr => ?_⟩
    refine ln ?_
    refine eE ⟨⟨h.cell 5 rfl, trivial⟩, ⟨(h.pick 7).cell 1 rfl, trivial⟩, trivial⟩ fun hd => ?_
    refine evs' hd 2 [(7, 85, vI (wi (r66 + 3)))] hr fun a hr => ?_
    refine eon hd 1 10 rfl (wn rfl) hr (pA (blk ca6) ((wi (r66 + 3)).toNat * 1)) (hrun := fun w => ri_row (k := .i64) (E := 2) rfl (by kernel_rfl) (by kernel_rfl) (by kernel_rfl) (by kernel_rfl) (h.pick 1) c68) fun a hr => ?_
    refine eo1 11 rfl ?_
    replace h := h.m1
    refine stor (wn rfl) hr encZ_i64_ok h (wi (r66 + 3)).toNat 0 (vI p3.First) (at_ (S55.Cells.set r60.toNat (wi (r62 + 3))) (wi (r66 + 3)).toNat) p3.First (at_ok c68) fun w h => ?_
    refine ln ?_
    refine xE ?_
    refine een ?_
    refine then_normal ?_
    refine wp_region_lit ?_
    refine oo [89, 90, 91, 92] [pA b3 0, pA b3 0, pA b3 0, pA b3 7] hr fun a hr => ?_
    refine ld (wn rfl) hr (.slice ca56 S55.Workers.length cc57) ((h.pick 1).cell 7 rfl) fun a hr => ?_
    refine oo [94, 95] [.agg #[vI 38, vI 0, vI 0, vI 0], .agg #[vI 38, vI 0, vI 0, vI 0, vI (-1), vI 0, vI 0, vI 0, vI 0, vI 0, vI 0, vI 0, vI 0, vI 0]] hr fun a hr => ?_
    refine onew (wn rfl) hr h (fun b => .slice (some ⟨b, 0, none⟩) 1 1) (#[vI 38, vI 0, vI 0, vI 0, vI (-1), vI 0, vI 0, vI 0, vI 0, vI 0, vI 0, vI 0, vI 0, vI 0]) 115 fun b69 w a h hr => ?_
    replace h := h.m4
    obtain ⟨c72, H⟩ := gd H
    refine op_append (n0 := S55.Workers.length) (c := 1) (bytes := 112) (wn rfl) rfl rfl hr rfl (by kernel_rfl) (by kernel_rfl) enc_T_plunderref11_Worker_ok (E := 115) (xs := S55.Workers) (by kernel_rfl) (by kernel_rfl) h (news := [(⟨38, 0, 0, 0, -1, 0, 0, 0, 0, 0, 0, 0, 0, 0⟩ : T_plunderref11_Worker)]) (m := 1) rfl ((h.pick 1).news rfl) c72 rfl fun ca70 cc71 w a h hr => ?_
    refine oo [98, 99] [pA b3 0, pA b3 7] hr fun a hr => ?_
    replace h := h.m3
    refine st1 (wn rfl) hr h 7 (.slice ca70 (S55.Workers ++ [(⟨38, 0, 0, 0, -1, 0, 0, 0, 0, 0, 0, 0, 0, 0⟩ : T_plunderref11_Worker)]).length cc71) (pts b3 (.cells #[.slice va0_Funcs p0.Funcs.length vc0_Funcs, vI S55.N, vI S55.Lim_Frames, vI S55.Lim_First, vI S55.Lim_Most, .slice ca6 (S55.Cells.set r60.toNat (wi (r62 + 3))).length cc7, .slice ca23 S55.Frames.length cc24, .slice ca70 (S55.Workers ++ [(⟨38, 0, 0, 0, -1, 0, 0, 0, 0, 0, 0, 0, 0, 0⟩ : T_plunderref11_Worker)]).length cc71, .slice ca27 S55.Events.length cc28, .slice ca29 S55.Log.length cc30, .slice va4 p4.length vc4, vI S55.Drawn, vI S55.At, vI S55.Value, vB S55.HasV, vB S55.Capped] 57)) fun w h => ?_
    refine wpList_nil ?_
    refine blk_normal ?_
    refine then_normal ?_
    refine wp_region_lit ?_
    refine oo [64, 65, 15] [vI g58, vI (wi (g58 + 1)), vI (wi (g58 + 1))] hr fun a hr => ?_
    refine ln ?_
    replace h := h.m3
    have hn72 : (S55.Cells.set r60.toNat (wi (r62 + 3))).length = ((S55.Cells.set r60.toNat (wi (r62 + 3))).set (wi (r66 + 3)).toNat p3.First).length := h.row_n; replace h := Fit.ren1 hn72 (fun q_ => rowOf 2 1 encZ_i64 (.slice ca6 q_ cc7) ((S55.Cells.set r60.toNat (wi (r62 + 3))).set (wi (r66 + 3)).toNat p3.First)) (fun q_ => pts b3 (.cells #[.slice va0_Funcs p0.Funcs.length vc0_Funcs, vI S55.N, vI S55.Lim_Frames, vI S55.Lim_First, vI S55.Lim_Most, .slice ca6 q_ cc7, .slice ca23 S55.Frames.length cc24, .slice ca70 (S55.Workers ++ [(⟨38, 0, 0, 0, -1, 0, 0, 0, 0, 0, 0, 0, 0, 0⟩ : T_plunderref11_Worker)]).length cc71, .slice ca27 S55.Events.length cc28, .slice ca29 S55.Log.length cc30, .slice va4 p4.length vc4, vI S55.Drawn, vI S55.At, vI S55.Value, vB S55.HasV, vB S55.Capped] 57)) h
    exact ⟨_, ⟨ca70, cc71, ({ S55 with Cells := (S55.Cells.set r60.toNat (wi (r62 + 3))).set (wi (r66 + 3)).toNat p3.First, Workers := S55.Workers ++ [(⟨38, 0, 0, 0, -1, 0, 0, 0, 0, 0, 0, 0, 0, 0⟩ : T_plunderref11_Worker)] }), (wi (g58 + 1)), H, hr.fj (h.se 9 [7, 8, 1, 0, 4, 2, 5, 6])⟩, Nat.lt_succ_self _⟩
   ·
    refine wp_exit ?_
    refine then_exit ?_
    refine then_exit ?_
    refine blk_here ?_
    refine then_normal ?_
    exact ⟨(), ca56, cc57, S55, sinj H, hr.fj (h.se 8 [0, 2, 3, 4, 5, 6, 7])⟩
 clear h hr a; rintro _ a w ⟨ca51, cc52, S50, rfl, j, hr, h⟩
 replace H := kk1 hK53
 refine sr ?_
 refine oo [100, 101, 102] [pA b3 0, pA b3 0, pA b3 7] hr fun a hr => ?_
 refine ld (wn rfl) hr (.slice ca51 S50.Workers.length cc52) ((h.pick 1).cell 7 rfl) fun a hr => ?_
 obtain ⟨c74, H⟩ := gd H
 refine opv (wn rfl) hr (pA (blk ca51) (0 * 14)) (ri_row (i := (0 : Int)) (k := .i64) (E := 115) rfl (by kernel_rfl) (by kernel_rfl) (by kernel_rfl) (by kernel_rfl) (h.pick 4) c74) fun a hr => ?_
 refine o1 hr (pA (blk ca51) (0 * 14 + 4)) fun a hr => ?_
 replace h := h.m4
 refine stor (wn rfl) hr enc_T_plunderref11_Worker_ok h 0 4 (vI 0) (at_ S50.Workers 0) ({ at_ S50.Workers 0 with Frame := 0 }) (at_ok c74) fun w h => ?_
 refine ln ?_
 refine sr ?_
 refine oo [106, 107, 108] [pA b3 0, pA b3 0, pA b3 7] hr fun a hr => ?_
 refine ld (wn rfl) hr (.slice ca51 S50.Workers.length cc52) ((h.pick 2).cell 7 rfl) fun a hr => ?_
 obtain ⟨c75, H⟩ := gd H
 refine o1 hr (.agg #[vI 2, vI 0, vI (-1), vI 0]) fun a hr => ?_
 refine opv (wn rfl) hr (pA (blk ca51) (0 * 14)) (ri_row (i := (0 : Int)) (k := .i64) (E := 115) rfl (by kernel_rfl) (by kernel_rfl) (by kernel_rfl) (by kernel_rfl) h c75) fun a hr => ?_
 refine o1 hr (pA (blk ca51) (0 * 14)) fun a hr => ?_
 refine op_stores_part (vs := [vI 2, vI 0, vI (-1), vI 0]) (f := 0) (i := 0) (wn rfl) rfl hr rfl (by kernel_rfl) (by kernel_rfl) rfl (by kernel_rfl) enc_T_plunderref11_Worker_ok h (p := { at_ S50.Workers 0 with Frame := 0 }) (q := ({ { at_ S50.Workers 0 with Frame := 0 } with Now_K := 2, Now_A := 0, Now_B := -1, Now_C := 0 })) (get_set ((by simpa [inr_] using c75))) (by decide) rfl fun w h => ?_
 refine ln ?_
 obtain ⟨o78, H, hK77⟩ := kd1 H
 refine cut_rule (β := Unit) (fun _ a w => ∃ l76 : List T_plunderref11_Worker, l76 = o78 ∧ ∃ j, Rep 162 (lk [(1, .slice va1 p1.length vc1), (5, pA b1 0), (11, pA b3 0)] j) a ∧ Fit z (sepL (pts b1 (.cells #[.slice va0_Funcs p0.Funcs.length vc0_Funcs] 24) :: ob57 b3 S50 (.slice va0_Funcs p0.Funcs.length vc0_Funcs) ca6 cc7 ca23 cc24 ca51 cc52 ca27 cc28 ca29 cc30 (.slice va4 p4.length vc4) :: ro2 ca6 cc7 S50.Cells :: rn117 ca23 cc24 S50.Frames :: rowOf 115 14 enc_T_plunderref11_Worker (.slice ca51 S50.Workers.length cc52) l76 :: ro190 ca27 cc28 S50.Events :: ro111 ca29 cc30 S50.Log :: L)) w) ?_ ?_
 ·
  refine sr ?_
  refine oo [113, 114] [vI p2, vB (p2 == 1)] hr fun a hr => ?_
  refine ln ?_
  refine cD hr H (fun c79 H => ?_) fun c79 H => ?_
  ·
   refine wp_region_lit ?_
   refine oo [115, 116, 117] [pA b3 0, pA b3 0, pA b3 7] hr fun a hr => ?_
   refine ld (wn rfl) hr (.slice ca51 S50.Workers.length cc52) ((h.pick 2).cell 7 rfl) fun a hr => ?_
   obtain ⟨c80, H⟩ := gd H
   refine o1 hr (.agg #[vI 2, vI 0, vI (-1), vI 0]) fun a hr => ?_
   refine opv (wn rfl) hr (pA (blk ca51) (0 * 14)) (ri_row (i := (0 : Int)) (k := .i64) (E := 115) rfl (by kernel_rfl) (by kernel_rfl) (by kernel_rfl) (by kernel_rfl) h c80) fun a hr => ?_
   refine o1 hr (pA (blk ca51) (0 * 14)) fun a hr => ?_
   refine op_stores_part (vs := [vI 2, vI 0, vI (-1), vI 0]) (f := 0) (i := 0) (wn rfl) rfl hr rfl (by kernel_rfl) (by kernel_rfl) rfl (by kernel_rfl) enc_T_plunderref11_Worker_ok h (p := { { at_ S50.Workers 0 with Frame := 0 } with Now_K := 2, Now_A := 0, Now_B := -1, Now_C := 0 }) (q := ({ { { at_ S50.Workers 0 with Frame := 0 } with Now_K := 2, Now_A := 0, Now_B := -1, Now_C := 0 } with Now_K := 2, Now_A := 0, Now_B := -1, Now_C := 0 })) (get_set ((by simpa [inr_] using c80))) (by decide) rfl fun w h => ?_
   refine ln ?_
   exact ⟨(), (((S50.Workers.set 0 ({ at_ S50.Workers 0 with Frame := 0 })).set 0 ({ { at_ S50.Workers 0 with Frame := 0 } with Now_K := 2, Now_A := 0, Now_B := -1, Now_C := 0 })).set 0 ({ { { at_ S50.Workers 0 with Frame := 0 } with Now_K := 2, Now_A := 0, Now_B := -1, Now_C := 0 } with Now_K := 2, Now_A := 0, Now_B := -1, Now_C := 0 })), sinj H, hr.fj (h.se 7 [1, 2, 3, 4, 0, 5, 6])⟩
  ·
   refine wp_skip ?_
   refine then_normal ?_
   exact ⟨(), ((S50.Workers.set 0 ({ at_ S50.Workers 0 with Frame := 0 })).set 0 ({ { at_ S50.Workers 0 with Frame := 0 } with Now_K := 2, Now_A := 0, Now_B := -1, Now_C := 0 })), sinj H, hr.fj (h.se 7 [1, 2, 3, 4, 0, 5, 6])⟩
 clear h hr a; rintro _ a w ⟨l76, rfl, j, hr, h⟩
 replace H := kk1 hK77
 refine sr ?_
 refine o1 hr (.agg #[vI 0, vI 0, vI (-1), vI 0, vI 0, vI 1, .slice none 0 0]) fun a hr => ?_
 refine onew (wn rfl) hr h nb (#[vI 0, vI 0, vI 0, vI 0, vI 0, vI 0, .slice none 0 0]) 117 fun b81 w a h hr => ?_
 refine stm (wn rfl) hr h 0 ([vI 0, vI 0, vI (-1), vI 0, vI 0, vI 1, .slice none 0 0]) (pts b81 (.cells #[vI 0, vI 0, vI (-1), vI 0, vI 0, vI 1, .slice none 0 0] 117)) fun w h => ?_
 refine ln ?_
 obtain ⟨o86, H, hK85⟩ := kd1 H
 refine cut_rule (β := Unit) (fun _ a w => ∃ ca82 : Option Addr, ∃ cc83 : Nat, ∃ l84 : List Int, l84 = o86 ∧ ∃ j, Rep 162 (lk [(1, .slice va1 p1.length vc1), (11, pA b3 0), (16, pA b81 0)] j) a ∧ Fit z (sepL (ob57 b3 S50 (.slice va0_Funcs p0.Funcs.length vc0_Funcs) ca6 cc7 ca23 cc24 ca51 cc52 ca27 cc28 ca29 cc30 (.slice va4 p4.length vc4) :: ro2 ca6 cc7 S50.Cells :: rn117 ca23 cc24 S50.Frames :: rowOf 115 14 enc_T_plunderref11_Worker (.slice ca51 S50.Workers.length cc52) l76 :: ro190 ca27 cc28 S50.Events :: ro111 ca29 cc30 S50.Log :: pts b81 (.cells #[vI 0, vI 0, vI (-1), vI 0, vI 0, vI 1, .slice ca82 l84.length cc83] 117) :: ro2 ca82 cc83 l84 :: L)) w) ?_ ?_
 ·
  refine sr ?_
  refine o1 hr (vI 0) fun a hr => ?_
  refine ln ?_
  refine wp_block ?_
  replace h := h.row_nil (e := 2) (sz := 1) (enc := encZ_i64)
  refine loop_rule (β := Nat) id (fun m a w => ∃ ca87 : Option Addr, ∃ cc88 : Nat, ∃ l89 : List Int, ∃ g90 : Int, (plunderref11_New_l4 K p0 m l89 g90) = some o86 ∧ ∃ j, Rep 162 (lk [(1, .slice va1 p1.length vc1), (5, pA b1 0), (11, pA b3 0), (16, pA b81 0), (17, vI g90)] j) a ∧ Fit z (sepL (pts b1 (.cells #[.slice va0_Funcs p0.Funcs.length vc0_Funcs] 24) :: ob57 b3 S50 (.slice va0_Funcs p0.Funcs.length vc0_Funcs) ca6 cc7 ca23 cc24 ca51 cc52 ca27 cc28 ca29 cc30 (.slice va4 p4.length vc4) :: ro2 ca6 cc7 S50.Cells :: rn117 ca23 cc24 S50.Frames :: rowOf 115 14 enc_T_plunderref11_Worker (.slice ca51 S50.Workers.length cc52) l76 :: ro190 ca27 cc28 S50.Events :: ro111 ca29 cc30 S50.Log :: pts b81 (.cells #[vI 0, vI 0, vI (-1), vI 0, vI 0, vI 1, .slice ca87 l89.length cc88] 117) :: ro2 ca87 cc88 l89 :: L)) w) K ⟨none, 0, ([] : List Int), 0, H, hr.fj (h.se 9 [2, 3, 4, 5, 6, 7, 8, 1, 0])⟩ ?_
  clear h hr a H; rintro k4 a w ⟨ca87, cc88, l89, g90, H, j, hr, h⟩
  cases k4 with
  | zero => exact absurd H (by simp [plunderref11_New_l4])
  | succ k4 =>
   rw [plunderref11_New_l4] at H
   refine wp_seq ?_
   refine sr ?_
   refine oo [123, 124] [vI g90, pA b1 0] hr fun a hr => ?_
   refine ld (wn rfl) hr (.slice va0_Funcs p0.Funcs.length vc0_Funcs) (h.cell 0 rfl) fun a hr => ?_
   obtain ⟨c91, H⟩ := gd H
   refine opv (wn rfl) hr (pA (blk va0_Funcs) (offs va0_Funcs + 0 * 4)) (ri_rn (k := .i64) (E := 76) (cc := vc0_Funcs) rfl (by kernel_rfl) (by kernel_rfl) rfl (by kernel_rfl) (by kernel_rfl) hv0_Funcs c91) fun a hr => ?_
   refine o1 hr (pA (blk va0_Funcs) (offs va0_Funcs + 0 * 4 + 1)) fun a hr => ?_
   refine ld (wn rfl) hr (vI (at_ p0.Funcs 0).Regs) (hv0_Funcs.cell c91 (h.dn 9) 1 rfl) fun a hr => ?_
   refine o1 hr (vB (decide (g90 < (at_ p0.Funcs 0).Regs))) fun a hr => ?_
   refine ln ?_
   refine cD hr H (fun c92 H => ?_) fun c92 H => ?_
   ·
    refine wp_skip ?_
    refine then_normal ?_
    refine wp_seq ?_
    refine wp_block ?_
    refine wp_region_lit ?_
    refine o1 hr (pA b81 6) fun a hr => ?_
    refine ld (wn rfl) hr (.slice ca87 l89.length cc88) ((h.pick 7).cell 6 rfl) fun a hr => ?_
    refine onew (wn rfl) hr h (fun b => .slice (some ⟨b, 0, none⟩) 1 1) (#[vI 0]) 2 fun b93 w a h hr => ?_
    replace h := h.m9
    obtain ⟨c96, H⟩ := gd H
    refine op_append (n0 := l89.length) (c := 1) (bytes := 8) (wn rfl) rfl rfl hr rfl (by kernel_rfl) (by kernel_rfl) encZ_i64_ok (E := 2) (xs := l89) (by kernel_rfl) (by kernel_rfl) h (news := [0]) (m := 1) rfl ((h.pick 1).news rfl) c96 rfl fun ca94 cc95 w a h hr => ?_
    refine o1 hr (pA b81 6) fun a hr => ?_
    replace h := h.m9
    refine st1 (wn rfl) hr h 6 (.slice ca94 (l89 ++ [0]).length cc95) (pts b81 (.cells #[vI 0, vI 0, vI (-1), vI 0, vI 0, vI 1, .slice ca94 (l89 ++ [0]).length cc95] 117)) fun w h => ?_
    refine wpList_nil ?_
    refine blk_normal ?_
    refine then_normal ?_
    refine wp_region_lit ?_
    refine oo [130, 131, 17] [vI g90, vI (wi (g90 + 1)), vI (wi (g90 + 1))] hr fun a hr => ?_
    refine ln ?_
    exact ⟨_, ⟨ca94, cc95, (l89 ++ [0]), (wi (g90 + 1)), H, hr.fj (h.se 10 [3, 4, 5, 6, 7, 8, 9, 0, 1])⟩, Nat.lt_succ_self _⟩
   ·
    refine wp_exit ?_
    refine then_exit ?_
    refine then_exit ?_
    refine blk_here ?_
    refine then_normal ?_
    exact ⟨(), ca87, cc88, l89, sinj H, hr.fj (h.se 9 [1, 2, 3, 4, 5, 6, 7, 8])⟩
 clear h hr a; rintro _ a w ⟨ca82, cc83, l84, rfl, j, hr, h⟩
 replace H := kk1 hK85
 obtain ⟨o99, H, hK98⟩ := kd1 H
 refine cut_rule (β := Unit) (fun _ a w => ∃ l97 : List Int, l97 = o99 ∧ ∃ j, Rep 162 (lk [(11, pA b3 0), (16, pA b81 0)] j) a ∧ Fit z (sepL (ob57 b3 S50 (.slice va0_Funcs p0.Funcs.length vc0_Funcs) ca6 cc7 ca23 cc24 ca51 cc52 ca27 cc28 ca29 cc30 (.slice va4 p4.length vc4) :: ro2 ca6 cc7 S50.Cells :: rn117 ca23 cc24 S50.Frames :: rowOf 115 14 enc_T_plunderref11_Worker (.slice ca51 S50.Workers.length cc52) l76 :: ro190 ca27 cc28 S50.Events :: ro111 ca29 cc30 S50.Log :: pts b81 (.cells #[vI 0, vI 0, vI (-1), vI 0, vI 0, vI 1, .slice ca82 l84.length cc83] 117) :: rowOf 2 1 encZ_i64 (.slice ca82 l84.length cc83) l97 :: L)) w) ?_ ?_
 ·
  refine sr ?_
  refine o1 hr (vI 0) fun a hr => ?_
  refine ln ?_
  refine wp_block ?_
  refine loop_rule (β := Nat) id (fun m a w => ∃ l100 : List Int, ∃ g101 : Int, (plunderref11_New_l5 K p1 m l100 g101) = some o99 ∧ ∃ j, Rep 162 (lk [(1, .slice va1 p1.length vc1), (11, pA b3 0), (16, pA b81 0), (18, vI g101)] j) a ∧ Fit z (sepL (ob57 b3 S50 (.slice va0_Funcs p0.Funcs.length vc0_Funcs) ca6 cc7 ca23 cc24 ca51 cc52 ca27 cc28 ca29 cc30 (.slice va4 p4.length vc4) :: ro2 ca6 cc7 S50.Cells :: rn117 ca23 cc24 S50.Frames :: rowOf 115 14 enc_T_plunderref11_Worker (.slice ca51 S50.Workers.length cc52) l76 :: ro190 ca27 cc28 S50.Events :: ro111 ca29 cc30 S50.Log :: pts b81 (.cells #[vI 0, vI 0, vI (-1), vI 0, vI 0, vI 1, .slice ca82 l84.length cc83] 117) :: rowOf 2 1 encZ_i64 (.slice ca82 l84.length cc83) l100 :: L)) w) K ⟨l84, 0, H, hr.fj h⟩ ?_
  clear h hr a H; rintro k5 a w ⟨l100, g101, H, j, hr, h⟩
  cases k5 with
  | zero => exact absurd H (by simp [plunderref11_New_l5])
  | succ k5 =>
   rw [plunderref11_New_l5] at H
   refine wp_seq ?_
   refine sr ?_
   refine oo [137, 138, 139, 140] [vI g101, .slice va1 p1.length vc1, vI ((p1.length : Nat) : Int), vB (decide (g101 < ((p1.length : Nat) : Int)))] hr fun a hr => ?_
   refine ln ?_
   refine cD hr H (fun c102 H => ?_) fun c102 H => ?_
   ·
    refine wp_skip ?_
    refine then_normal ?_
    refine wp_seq ?_
    refine wp_block ?_
    obtain ⟨c103, H⟩ := gd H
    obtain ⟨c104, H⟩ := gd H
    refine regL [(b81, 6, [.slice ca82 l84.length cc83]), (blk va1, offs va1 + g101.toNat * 1, [vI (at_ p1 g101.toNat)])] [0, 5] 9 h (fun h => ⟨⟨(h.pick 6).cell 6 rfl, trivial⟩, ⟨hv1.cell c103 (h.dn 8) 0 rfl, trivial⟩, trivial⟩) fun w h hd => ?_
    refine evs' hd 5 [(0, 143, pA b81 6), (2, 145, vI g101), (3, 146, .slice va1 p1.length vc1), (4, 147, vI g101)] hr fun a hr => ?_
    refine eon hd 4 5 rfl (wn rfl) hr (pA (blk va1) (offs va1 + g101.toNat * 1)) (hrun := fun w => ri_rd (k := .i64) (E := 2) (cc := vc1) rfl (by kernel_rfl) (by kernel_rfl) rfl (by kernel_rfl) (by kernel_rfl) hv1 c103) fun a hr => ?_
    refine elx hd 0 3 1 hr (wn rfl) rfl rfl fun a hr => ?_
    refine elx hd 1 2 6 hr (wn rfl) rfl rfl fun a hr => ?_
    refine eon hd 1 7 rfl (wn rfl) hr (pA (blk ca82) (g101.toNat * 1)) (hrun := fun w => ri_row (k := .i64) (E := 2) rfl (by kernel_rfl) (by kernel_rfl) (by kernel_rfl) (by kernel_rfl) (h.pick 7) c104) fun a hr => ?_
    refine eo1 8 rfl ?_
    replace h := h.m7
    refine stor (wn rfl) hr encZ_i64_ok h g101.toNat 0 (vI (at_ p1 g101.toNat)) (at_ l100 g101.toNat) (at_ p1 g101.toNat) (at_ok c104) fun w h => ?_
    refine ln ?_
    refine xE ?_
    refine een ?_
    refine blk_normal ?_
    refine then_normal ?_
    refine wp_region_lit ?_
    refine oo [141, 142, 18] [vI g101, vI (wi (g101 + 1)), vI (wi (g101 + 1))] hr fun a hr => ?_
    refine ln ?_
    exact ⟨_, ⟨(l100.set g101.toNat (at_ p1 g101.toNat)), (wi (g101 + 1)), H, hr.fj (h.se 8 [1, 2, 3, 4, 5, 6, 7, 0])⟩, Nat.lt_succ_self _⟩
   ·
    refine wp_exit ?_
    refine then_exit ?_
    refine then_exit ?_
    refine blk_here ?_
    refine then_normal ?_
    exact ⟨(), l100, sinj H, hr.fj h⟩
 clear h hr a; rintro _ a w ⟨l97, rfl, j, hr, h⟩
 replace H := kk1 hK98
 refine wp_seq ?_
 replace h := h.m3
 have hn104 : S50.Workers.length = l76.length := h.row_n; replace h := Fit.ren1 hn104 (fun q_ => rowOf 115 14 enc_T_plunderref11_Worker (.slice ca51 q_ cc52) l76) (fun q_ => pts b3 (.cells #[.slice va0_Funcs p0.Funcs.length vc0_Funcs, vI S50.N, vI S50.Lim_Frames, vI S50.Lim_First, vI S50.Lim_Most, .slice ca6 S50.Cells.length cc7, .slice ca23 S50.Frames.length cc24, .slice ca51 q_ cc52, .slice ca27 S50.Events.length cc28, .slice ca29 S50.Log.length cc30, .slice va4 p4.length vc4, vI S50.Drawn, vI S50.At, vI S50.Value, vB S50.HasV, vB S50.Capped] 57)) h
 replace h := h.m6.m7
 have hn105 : l84.length = l97.length := h.row_n; replace h := Fit.ren1 hn105 (fun q_ => rowOf 2 1 encZ_i64 (.slice ca82 q_ cc83) l97) (fun q_ => pts b81 (.cells #[vI 0, vI 0, vI (-1), vI 0, vI 0, vI 1, .slice ca82 q_ cc83] 117)) h
 obtain ⟨c108, H⟩ := gd H
 refine regL [(b3, 6, [.slice ca23 S50.Frames.length cc24]), (b81, 0, [vI 0, vI 0, vI (-1), vI 0, vI 0, vI 1, .slice ca82 l97.length cc83])] [2, 3] 11 h (fun h => ⟨⟨(h.pick 3).cell 6 rfl, trivial⟩, ((h.pick 1).held 0 rfl), trivial⟩) fun w h hd => ?_
 refine evs' hd 7 [(0, 151, pA b3 0), (1, 152, pA b3 0), (2, 153, pA b3 0), (3, 154, pA b3 6)] hr fun a hr => ?_
 refine elx hd 0 6 4 hr (wn rfl) rfl rfl fun a hr => ?_
 refine elm hd 1 5 5 hr (wn rfl) rfl rfl fun a hr => ?_
 refine eo1 6 rfl ?_
 refine onew (wn rfl) hr h (fun b => .slice (some ⟨b, 0, none⟩) 1 1) (#[vI 0, vI 0, vI (-1), vI 0, vI 0, vI 1, .slice ca82 l97.length cc83]) 117 fun b107 w a h hr => ?_
 refine ln ?_
 refine xE ?_
 refine eo1 7 rfl ?_
 replace h := h.m1
 replace h := own_T_plunderref11_Frame_sh (x := (⟨0, 0, -1, 0, 0, 1, l97⟩ : T_plunderref11_Frame)) h
 replace h := h.m6
 refine op_append_N (n0 := S50.Frames.length) (c := 1) (bytes := 72) (sz := 7) (wn rfl) rfl rfl hr rfl (by kernel_rfl) (by kernel_rfl) (E := 117) (xs := S50.Frames) (by kernel_rfl) (by kernel_rfl) rfl rfl rfl h ((h.pick 2).news rfl) c108 rfl fun ca109 cc110 w a h hr => ?_
 refine ln ?_
 refine xE ?_
 refine evs 2 8 rfl (wn rfl) hr (pA b3 0) fun a hr => ?_
 refine evs 1 9 rfl (wn rfl) hr (pA b3 6) fun a hr => ?_
 refine eo1 10 rfl ?_
 replace h := h.m4
 refine st1 (wn rfl) hr h 6 (.slice ca109 (S50.Frames ++ [(⟨0, 0, -1, 0, 0, 1, l97⟩ : T_plunderref11_Frame)]).length cc110) (pts b3 (.cells #[.slice va0_Funcs p0.Funcs.length vc0_Funcs, vI S50.N, vI S50.Lim_Frames, vI S50.Lim_First, vI S50.Lim_Most, .slice ca6 S50.Cells.length cc7, .slice ca109 (S50.Frames ++ [(⟨0, 0, -1, 0, 0, 1, l97⟩ : T_plunderref11_Frame)]).length cc110, .slice ca51 l76.length cc52, .slice ca27 S50.Events.length cc28, .slice ca29 S50.Log.length cc30, .slice va4 p4.length vc4, vI S50.Drawn, vI S50.At, vI S50.Value, vB S50.HasV, vB S50.Capped] 57)) fun w h => ?_
 refine ln ?_
 refine xE ?_
 refine een ?_
 refine then_normal ?_
 refine sr ?_
 refine oo [161, 10] [pA b3 0, pA b3 0] hr fun a hr => ?_
 refine ln ?_
 refine wp_ret ?_
 refine end_ret1 (v := pA b3 0) rfl hr (by kernel_rfl) ?_
 replace H := ej1 H; subst H
 exact ⟨b3, ca6, cc7, ca109, cc110, ca51, cc52, ca27, cc28, ca29, cc30, rfl, h.se 8 [0, 5, 1, 4, 6, 7]⟩

/-- (plunder/frames.Table).has -/
def frames_Table__has (p0 : T_frames_Table) (p1 : Int) : Option (Bool) :=
  (if p0.Base ≥ 0 then (if p0.Frames ≥ 1 then (if p0.Frames ≤ 4096 then (if p1 ≥ 0 then some (decide (p1 < p0.Frames)) else some false) else some false) else some false) else some false)

theorem frames_Table__has_ok {z w : World} {L : List HProp} {p0 : T_frames_Table} {p1 : Int} {r0 : Bool} (H : frames_Table__has p0 p1 = some r0) (h : Fit z (sepL (L)) w)  :
    Calls Tryd.prog 71 #[ag_T_frames_Table p0, vI p1] w fun e w => e = .returned (vB r0) ∧ Fit z (sepL (L)) w := by
 unfold frames_Table__has at H
 refine enter Tryd.func71 rfl 28 rfl rfl [(0, ag_T_frames_Table p0), (1, vI p1)] ⟨rfl, rfl, trivial⟩ ?_
 intro j a hr
 refine sr ?_
 refine onew (wn rfl) hr h nb (ca_T_frames_Table p0) 67 fun b1 w a h hr => ?_
 refine o1 hr (vB false) fun a hr => ?_
 refine ln ?_
 refine sr ?_
 refine o1 hr (pA b1 0) fun a hr => ?_
 refine ld (wn rfl) hr (vI p0.Base) (h.cell 0 rfl) fun a hr => ?_
 refine oo [7, 8] [vB (decide (p0.Base ≥ 0)), vB (decide (p0.Base ≥ 0))] hr fun a hr => ?_
 by_cases c2 : p0.Base ≥ 0
 ·
  replace H := ifT c2 H
  refine onl (decide_eq_true c2) [9] [pA b1 1] hr fun a hr => ?_
  refine ld (wgt hr (decide_eq_true c2)) hr (vI p0.Frames) (h.cell 1 rfl) fun a hr => ?_
  refine onl (decide_eq_true c2) [11] [vB (decide (p0.Frames ≥ 1))] hr fun a hr => ?_
  refine opv (wn rfl) hr (vB (decide (p0.Frames ≥ 1))) (rp_t (b := (decide (p0.Base ≥ 0))) rfl (by kernel_rfl) (decide_eq_true c2) (by kernel_rfl)) fun a hr => ?_
  refine o1 hr (vB (decide (p0.Frames ≥ 1))) fun a hr => ?_
  by_cases c3 : p0.Frames ≥ 1
  ·
   replace H := ifT c3 H
   refine onl (decide_eq_true c3) [14] [pA b1 1] hr fun a hr => ?_
   refine ld (wgt hr (decide_eq_true c3)) hr (vI p0.Frames) (h.cell 1 rfl) fun a hr => ?_
   refine onl (decide_eq_true c3) [16] [vB (decide (p0.Frames ≤ 4096))] hr fun a hr => ?_
   refine opv (wn rfl) hr (vB (decide (p0.Frames ≤ 4096))) (rp_t (b := (decide (p0.Frames ≥ 1))) rfl (by kernel_rfl) (decide_eq_true c3) (by kernel_rfl)) fun a hr => ?_
   refine o1 hr (vB (decide (p0.Frames ≤ 4096))) fun a hr => ?_
   by_cases c4 : p0.Frames ≤ 4096
   ·
    replace H := ifT c4 H
    refine onl (decide_eq_true c4) [19, 20] [vI p1, vB (decide (p1 ≥ 0))] hr fun a hr => ?_
    refine opv (wn rfl) hr (vB (decide (p1 ≥ 0))) (rp_t (b := (decide (p0.Frames ≤ 4096))) rfl (by kernel_rfl) (decide_eq_true c4) (by kernel_rfl)) fun a hr => ?_
    refine o1 hr (vB (decide (p1 ≥ 0))) fun a hr => ?_
    by_cases c5 : p1 ≥ 0
    ·
     replace H := ifT c5 H
     refine onl (decide_eq_true c5) [23, 24] [vI p1, pA b1 1] hr fun a hr => ?_
     refine ld (wgt hr (decide_eq_true c5)) hr (vI p0.Frames) (h.cell 1 rfl) fun a hr => ?_
     refine onl (decide_eq_true c5) [26] [vB (decide (p1 < p0.Frames))] hr fun a hr => ?_
     refine opv (wn rfl) hr (vB (decide (p1 < p0.Frames))) (rp_t (b := (decide (p1 ≥ 0))) rfl (by kernel_rfl) (decide_eq_true c5) (by kernel_rfl)) fun a hr => ?_
     refine o1 hr (vB (decide (p1 < p0.Frames))) fun a hr => ?_
     refine ln ?_
     refine wp_ret ?_
     refine end_ret1 (v := vB (decide (p1 < p0.Frames))) rfl hr (by kernel_rfl) ?_
     replace H := ej1 H; subst H
     exact ⟨rfl, h.se 1 []⟩
    ·
     replace H := ifF c5 H
     refine offl (decide_eq_false c5) [23, 24, 25, 26] hr fun a hr => ?_
     refine opv (wn rfl) hr (vB false) (rp_f (b := (decide (p1 ≥ 0))) rfl (by kernel_rfl) (decide_eq_false c5) (by kernel_rfl)) fun a hr => ?_
     refine o1 hr (vB false) fun a hr => ?_
     refine ln ?_
     refine wp_ret ?_
     refine end_ret1 (v := vB false) rfl hr (by kernel_rfl) ?_
     replace H := ej1 H; subst H
     exact ⟨rfl, h.se 1 []⟩
   ·
    replace H := ifF c4 H
    refine offl (decide_eq_false c4) [19, 20] hr fun a hr => ?_
    refine opv (wn rfl) hr (vB false) (rp_f (b := (decide (p0.Frames ≤ 4096))) rfl (by kernel_rfl) (decide_eq_false c4) (by kernel_rfl)) fun a hr => ?_
    refine o1 hr (vB false) fun a hr => ?_
    refine offl (rfl : false = false) [23, 24, 25, 26] hr fun a hr => ?_
    refine oo [27, 4] [vB false, vB false] hr fun a hr => ?_
    refine ln ?_
    refine wp_ret ?_
    refine end_ret1 (v := vB false) rfl hr (by kernel_rfl) ?_
    replace H := ej1 H; subst H
    exact ⟨rfl, h.se 1 []⟩
  ·
   replace H := ifF c3 H
   refine offl (decide_eq_false c3) [14, 15, 16] hr fun a hr => ?_
   refine opv (wn rfl) hr (vB false) (rp_f (b := (decide (p0.Frames ≥ 1))) rfl (by kernel_rfl) (decide_eq_false c3) (by kernel_rfl)) fun a hr => ?_
   refine o1 hr (vB false) fun a hr => ?_
   refine offl (rfl : false = false) [19, 20] hr fun a hr => ?_
   refine oo [21, 22] [vB false, vB false] hr fun a hr => ?_
   refine offl (rfl : false = false) [23, 24, 25, 26] hr fun a hr => ?_
   refine oo [27, 4] [vB false, vB false] hr fun a hr => ?_
   refine ln ?_
   refine wp_ret ?_
   refine end_ret1 (v := vB false) rfl hr (by kernel_rfl) ?_
   replace H := ej1 H; subst H
   exact ⟨rfl, h.se 1 []⟩
 ·
  replace H := ifF c2 H
  refine offl (decide_eq_false c2) [9, 10, 11] hr fun a hr => ?_
  refine opv (wn rfl) hr (vB false) (rp_f (b := (decide (p0.Base ≥ 0))) rfl (by kernel_rfl) (decide_eq_false c2) (by kernel_rfl)) fun a hr => ?_
  refine o1 hr (vB false) fun a hr => ?_
  refine offl (rfl : false = false) [14, 15, 16] hr fun a hr => ?_
  refine oo [17, 18] [vB false, vB false] hr fun a hr => ?_
  refine offl (rfl : false = false) [19, 20] hr fun a hr => ?_
  refine oo [21, 22] [vB false, vB false] hr fun a hr => ?_
  refine offl (rfl : false = false) [23, 24, 25, 26] hr fun a hr => ?_
  refine oo [27, 4] [vB false, vB false] hr fun a hr => ?_
  refine ln ?_
  refine wp_ret ?_
  refine end_ret1 (v := vB false) rfl hr (by kernel_rfl) ?_
  replace H := ej1 H; subst H
  exact ⟨rfl, h.se 1 []⟩

/-- plunder/frames.begin -/
def frames_begin (p0 : Int) (p1 : T_frames_Table) (p2 : Int) (p3 : Int) (p4 : Int) : Option (T_frames_Op) :=
  ob1 (frames_Table__has p1 p2) (fun r3 => (if r3 = true then (if p3 < 0 then some (⟨0, 0, 0, 0, 0, 0, 0, 0, 0⟩ : T_frames_Op) else (if p3 ≥ 8 then some (⟨0, 0, 0, 0, 0, 0, 0, 0, 0⟩ : T_frames_Op) else some (⟨p1.Base, p1.Frames, p2, 1, 0, 0, p0, p3, p4⟩ : T_frames_Op))) else some (⟨0, 0, 0, 0, 0, 0, 0, 0, 0⟩ : T_frames_Op)))

theorem frames_begin_ok {z w : World} {L : List HProp} {p0 p2 p3 p4 : Int} {p1 : T_frames_Table} {r0 : T_frames_Op} (H : frames_begin p0 p1 p2 p3 p4 = some r0) (h : Fit z (sepL (L)) w)  :
    Calls Tryd.prog 57 #[vI p0, ag_T_frames_Table p1, vI p2, vI p3, vI p4] w fun e w => e = .returned (ag_T_frames_Op r0) ∧ Fit z (sepL (L)) w := by
 unfold frames_begin at H
 refine enter Tryd.func57 rfl 31 rfl rfl [(0, vI p0), (1, ag_T_frames_Table p1), (2, vI p2), (3, vI p3), (4, vI p4)] ⟨rfl, rfl, rfl, rfl, rfl, trivial⟩ ?_
 intro j a hr
 refine sr ?_
 refine onew (wn rfl) hr h nb (ca_T_frames_Table p1) 67 fun b1 w a h hr => ?_
 refine onew (wn rfl) hr h nb (#[vI 0, vI 0, vI 0, vI 0, vI 0, vI 0, vI 0, vI 0, vI 0]) 90 fun b2 w a h hr => ?_
 refine ln ?_
 refine wp_seq ?_
 refine sr ?_
 refine ldm (wn rfl) hr (ag_T_frames_Table p1) (cs := cl_T_frames_Table p1) ((h.pick 1).held 0 rfl) fun a hr => ?_
 obtain ⟨r3, e4, H⟩ := bd1 H
 refine o1 hr (vI p2) fun a hr => ?_
 have hc := frames_Table__has_ok (H := e4) (h := h)
 refine cl (wn rfl) hr hc ?_; clear hc h
 rintro _ w ⟨rfl, h⟩; refine ⟨_, rfl, fun a hr => ?_⟩
 refine oo [14, 15] [vB (!r3), vB (!r3)] hr fun a hr => ?_
 by_cases c5 : r3 = true
 ·
  replace H := ifT c5 H
  refine onl (show (!r3) = false from (by rw [show r3 = true from (c5)]; rfl)) [16, 17] [vI p3, vB (decide (p3 < 0))] hr fun a hr => ?_
  refine opv (wn rfl) hr (vB (decide (p3 < 0))) (rp_f (b := (!r3)) rfl (by kernel_rfl) (by rw [show r3 = true from (c5)]; rfl) (by kernel_rfl)) fun a hr => ?_
  refine o1 hr (vB (decide (p3 < 0))) fun a hr => ?_
  by_cases c6 : p3 < 0
  ·
   replace H := ifT c6 H
   refine offl (decide_eq_true c6) [20, 21] hr fun a hr => ?_
   refine opv (wn rfl) hr (vB true) (rp_t (b := (decide (p3 < 0))) rfl (by kernel_rfl) (decide_eq_true c6) (by kernel_rfl)) fun a hr => ?_
   refine ln ?_
   refine cond_tt hr (b := true) rfl ?_
   refine sr ?_
   refine o1 hr (.agg #[vI 0, vI 0, vI 0, vI 0, vI 0, vI 0, vI 0, vI 0, vI 0]) fun a hr => ?_
   refine stm (wn rfl) hr h 0 ([vI 0, vI 0, vI 0, vI 0, vI 0, vI 0, vI 0, vI 0, vI 0]) (pts b2 (.cells #[vI 0, vI 0, vI 0, vI 0, vI 0, vI 0, vI 0, vI 0, vI 0] 90)) fun w h => ?_
   refine ln ?_
   refine wp_ret ?_
   refine then_ret ?_
   refine end_retC (cs := [vI 0, vI 0, vI 0, vI 0, vI 0, vI 0, vI 0, vI 0, vI 0]) rfl hr (by kernel_rfl) (by kernel_rfl) (by kernel_rfl) (h.held 0 rfl) ?_
   replace H := ej1 H; subst H
   exact ⟨rfl, h.se 2 []⟩
  ·
   replace H := ifF c6 H
   refine onl (decide_eq_false c6) [20, 21] [vI p3, vB (decide (p3 ≥ 8))] hr fun a hr => ?_
   refine opv (wn rfl) hr (vB (decide (p3 ≥ 8))) (rp_f (b := (decide (p3 < 0))) rfl (by kernel_rfl) (decide_eq_false c6) (by kernel_rfl)) fun a hr => ?_
   refine ln ?_
   refine cD hr H (fun c7 H => ?_) fun c7 H => ?_
   ·
    refine sr ?_
    refine o1 hr (.agg #[vI 0, vI 0, vI 0, vI 0, vI 0, vI 0, vI 0, vI 0, vI 0]) fun a hr => ?_
    refine stm (wn rfl) hr h 0 ([vI 0, vI 0, vI 0, vI 0, vI 0, vI 0, vI 0, vI 0, vI 0]) (pts b2 (.cells #[vI 0, vI 0, vI 0, vI 0, vI 0, vI 0, vI 0, vI 0, vI 0] 90)) fun w h => ?_
    refine ln ?_
    refine wp_ret ?_
    refine then_ret ?_
    refine end_retC (cs := [vI 0, vI 0, vI 0, vI 0, vI 0, vI 0, vI 0, vI 0, vI 0]) rfl hr (by kernel_rfl) (by kernel_rfl) (by kernel_rfl) (h.held 0 rfl) ?_
    replace H := ej1 H; subst H
    exact ⟨rfl, h.se 2 []⟩
   ·
    refine wp_skip ?_
    refine then_normal ?_
    refine sr ?_
    refine ldm (wn rfl) hr (ag_T_frames_Table p1) (cs := cl_T_frames_Table p1) ((h.pick 1).held 0 rfl) fun a hr => ?_
    refine oo [25, 26, 27, 28, 29, 30] [vI p2, .agg #[vI p1.Base, vI p1.Frames, vI p2, vI 1, vI 0, vI 0], vI p0, vI p3, vI p4, .agg #[vI p1.Base, vI p1.Frames, vI p2, vI 1, vI 0, vI 0, vI p0, vI p3, vI p4]] hr fun a hr => ?_
    refine stm (wn rfl) hr h 0 ([vI p1.Base, vI p1.Frames, vI p2, vI 1, vI 0, vI 0, vI p0, vI p3, vI p4]) (pts b2 (.cells #[vI p1.Base, vI p1.Frames, vI p2, vI 1, vI 0, vI 0, vI p0, vI p3, vI p4] 90)) fun w h => ?_
    refine ln ?_
    refine wp_ret ?_
    refine end_retC (cs := [vI p1.Base, vI p1.Frames, vI p2, vI 1, vI 0, vI 0, vI p0, vI p3, vI p4]) rfl hr (by kernel_rfl) (by kernel_rfl) (by kernel_rfl) (h.held 0 rfl) ?_
    replace H := ej1 H; subst H
    exact ⟨rfl, h.se 2 []⟩
 ·
  replace H := ifF c5 H
  refine offl (show (!r3) = true from (by rw [show r3 = false from (bF c5)]; rfl)) [16, 17] hr fun a hr => ?_
  refine opv (wn rfl) hr (vB true) (rp_t (b := (!r3)) rfl (by kernel_rfl) (by rw [show r3 = false from (bF c5)]; rfl) (by kernel_rfl)) fun a hr => ?_
  refine o1 hr (vB true) fun a hr => ?_
  refine offl (rfl : true = true) [20, 21] hr fun a hr => ?_
  refine o1 hr (vB true) fun a hr => ?_
  refine ln ?_
  refine cond_tt hr (b := true) rfl ?_
  refine sr ?_
  refine o1 hr (.agg #[vI 0, vI 0, vI 0, vI 0, vI 0, vI 0, vI 0, vI 0, vI 0]) fun a hr => ?_
  refine stm (wn rfl) hr h 0 ([vI 0, vI 0, vI 0, vI 0, vI 0, vI 0, vI 0, vI 0, vI 0]) (pts b2 (.cells #[vI 0, vI 0, vI 0, vI 0, vI 0, vI 0, vI 0, vI 0, vI 0] 90)) fun w h => ?_
  refine ln ?_
  refine wp_ret ?_
  refine then_ret ?_
  refine end_retC (cs := [vI 0, vI 0, vI 0, vI 0, vI 0, vI 0, vI 0, vI 0, vI 0]) rfl hr (by kernel_rfl) (by kernel_rfl) (by kernel_rfl) (h.held 0 rfl) ?_
  replace H := ej1 H; subst H
  exact ⟨rfl, h.se 2 []⟩

/-- plunder/frames.Alloc -/
def frames_Alloc (p0 : T_frames_Table) : Option (T_frames_Op) :=
  ob1 (frames_begin 0 p0 0 0 0) (fun r3 => some r3)

theorem frames_Alloc_ok {z w : World} {L : List HProp} {p0 : T_frames_Table} {r0 : T_frames_Op} (H : frames_Alloc p0 = some r0) (h : Fit z (sepL (L)) w)  :
    Calls Tryd.prog 39 #[ag_T_frames_Table p0] w fun e w => e = .returned (ag_T_frames_Op r0) ∧ Fit z (sepL (L)) w := by
 unfold frames_Alloc at H
 refine enter Tryd.func39 rfl 5 rfl rfl [(0, ag_T_frames_Table p0)] ⟨rfl, trivial⟩ ?_
 intro j a hr
 refine sr ?_
 refine onew (wn rfl) hr h nb (ca_T_frames_Table p0) 67 fun b1 w a h hr => ?_
 refine onew (wn rfl) hr h nb (#[vI 0, vI 0, vI 0, vI 0, vI 0, vI 0, vI 0, vI 0, vI 0]) 90 fun b2 w a h hr => ?_
 refine ln ?_
 refine sr ?_
 refine ldm (wn rfl) hr (ag_T_frames_Table p0) (cs := cl_T_frames_Table p0) ((h.pick 1).held 0 rfl) fun a hr => ?_
 obtain ⟨r3, e4, H⟩ := bd1 H
 have hc := frames_begin_ok (H := e4) (h := h)
 refine cl (wn rfl) hr hc ?_; clear hc h
 rintro _ w ⟨rfl, h⟩; refine ⟨_, rfl, fun a hr => ?_⟩
 refine stm (wn rfl) hr h 0 (cl_T_frames_Op r3) (ob90 b2 r3) fun w h => ?_
 refine ln ?_
 refine wp_ret ?_
 refine end_retC (cs := cl_T_frames_Op r3) rfl hr (by kernel_rfl) (by kernel_rfl) (by kernel_rfl) (h.held 0 rfl) ?_
 replace H := ej1 H; subst H
 exact ⟨rfl, h.se 2 []⟩

/-- plunder/frames.Answer -/
def frames_Answer (p0 : T_frames_Op) : Option (Int × Int) :=
  (if p0 = (⟨0, 0, 0, 0, 0, 0, 0, 0, 0⟩ : T_frames_Op) then some (1, 0) else (if p0.head_stands > 0 then some (0, 0) else some (p0.head_code, p0.head_v)))

theorem frames_Answer_ok {z w : World} {L : List HProp} {p0 : T_frames_Op} {r0 r1 : Int} (H : frames_Answer p0 = some (r0, r1)) (h : Fit z (sepL (L)) w)  :
    Calls Tryd.prog 37 #[ag_T_frames_Op p0] w fun e w => e = .returned (.tuple #[vI r0, vI r1]) ∧ Fit z (sepL (L)) w := by
 unfold frames_Answer at H
 refine enter Tryd.func37 rfl 17 rfl rfl [(0, ag_T_frames_Op p0)] ⟨rfl, trivial⟩ ?_
 intro j a hr
 refine sr ?_
 refine onew (wn rfl) hr h nb (ca_T_frames_Op p0) 90 fun b1 w a h hr => ?_
 refine oo [2, 3] [vI 0, vI 0] hr fun a hr => ?_
 refine ln ?_
 refine wp_seq ?_
 refine sr ?_
 refine ldm (wn rfl) hr (ag_T_frames_Op p0) (cs := cl_T_frames_Op p0) (h.held 0 rfl) fun a hr => ?_
 refine o1 hr (.agg #[vI 0, vI 0, vI 0, vI 0, vI 0, vI 0, vI 0, vI 0, vI 0]) fun a hr => ?_
 refine opv (wn rfl) hr (vB (decide (p0 = (⟨0, 0, 0, 0, 0, 0, 0, 0, 0⟩ : T_frames_Op)))) (rb (reqd rfl (by kernel_rfl) (by kernel_rfl) (by kernel_rfl) (by kernel_rfl) (by kernel_rfl) (by kernel_rfl)) (eq_T_frames_Op p0 (⟨0, 0, 0, 0, 0, 0, 0, 0, 0⟩ : T_frames_Op))) fun a hr => ?_
 refine ln ?_
 refine cD hr H (fun c2 H => ?_) fun c2 H => ?_
 ·
  refine sr ?_
  refine oo [2, 3] [vI 1, vI 0] hr fun a hr => ?_
  refine ln ?_
  refine wp_ret ?_
  refine then_ret ?_
  refine end_ret2 (v := vI 1) (v' := vI 0) rfl hr (by kernel_rfl) (by kernel_rfl) ?_
  obtain ⟨rfl, rfl⟩ := ej2 H
  exact ⟨rfl, h.se 1 []⟩
 ·
  refine wp_skip ?_
  refine then_normal ?_
  refine wp_seq ?_
  refine sr ?_
  refine oo [7, 8] [pA b1 0, pA b1 3] hr fun a hr => ?_
  refine ld (wn rfl) hr (vI p0.head_stands) (h.cell 3 rfl) fun a hr => ?_
  refine o1 hr (vB (decide (p0.head_stands > 0))) fun a hr => ?_
  refine ln ?_
  refine cD hr H (fun c3 H => ?_) fun c3 H => ?_
  ·
   refine sr ?_
   refine oo [2, 3] [vI 0, vI 0] hr fun a hr => ?_
   refine ln ?_
   refine wp_ret ?_
   refine then_ret ?_
   refine end_ret2 (v := vI 0) (v' := vI 0) rfl hr (by kernel_rfl) (by kernel_rfl) ?_
   obtain ⟨rfl, rfl⟩ := ej2 H
   exact ⟨rfl, h.se 1 []⟩
  ·
   refine wp_skip ?_
   refine then_normal ?_
   refine wp_seq ?_
   refine regL [(b1, 4, [vI p0.head_code]), (b1, 5, [vI p0.head_v])] [0, 1, 3, 4] 8 h (fun h => ⟨⟨h.cell 4 rfl, trivial⟩, ⟨h.cell 5 rfl, trivial⟩, trivial⟩) fun w h hd => ?_
   refine evs' hd 4 [(0, 11, pA b1 0), (1, 12, pA b1 4), (3, 14, pA b1 0), (4, 15, pA b1 5)] hr fun a hr => ?_
   refine elx hd 0 3 2 hr (wn rfl) rfl rfl fun a hr => ?_
   refine evs' hd 2 [(6, 2, vI p0.head_code)] hr fun a hr => ?_
   refine elx hd 1 1 5 hr (wn rfl) rfl rfl fun a hr => ?_
   refine evs' hd 0 [(7, 3, vI p0.head_v)] hr fun a hr => ?_
   refine een ?_
   refine then_normal ?_
   refine wp_ret ?_
   refine end_ret2 (v := vI p0.head_code) (v' := vI p0.head_v) rfl hr (by kernel_rfl) (by kernel_rfl) ?_
   obtain ⟨rfl, rfl⟩ := ej2 H
   exact ⟨rfl, h.se 1 []⟩

/-- plunder/deque.capsOK -/
def deque_capsOK (p0 : Int) (p1 : Int) : Option (Bool) :=
  (if (1 : Int) ≤ p0 then (if p0 ≤ p1 then some (decide (p1 ≤ 4096)) else some false) else some false)

theorem deque_capsOK_ok {z w : World} {L : List HProp} {p0 p1 : Int} {r0 : Bool} (H : deque_capsOK p0 p1 = some r0) (h : Fit z (sepL (L)) w)  :
    Calls Tryd.prog 54 #[vI p0, vI p1] w fun e w => e = .returned (vB r0) ∧ Fit z (sepL (L)) w := by
 unfold deque_capsOK at H
 refine enter Tryd.func54 rfl 16 rfl rfl [(0, vI p0), (1, vI p1)] ⟨rfl, rfl, trivial⟩ ?_
 intro j a hr
 refine sr ?_
 refine o1 hr (vB false) fun a hr => ?_
 refine ln ?_
 refine sr ?_
 refine oo [5, 6, 7] [vI p0, vB (decide ((1 : Int) ≤ p0)), vB (decide ((1 : Int) ≤ p0))] hr fun a hr => ?_
 by_cases c1 : (1 : Int) ≤ p0
 ·
  replace H := ifT c1 H
  refine onl (decide_eq_true c1) [8, 9, 10] [vI p0, vI p1, vB (decide (p0 ≤ p1))] hr fun a hr => ?_
  refine opv (wn rfl) hr (vB (decide (p0 ≤ p1))) (rp_t (b := (decide ((1 : Int) ≤ p0))) rfl (by kernel_rfl) (decide_eq_true c1) (by kernel_rfl)) fun a hr => ?_
  refine o1 hr (vB (decide (p0 ≤ p1))) fun a hr => ?_
  by_cases c2 : p0 ≤ p1
  ·
   replace H := ifT c2 H
   refine onl (decide_eq_true c2) [13, 14] [vI p1, vB (decide (p1 ≤ 4096))] hr fun a hr => ?_
   refine opv (wn rfl) hr (vB (decide (p1 ≤ 4096))) (rp_t (b := (decide (p0 ≤ p1))) rfl (by kernel_rfl) (decide_eq_true c2) (by kernel_rfl)) fun a hr => ?_
   refine o1 hr (vB (decide (p1 ≤ 4096))) fun a hr => ?_
   refine ln ?_
   refine wp_ret ?_
   refine end_ret1 (v := vB (decide (p1 ≤ 4096))) rfl hr (by kernel_rfl) ?_
   replace H := ej1 H; subst H
   exact ⟨rfl, h⟩
  ·
   replace H := ifF c2 H
   refine offl (decide_eq_false c2) [13, 14] hr fun a hr => ?_
   refine opv (wn rfl) hr (vB false) (rp_f (b := (decide (p0 ≤ p1))) rfl (by kernel_rfl) (decide_eq_false c2) (by kernel_rfl)) fun a hr => ?_
   refine o1 hr (vB false) fun a hr => ?_
   refine ln ?_
   refine wp_ret ?_
   refine end_ret1 (v := vB false) rfl hr (by kernel_rfl) ?_
   replace H := ej1 H; subst H
   exact ⟨rfl, h⟩
 ·
  replace H := ifF c1 H
  refine offl (decide_eq_false c1) [8, 9, 10] hr fun a hr => ?_
  refine opv (wn rfl) hr (vB false) (rp_f (b := (decide ((1 : Int) ≤ p0))) rfl (by kernel_rfl) (decide_eq_false c1) (by kernel_rfl)) fun a hr => ?_
  refine o1 hr (vB false) fun a hr => ?_
  refine offl (rfl : false = false) [13, 14] hr fun a hr => ?_
  refine oo [15, 4] [vB false, vB false] hr fun a hr => ?_
  refine ln ?_
  refine wp_ret ?_
  refine end_ret1 (v := vB false) rfl hr (by kernel_rfl) ?_
  replace H := ej1 H; subst H
  exact ⟨rfl, h⟩

/-- plunder/frames.Cells -/
def frames_Cells (p0 : Int) : Option (Int) :=
  (if p0 < 1 then some 0 else (if p0 > 4096 then some 0 else some (wi ((1 : Int) + (wi (p0 * 10))))))

theorem frames_Cells_ok {z w : World} {L : List HProp} {p0 r0 : Int} (H : frames_Cells p0 = some r0) (h : Fit z (sepL (L)) w)  :
    Calls Tryd.prog 51 #[vI p0] w fun e w => e = .returned (vI r0) ∧ Fit z (sepL (L)) w := by
 unfold frames_Cells at H
 refine enter Tryd.func51 rfl 12 rfl rfl [(0, vI p0)] ⟨rfl, trivial⟩ ?_
 intro j a hr
 refine sr ?_
 refine o1 hr (vI 0) fun a hr => ?_
 refine ln ?_
 refine wp_seq ?_
 refine sr ?_
 refine oo [3, 4, 5] [vI p0, vB (decide (p0 < 1)), vB (decide (p0 < 1))] hr fun a hr => ?_
 by_cases c1 : p0 < 1
 ·
  replace H := ifT c1 H
  refine offl (decide_eq_true c1) [6, 7] hr fun a hr => ?_
  refine opv (wn rfl) hr (vB true) (rp_t (b := (decide (p0 < 1))) rfl (by kernel_rfl) (decide_eq_true c1) (by kernel_rfl)) fun a hr => ?_
  refine ln ?_
  refine cond_tt hr (b := true) rfl ?_
  refine sr ?_
  refine o1 hr (vI 0) fun a hr => ?_
  refine ln ?_
  refine wp_ret ?_
  refine then_ret ?_
  refine end_ret1 (v := vI 0) rfl hr (by kernel_rfl) ?_
  replace H := ej1 H; subst H
  exact ⟨rfl, h⟩
 ·
  replace H := ifF c1 H
  refine onl (decide_eq_false c1) [6, 7] [vI p0, vB (decide (p0 > 4096))] hr fun a hr => ?_
  refine opv (wn rfl) hr (vB (decide (p0 > 4096))) (rp_f (b := (decide (p0 < 1))) rfl (by kernel_rfl) (decide_eq_false c1) (by kernel_rfl)) fun a hr => ?_
  refine ln ?_
  refine cD hr H (fun c2 H => ?_) fun c2 H => ?_
  ·
   refine sr ?_
   refine o1 hr (vI 0) fun a hr => ?_
   refine ln ?_
   refine wp_ret ?_
   refine then_ret ?_
   refine end_ret1 (v := vI 0) rfl hr (by kernel_rfl) ?_
   replace H := ej1 H; subst H
   exact ⟨rfl, h⟩
  ·
   refine wp_skip ?_
   refine then_normal ?_
   refine sr ?_
   refine oo [9, 10, 11, 2] [vI p0, vI (wi (p0 * 10)), vI (wi ((1 : Int) + (wi (p0 * 10)))), vI (wi ((1 : Int) + (wi (p0 * 10))))] hr fun a hr => ?_
   refine ln ?_
   refine wp_ret ?_
   refine end_ret1 (v := vI (wi ((1 : Int) + (wi (p0 * 10))))) rfl hr (by kernel_rfl) ?_
   replace H := ej1 H; subst H
   exact ⟨rfl, h⟩

/-- (*plunder/cells.ledger).refuse -/
def cells_ledger_refuse (p0 : T_cells_Arena) (p1 : Int) : Option (Int) :=
  (if p1 < 1 then some 21 else (if p1 > (wi (p0.ledger_size - p0.ledger_mark)) then some 22 else some 0))

theorem cells_ledger_refuse_ok {z w : World} {L : List HProp} {p0 : T_cells_Arena} {p1 r0 : Int} {B0 cc2 cc4 : Nat} {ca1 ca3 : Option Addr} (H : cells_ledger_refuse p0 p1 = some r0) (h : Fit z (sepL (ob102 B0 p0 ca1 cc2 ca3 cc4 :: ro2 ca1 cc2 p0.cell :: ro111 ca3 cc4 p0.log :: L)) w)  :
    Calls Tryd.prog 106 #[pA B0 0, vI p1] w fun e w => e = .returned (vI r0) ∧ Fit z (sepL (ob102 B0 p0 ca1 cc2 ca3 cc4 :: ro2 ca1 cc2 p0.cell :: ro111 ca3 cc4 p0.log :: L)) w := by
 unfold cells_ledger_refuse at H
 refine enter Tryd.func106 rfl 22 rfl rfl [(0, pA B0 0), (1, vI p1)] ⟨rfl, rfl, trivial⟩ ?_
 intro j a hr
 refine sr ?_
 refine o1 hr (vI 0) fun a hr => ?_
 refine ln ?_
 refine wp_seq ?_
 refine sr ?_
 refine oo [5, 6] [vI p1, vB (decide (p1 < 1))] hr fun a hr => ?_
 refine ln ?_
 refine cD hr H (fun c5 H => ?_) fun c5 H => ?_
 ·
  refine sr ?_
  refine o1 hr (vI 21) fun a hr => ?_
  refine ln ?_
  refine wp_ret ?_
  refine then_ret ?_
  refine end_ret1 (v := vI 21) rfl hr (by kernel_rfl) ?_
  replace H := ej1 H; subst H
  exact ⟨rfl, h⟩
 ·
  refine wp_skip ?_
  refine then_normal ?_
  refine wp_seq ?_
  refine wp_seq ?_
  refine regL [(B0, 0, [vI p0.ledger_size]), (B0, 1, [vI p0.ledger_mark])] [1, 5, 6, 9, 10] 15 h (fun h => ⟨⟨h.cell 0 rfl, trivial⟩, ⟨h.cell 1 rfl, trivial⟩, trivial⟩) fun w h hd => ?_
  refine evs' hd 12 [(0, 7, pA B0 0), (1, 8, vB false), (2, 9, vB false)] hr fun a hr => ?_
  refine eon hd 11 3 rfl (wgt hr (c := false) rfl) hr (vI p1) fun a hr => ?_
  refine eon hd 10 4 rfl (wgt hr (c := false) rfl) hr (pA B0 0) fun a hr => ?_
  refine eon hd 9 5 rfl (wgt hr (c := false) rfl) hr (pA B0 0) fun a hr => ?_
  refine eon hd 8 6 rfl (wgt hr (c := false) rfl) hr (pA B0 0) fun a hr => ?_
  refine eon hd 7 8 rfl (wgt hr (c := false) rfl) hr (pA B0 0) fun a hr => ?_
  refine eon hd 6 9 rfl (wgt hr (c := false) rfl) hr (pA B0 0) fun a hr => ?_
  refine eon hd 5 10 rfl (wgt hr (c := false) rfl) hr (pA B0 1) fun a hr => ?_
  refine elx hd 0 4 7 hr (wgt hr (c := false) rfl) rfl rfl fun a hr => ?_
  refine elx hd 1 3 11 hr (wgt hr (c := false) rfl) rfl rfl fun a hr => ?_
  refine eon hd 2 12 rfl (wgt hr (c := false) rfl) hr (vI (wi (p0.ledger_size - p0.ledger_mark))) fun a hr => ?_
  refine eon hd 1 13 rfl (wgt hr (c := false) rfl) hr (vB (decide (p1 > (wi (p0.ledger_size - p0.ledger_mark))))) fun a hr => ?_
  refine evs' hd 0 [(14, 21, vB (decide (p1 > (wi (p0.ledger_size - p0.ledger_mark)))))] hr fun a hr => ?_
  refine een ?_
  refine then_normal ?_
  refine cD hr H (fun c6 H => ?_) fun c6 H => ?_
  ·
   refine sr ?_
   refine o1 hr (vI 22) fun a hr => ?_
   refine ln ?_
   refine wp_ret ?_
   refine then_ret ?_
   refine end_ret1 (v := vI 22) rfl hr (by kernel_rfl) ?_
   replace H := ej1 H; subst H
   exact ⟨rfl, h⟩
  ·
   refine wp_skip ?_
   refine then_normal ?_
   refine sr ?_
   refine o1 hr (vI 0) fun a hr => ?_
   refine ln ?_
   refine wp_ret ?_
   refine end_ret1 (v := vI 0) rfl hr (by kernel_rfl) ?_
   replace H := ej1 H; subst H
   exact ⟨rfl, h⟩

/-- (*plunder/cells.ledger).take -/
def cells_ledger_take (p0 : T_cells_Arena) (p1 : Int) : Option (Int × T_cells_Arena) :=
  some (p0.ledger_mark, { p0 with ledger_mark := wi (p0.ledger_mark + p1) })

theorem cells_ledger_take_ok {z w : World} {L : List HProp} {p0 q0 : T_cells_Arena} {p1 r0 : Int} {B0 cc2 cc4 : Nat} {ca1 ca3 : Option Addr} (H : cells_ledger_take p0 p1 = some (r0, q0)) (h : Fit z (sepL (ob102 B0 p0 ca1 cc2 ca3 cc4 :: ro2 ca1 cc2 p0.cell :: ro111 ca3 cc4 p0.log :: L)) w)  :
    Calls Tryd.prog 107 #[pA B0 0, vI p1] w fun e w => ∃ caq0_1 ccq0_2 caq0_3 ccq0_4, e = .returned (vI r0) ∧ Fit z (sepL (ob102 B0 q0 caq0_1 ccq0_2 caq0_3 ccq0_4 :: ro2 caq0_1 ccq0_2 q0.cell :: ro111 caq0_3 ccq0_4 q0.log :: L)) w := by
 unfold cells_ledger_take at H
 refine enter Tryd.func107 rfl 19 rfl rfl [(0, pA B0 0), (1, vI p1)] ⟨rfl, rfl, trivial⟩ ?_
 intro j a hr
 refine sr ?_
 refine o1 hr (vI 0) fun a hr => ?_
 refine ln ?_
 refine sr ?_
 refine oo [6, 7, 8] [pA B0 0, pA B0 0, pA B0 1] hr fun a hr => ?_
 refine ld (wn rfl) hr (vI p0.ledger_mark) (h.cell 1 rfl) fun a hr => ?_
 refine o1 hr (vI p0.ledger_mark) fun a hr => ?_
 refine ln ?_
 refine sr ?_
 refine oo [10, 11, 12] [pA B0 0, pA B0 0, pA B0 1] hr fun a hr => ?_
 refine ld (wn rfl) hr (vI p0.ledger_mark) (h.cell 1 rfl) fun a hr => ?_
 refine oo [14, 15, 16, 17] [vI p1, vI (wi (p0.ledger_mark + p1)), pA B0 0, pA B0 1] hr fun a hr => ?_
 refine st1 (wn rfl) hr h 1 (vI (wi (p0.ledger_mark + p1))) (pts B0 (.cells #[vI p0.ledger_size, vI (wi (p0.ledger_mark + p1)), .slice ca1 p0.cell.length cc2, .slice ca3 p0.log.length cc4, vI p0.actor, vB p0.watched] 102)) fun w h => ?_
 refine ln ?_
 refine sr ?_
 refine oo [18, 4] [vI p0.ledger_mark, vI p0.ledger_mark] hr fun a hr => ?_
 refine ln ?_
 refine wp_ret ?_
 refine end_ret1 (v := vI p0.ledger_mark) rfl hr (by kernel_rfl) ?_
 obtain ⟨rfl, rfl⟩ := ej2 H
 exact ⟨ca1, cc2, ca3, cc4, rfl, h⟩

/-- (*plunder/cells.Arena).note -/
def cells_Arena_note (p0 : T_cells_Arena) (p1 : Int) (p2 : Int) (p3 : Int) (p4 : Int) (p5 : Bool) : Option (T_cells_Arena) :=
  (if p0.watched = true then if (p0.log.length + 1) * 48 ≤ 140737488355328 then some ({ p0 with log := p0.log ++ [(⟨p0.actor, p1, p2, p3, p4, p5⟩ : T_api_Access)] }) else none else some p0)

theorem cells_Arena_note_ok {z w : World} {L : List HProp} {p0 q0 : T_cells_Arena} {p1 p2 p3 p4 : Int} {p5 : Bool} {B0 cc2 cc4 : Nat} {ca1 ca3 : Option Addr} (H : cells_Arena_note p0 p1 p2 p3 p4 p5 = some q0) (h : Fit z (sepL (ob102 B0 p0 ca1 cc2 ca3 cc4 :: ro2 ca1 cc2 p0.cell :: ro111 ca3 cc4 p0.log :: L)) w)  :
    Calls Tryd.prog 105 #[pA B0 0, vI p1, vI p2, vI p3, vI p4, vB p5] w fun e w => ∃ caq0_1 ccq0_2 caq0_3 ccq0_4, e = .returned (.tuple #[]) ∧ Fit z (sepL (ob102 B0 q0 caq0_1 ccq0_2 caq0_3 ccq0_4 :: ro2 caq0_1 ccq0_2 q0.cell :: ro111 caq0_3 ccq0_4 q0.log :: L)) w := by
 unfold cells_Arena_note at H
 refine enter Tryd.func105 rfl 35 rfl rfl [(0, pA B0 0), (1, vI p1), (2, vI p2), (3, vI p3), (4, vI p4), (5, vB p5)] ⟨rfl, rfl, rfl, rfl, rfl, rfl, trivial⟩ ?_
 intro j a hr
 refine sr ?_
 refine oo [12, 13, 14] [pA B0 0, pA B0 0, pA B0 5] hr fun a hr => ?_
 refine ld (wn rfl) hr (vB p0.watched) (h.cell 5 rfl) fun a hr => ?_
 refine ln ?_
 refine cV hr H (fun c5 H => ?_) fun c5 H => ?_
 ·
  obtain ⟨c9, H⟩ := gd H
  refine regL [(B0, 3, [.slice ca3 p0.log.length cc4]), (B0, 4, [vI p0.actor])] [2, 3, 6, 7, 14] 20 h (fun h => ⟨⟨h.cell 3 rfl, trivial⟩, ⟨h.cell 4 rfl, trivial⟩, trivial⟩) fun w h hd => ?_
  refine evs' hd 8 [(0, 16, pA B0 0), (1, 17, pA B0 0), (2, 18, pA B0 0), (3, 19, pA B0 3), (5, 21, pA B0 0), (6, 22, pA B0 0), (7, 23, pA B0 4), (9, 25, vI p1), (10, 26, vI p2), (11, 27, vI p3), (12, 28, vI p4), (13, 29, vB p5)] hr fun a hr => ?_
  refine elx hd 0 7 4 hr (wn rfl) rfl rfl fun a hr => ?_
  refine elx hd 1 6 8 hr (wn rfl) rfl rfl fun a hr => ?_
  refine evs' hd 5 [(14, 30, .agg #[vI p0.actor, vI p1, vI p2, vI p3, vI p4, vB p5])] hr fun a hr => ?_
  refine eo1 15 rfl ?_
  refine onew (wn rfl) hr h (fun b => .slice (some ⟨b, 0, none⟩) 1 1) (#[vI p0.actor, vI p1, vI p2, vI p3, vI p4, vB p5]) 111 fun b6 w a h hr => ?_
  refine ln ?_
  refine xE ?_
  refine eo1 16 rfl ?_
  replace h := h.m3
  refine op_append (n0 := p0.log.length) (c := 1) (bytes := 48) (wn rfl) rfl rfl hr rfl (by kernel_rfl) (by kernel_rfl) enc_T_api_Access_ok (E := 111) (xs := p0.log) (by kernel_rfl) (by kernel_rfl) h (news := [(⟨p0.actor, p1, p2, p3, p4, p5⟩ : T_api_Access)]) (m := 1) rfl ((h.pick 1).news rfl) c9 rfl fun ca7 cc8 w a h hr => ?_
  refine ln ?_
  refine xE ?_
  refine evs 2 17 rfl (wn rfl) hr (pA B0 0) fun a hr => ?_
  refine evs 1 18 rfl (wn rfl) hr (pA B0 3) fun a hr => ?_
  refine eo1 19 rfl ?_
  replace h := h.m2
  refine st1 (wn rfl) hr h 3 (.slice ca7 (p0.log ++ [(⟨p0.actor, p1, p2, p3, p4, p5⟩ : T_api_Access)]).length cc8) (pts B0 (.cells #[vI p0.ledger_size, vI p0.ledger_mark, .slice ca1 p0.cell.length cc2, .slice ca7 (p0.log ++ [(⟨p0.actor, p1, p2, p3, p4, p5⟩ : T_api_Access)]).length cc8, vI p0.actor, vB p0.watched] 102)) fun w h => ?_
  refine ln ?_
  refine xE ?_
  refine een ?_
  refine end_norm0 rfl hr ?_
  replace H := ej1 H; subst H
  exact ⟨ca1, cc2, ca7, cc8, rfl, h.se 4 [0, 3, 1]⟩
 ·
  refine wp_skip ?_
  refine end_norm0 rfl hr ?_
  replace H := ej1 H; subst H
  exact ⟨ca1, cc2, ca3, cc4, rfl, h⟩

/-- (*plunder/cells.Arena).Reserve -/
def cells_Arena_Reserve (p0 : T_cells_Arena) (p1 : Int) : Option (Int × Int × T_cells_Arena) :=
  ob0 (some ()) (ob1 (cells_ledger_refuse p0 p1) (fun r7 => (if r7 = 0 then ob2 (cells_ledger_take p0 p1) (fun r10 S11 => if 0 ≤ p1 ∧ (S11.cell.length + p1.toNat) * 8 ≤ 140737488355328 then ob1 (cells_Arena_note ({ S11 with cell := S11.cell ++ List.replicate p1.toNat (0 : Int) }) 4 r10 p1 0 true) (fun S20 => some (r10, 0, S20)) else none) else some (0, r7, p0))))

theorem cells_Arena_Reserve_ok {z w : World} {L : List HProp} {p0 q0 : T_cells_Arena} {p1 r0 r1 : Int} {B0 cc2 cc4 : Nat} {ca1 ca3 : Option Addr} (H : cells_Arena_Reserve p0 p1 = some (r0, r1, q0)) (h : Fit z (sepL (ob102 B0 p0 ca1 cc2 ca3 cc4 :: ro2 ca1 cc2 p0.cell :: ro111 ca3 cc4 p0.log :: L)) w)  :
    Calls Tryd.prog 102 #[pA B0 0, vI p1] w fun e w => ∃ caq0_1 ccq0_2 caq0_3 ccq0_4, e = .returned (.tuple #[vI r0, vI r1]) ∧ Fit z (sepL (ob102 B0 q0 caq0_1 ccq0_2 caq0_3 ccq0_4 :: ro2 caq0_1 ccq0_2 q0.cell :: ro111 caq0_3 ccq0_4 q0.log :: L)) w := by
 unfold cells_Arena_Reserve at H
 refine enter Tryd.func102 rfl 37 rfl rfl [(0, pA B0 0), (1, vI p1)] ⟨rfl, rfl, trivial⟩ ?_
 intro j a hr
 refine sr ?_
 refine oo [4, 5] [vI 0, vI 0] hr fun a hr => ?_
 refine ln ?_
 refine sr ?_
 refine o1 hr (pN) fun a hr => ?_
 refine ln ?_
 obtain ⟨o6, H, hK5⟩ := kd0 H
 refine cut_rule (β := Unit) (fun _ a w => () = o6 ∧ ∃ j, Rep 37 (lk [(0, pA B0 0), (1, vI p1), (6, pA B0 0)] j) a ∧ Fit z (sepL (ob102 B0 p0 ca1 cc2 ca3 cc4 :: ro2 ca1 cc2 p0.cell :: ro111 ca3 cc4 p0.log :: L)) w) ?_ ?_
 ·
  refine sr ?_
  refine oo [9, 10] [pA B0 0, vB true] hr fun a hr => ?_
  refine ln ?_
  refine cond_tt hr (b := true) rfl ?_
  refine wp_region_lit ?_
  refine oo [11, 12, 13, 6] [pA B0 0, pA B0 0, pA B0 0, pA B0 0] hr fun a hr => ?_
  refine ln ?_
  exact ⟨(), sinj H, hr.fj h⟩
 clear h hr a; rintro _ a w ⟨rfl, j, hr, h⟩
 replace H := kk0 hK5
 refine wp_seq ?_
 refine sr ?_
 obtain ⟨r7, e8, H⟩ := bd1 H
 refine oo [14, 15] [pA B0 0, vI p1] hr fun a hr => ?_
 have hc := cells_ledger_refuse_ok (H := e8) (h := h)
 refine cl (wn rfl) hr hc ?_; clear hc h
 rintro _ w ⟨rfl, h⟩; refine ⟨_, rfl, fun a hr => ?_⟩
 refine o1 hr (vI r7) fun a hr => ?_
 refine ln ?_
 refine sr ?_
 refine oo [17, 18] [vI r7, vB (r7 != 0)] hr fun a hr => ?_
 refine ln ?_
 refine cN hr H (fun c9 H => ?_) fun c9 H => ?_
 ·
  refine wp_skip ?_
  refine then_normal ?_
  refine sr ?_
  obtain ⟨r10, S11, e12, H⟩ := bd2 H
  refine oo [20, 21] [pA B0 0, vI p1] hr fun a hr => ?_
  have hc := cells_ledger_take_ok (H := e12) (h := h)
  refine cl (wn rfl) hr hc ?_; clear hc h
  rintro _ w ⟨caq13, ccq14, caq15, ccq16, rfl, h⟩; refine ⟨_, rfl, fun a hr => ?_⟩
  refine o1 hr (vI r10) fun a hr => ?_
  refine ln ?_
  refine sr ?_
  refine oo [23, 24, 25, 26] [pA B0 0, pA B0 0, pA B0 0, pA B0 2] hr fun a hr => ?_
  refine ld (wn rfl) hr (.slice caq13 S11.cell.length ccq14) (h.cell 2 rfl) fun a hr => ?_
  refine o1 hr (vI p1) fun a hr => ?_
  replace h := h.m1
  obtain ⟨c19, H⟩ := gd H
  refine op_extend (kx := .i64) (n0 := S11.cell.length) (i := p1) (m := p1.toNat) (bytes := 8) (zc := #[vI 0]) (0 : Int) (wn rfl) rfl rfl hr rfl (by kernel_rfl) (by kernel_rfl) (Int.toNat_of_nonneg c19.1).symm encZ_i64_ok (E := 2) (xs := S11.cell) (by kernel_rfl) (by kernel_rfl) (by kernel_rfl) rfl h c19.2 rfl fun ca17 cc18 w a h hr => ?_
  refine oo [30, 31] [pA B0 0, pA B0 2] hr fun a hr => ?_
  replace h := h.m1
  refine st1 (wn rfl) hr h 2 (.slice ca17 (S11.cell ++ List.replicate p1.toNat (0 : Int)).length cc18) (pts B0 (.cells #[vI S11.ledger_size, vI S11.ledger_mark, .slice ca17 (S11.cell ++ List.replicate p1.toNat (0 : Int)).length cc18, .slice caq15 S11.log.length ccq16, vI S11.actor, vB S11.watched] 102)) fun w h => ?_
  refine ln ?_
  refine sr ?_
  obtain ⟨S20, e21, H⟩ := bd1 H
  refine oo [32, 33, 34] [pA B0 0, vI r10, vI p1] hr fun a hr => ?_
  have hc := cells_Arena_note_ok (H := e21) (h := h)
  refine cl (wn rfl) hr hc ?_; clear hc h
  rintro _ w ⟨caq22, ccq23, caq24, ccq25, rfl, h⟩; refine ⟨_, rfl, fun a hr => ?_⟩
  refine ln ?_
  refine sr ?_
  refine oo [36, 4, 5] [vI r10, vI r10, vI 0] hr fun a hr => ?_
  refine ln ?_
  refine wp_ret ?_
  refine end_ret2 (v := vI r10) (v' := vI 0) rfl hr (by kernel_rfl) (by kernel_rfl) ?_
  obtain ⟨rfl, rfl, rfl⟩ := ej3 H
  exact ⟨caq22, ccq23, caq24, ccq25, rfl, h⟩
 ·
  refine sr ?_
  refine oo [19, 4, 5] [vI r7, vI 0, vI r7] hr fun a hr => ?_
  refine ln ?_
  refine wp_ret ?_
  refine then_ret ?_
  refine end_ret2 (v := vI 0) (v' := vI r7) rfl hr (by kernel_rfl) (by kernel_rfl) ?_
  obtain ⟨rfl, rfl, rfl⟩ := ej3 H
  exact ⟨ca1, cc2, ca3, cc4, rfl, h⟩

/-- (plunder/frames.Table).join -/
def frames_Table__join (p0 : T_frames_Table) (p1 : Int) : Option (Int) :=
  some (wi ((wi (p0.Base + 1)) + (wi (p1 * 10))))

theorem frames_Table__join_ok {z w : World} {L : List HProp} {p0 : T_frames_Table} {p1 r0 : Int} (H : frames_Table__join p0 p1 = some r0) (h : Fit z (sepL (L)) w)  :
    Calls Tryd.prog 52 #[ag_T_frames_Table p0, vI p1] w fun e w => e = .returned (vI r0) ∧ Fit z (sepL (L)) w := by
 unfold frames_Table__join at H
 refine enter Tryd.func52 rfl 11 rfl rfl [(0, ag_T_frames_Table p0), (1, vI p1)] ⟨rfl, rfl, trivial⟩ ?_
 intro j a hr
 refine sr ?_
 refine onew (wn rfl) hr h nb (ca_T_frames_Table p0) 67 fun b1 w a h hr => ?_
 refine o1 hr (vI 0) fun a hr => ?_
 refine ln ?_
 refine sr ?_
 refine o1 hr (pA b1 0) fun a hr => ?_
 refine ld (wn rfl) hr (vI p0.Base) (h.cell 0 rfl) fun a hr => ?_
 refine oo [7, 8, 9, 10, 4] [vI (wi (p0.Base + 1)), vI p1, vI (wi (p1 * 10)), vI (wi ((wi (p0.Base + 1)) + (wi (p1 * 10)))), vI (wi ((wi (p0.Base + 1)) + (wi (p1 * 10))))] hr fun a hr => ?_
 refine ln ?_
 refine wp_ret ?_
 refine end_ret1 (v := vI (wi ((wi (p0.Base + 1)) + (wi (p1 * 10))))) rfl hr (by kernel_rfl) ?_
 replace H := ej1 H; subst H
 exact ⟨rfl, h.se 1 []⟩

/-- (*plunder/cells.ledger).has -/
def cells_ledger_has (p0 : T_cells_Arena) (p1 : Int) : Option (Bool) :=
  (if p1 ≥ 0 then some (decide (p1 < p0.ledger_mark)) else some false)

theorem cells_ledger_has_ok {z w : World} {L : List HProp} {p0 : T_cells_Arena} {p1 : Int} {B0 cc2 cc4 : Nat} {ca1 ca3 : Option Addr} {r0 : Bool} (H : cells_ledger_has p0 p1 = some r0) (h : Fit z (sepL (ob102 B0 p0 ca1 cc2 ca3 cc4 :: ro2 ca1 cc2 p0.cell :: ro111 ca3 cc4 p0.log :: L)) w)  :
    Calls Tryd.prog 108 #[pA B0 0, vI p1] w fun e w => e = .returned (vB r0) ∧ Fit z (sepL (ob102 B0 p0 ca1 cc2 ca3 cc4 :: ro2 ca1 cc2 p0.cell :: ro111 ca3 cc4 p0.log :: L)) w := by
 unfold cells_ledger_has at H
 refine enter Tryd.func108 rfl 15 rfl rfl [(0, pA B0 0), (1, vI p1)] ⟨rfl, rfl, trivial⟩ ?_
 intro j a hr
 refine sr ?_
 refine o1 hr (vB false) fun a hr => ?_
 refine ln ?_
 refine sr ?_
 refine oo [5, 6, 7] [vI p1, vB (decide (p1 ≥ 0)), vB (decide (p1 ≥ 0))] hr fun a hr => ?_
 by_cases c5 : p1 ≥ 0
 ·
  replace H := ifT c5 H
  refine onl (decide_eq_true c5) [8, 9, 10, 11] [vI p1, pA B0 0, pA B0 0, pA B0 1] hr fun a hr => ?_
  refine ld (wgt hr (decide_eq_true c5)) hr (vI p0.ledger_mark) (h.cell 1 rfl) fun a hr => ?_
  refine onl (decide_eq_true c5) [13] [vB (decide (p1 < p0.ledger_mark))] hr fun a hr => ?_
  refine opv (wn rfl) hr (vB (decide (p1 < p0.ledger_mark))) (rp_t (b := (decide (p1 ≥ 0))) rfl (by kernel_rfl) (decide_eq_true c5) (by kernel_rfl)) fun a hr => ?_
  refine o1 hr (vB (decide (p1 < p0.ledger_mark))) fun a hr => ?_
  refine ln ?_
  refine wp_ret ?_
  refine end_ret1 (v := vB (decide (p1 < p0.ledger_mark))) rfl hr (by kernel_rfl) ?_
  replace H := ej1 H; subst H
  exact ⟨rfl, h⟩
 ·
  replace H := ifF c5 H
  refine offl (decide_eq_false c5) [8, 9, 10, 11, 12, 13] hr fun a hr => ?_
  refine opv (wn rfl) hr (vB false) (rp_f (b := (decide (p1 ≥ 0))) rfl (by kernel_rfl) (decide_eq_false c5) (by kernel_rfl)) fun a hr => ?_
  refine o1 hr (vB false) fun a hr => ?_
  refine ln ?_
  refine wp_ret ?_
  refine end_ret1 (v := vB false) rfl hr (by kernel_rfl) ?_
  replace H := ej1 H; subst H
  exact ⟨rfl, h⟩

/-- (*plunder/cells.Arena).outside -/
def cells_Arena_outside (p0 : T_cells_Arena) (p1 : Int) : Option (Bool) :=
  ob1 (cells_ledger_has p0 p1) (fun r5 => some (!r5))

theorem cells_Arena_outside_ok {z w : World} {L : List HProp} {p0 : T_cells_Arena} {p1 : Int} {B0 cc2 cc4 : Nat} {ca1 ca3 : Option Addr} {r0 : Bool} (H : cells_Arena_outside p0 p1 = some r0) (h : Fit z (sepL (ob102 B0 p0 ca1 cc2 ca3 cc4 :: ro2 ca1 cc2 p0.cell :: ro111 ca3 cc4 p0.log :: L)) w)  :
    Calls Tryd.prog 104 #[pA B0 0, vI p1] w fun e w => e = .returned (vB r0) ∧ Fit z (sepL (ob102 B0 p0 ca1 cc2 ca3 cc4 :: ro2 ca1 cc2 p0.cell :: ro111 ca3 cc4 p0.log :: L)) w := by
 unfold cells_Arena_outside at H
 refine enter Tryd.func104 rfl 15 rfl rfl [(0, pA B0 0), (1, vI p1)] ⟨rfl, rfl, trivial⟩ ?_
 intro j a hr
 refine sr ?_
 refine o1 hr (vB false) fun a hr => ?_
 refine ln ?_
 refine sr ?_
 obtain ⟨r5, e6, H⟩ := bd1 H
 refine oo [5, 6, 7] [pA B0 0, vB false, vB false] hr fun a hr => ?_
 refine onl (rfl : false = false) [8, 9, 10, 11] [pA B0 0, pA B0 0, pA B0 0, vI p1] hr fun a hr => ?_
 have hc := cells_ledger_has_ok (H := e6) (h := h)
 refine cl (wgt hr (c := false) rfl) hr hc ?_; clear hc h
 rintro _ w ⟨rfl, h⟩; refine ⟨_, rfl, fun a hr => ?_⟩
 refine onl (rfl : false = false) [13] [vB (!r5)] hr fun a hr => ?_
 refine oo [14, 4] [vB (!r5), vB (!r5)] hr fun a hr => ?_
 refine ln ?_
 refine wp_ret ?_
 refine end_ret1 (v := vB (!r5)) rfl hr (by kernel_rfl) ?_
 replace H := ej1 H; subst H
 exact ⟨rfl, h⟩

/-- (*plunder/cells.Arena).Store -/
def cells_Arena_Store (p0 : T_cells_Arena) (p1 : Int) (p2 : Int) : Option (Int × T_cells_Arena) :=
  ob1 (cells_Arena_outside p0 p1) (fun r5 => (if r5 = true then some (20, p0) else if inr_ p1 p0.cell.length then ob1 (cells_Arena_note ({ p0 with cell := p0.cell.set p1.toNat p2 }) 1 p1 p2 0 true) (fun S10 => some (0, S10)) else none))

theorem cells_Arena_Store_ok {z w : World} {L : List HProp} {p0 q0 : T_cells_Arena} {p1 p2 r0 : Int} {B0 cc2 cc4 : Nat} {ca1 ca3 : Option Addr} (H : cells_Arena_Store p0 p1 p2 = some (r0, q0)) (h : Fit z (sepL (ob102 B0 p0 ca1 cc2 ca3 cc4 :: ro2 ca1 cc2 p0.cell :: ro111 ca3 cc4 p0.log :: L)) w)  :
    Calls Tryd.prog 103 #[pA B0 0, vI p1, vI p2] w fun e w => ∃ caq0_1 ccq0_2 caq0_3 ccq0_4, e = .returned (vI r0) ∧ Fit z (sepL (ob102 B0 q0 caq0_1 ccq0_2 caq0_3 ccq0_4 :: ro2 caq0_1 ccq0_2 q0.cell :: ro111 caq0_3 ccq0_4 q0.log :: L)) w := by
 unfold cells_Arena_Store at H
 refine enter Tryd.func103 rfl 21 rfl rfl [(0, pA B0 0), (1, vI p1), (2, vI p2)] ⟨rfl, rfl, rfl, trivial⟩ ?_
 intro j a hr
 refine sr ?_
 refine o1 hr (vI 0) fun a hr => ?_
 refine ln ?_
 refine wp_seq ?_
 refine sr ?_
 obtain ⟨r5, e6, H⟩ := bd1 H
 refine oo [7, 8] [pA B0 0, vI p1] hr fun a hr => ?_
 have hc := cells_Arena_outside_ok (H := e6) (h := h)
 refine cl (wn rfl) hr hc ?_; clear hc h
 rintro _ w ⟨rfl, h⟩; refine ⟨_, rfl, fun a hr => ?_⟩
 refine ln ?_
 refine cV hr H (fun c7 H => ?_) fun c7 H => ?_
 ·
  refine sr ?_
  refine o1 hr (vI 20) fun a hr => ?_
  refine ln ?_
  refine wp_ret ?_
  refine then_ret ?_
  refine end_ret1 (v := vI 20) rfl hr (by kernel_rfl) ?_
  obtain ⟨rfl, rfl⟩ := ej2 H
  exact ⟨ca1, cc2, ca3, cc4, rfl, h⟩
 ·
  refine wp_skip ?_
  refine then_normal ?_
  refine sr ?_
  refine oo [10, 11, 12] [pA B0 0, pA B0 0, pA B0 2] hr fun a hr => ?_
  refine ld (wn rfl) hr (.slice ca1 p0.cell.length cc2) (h.cell 2 rfl) fun a hr => ?_
  obtain ⟨c8, H⟩ := gd H
  refine oo [14, 15] [vI p1, vI p2] hr fun a hr => ?_
  refine opv (wn rfl) hr (pA (blk ca1) (p1.toNat * 1)) (ri_row (k := .i64) (E := 2) rfl (by kernel_rfl) (by kernel_rfl) (by kernel_rfl) (by kernel_rfl) (h.pick 1) c8) fun a hr => ?_
  replace h := h.m1
  refine stor (wn rfl) hr encZ_i64_ok h p1.toNat 0 (vI p2) (at_ p0.cell p1.toNat) p2 (at_ok c8) fun w h => ?_
  refine ln ?_
  refine sr ?_
  refine oo [17, 18, 19] [pA B0 0, vI p1, vI p2] hr fun a hr => ?_
  have hn8 : p0.cell.length = (p0.cell.set p1.toNat p2).length := h.row_n; replace h := Fit.ren1 hn8 (fun q_ => rowOf 2 1 encZ_i64 (.slice ca1 q_ cc2) (p0.cell.set p1.toNat p2)) (fun q_ => pts B0 (.cells #[vI p0.ledger_size, vI p0.ledger_mark, .slice ca1 q_ cc2, .slice ca3 p0.log.length cc4, vI p0.actor, vB p0.watched] 102)) h
  obtain ⟨S10, e11, H⟩ := bd1 H
  replace h := h.m2.m1.m2
  have hc := cells_Arena_note_ok (H := e11) (h := h)
  refine cl (wn rfl) hr hc ?_; clear hc h
  rintro _ w ⟨caq12, ccq13, caq14, ccq15, rfl, h⟩; refine ⟨_, rfl, fun a hr => ?_⟩
  refine ln ?_
  refine sr ?_
  refine o1 hr (vI 0) fun a hr => ?_
  refine ln ?_
  refine wp_ret ?_
  refine end_ret1 (v := vI 0) rfl hr (by kernel_rfl) ?_
  obtain ⟨rfl, rfl⟩ := ej2 H
  exact ⟨caq12, ccq13, caq14, ccq15, rfl, h⟩

def frames_New_iface_l1 (K : Nat) (p1 : Int) (r11 : Int) : Nat → T_cells_Arena → Int → Option (T_frames_Table × Int × T_cells_Arena)
  | 0, _, _ => none
  | k1 + 1, S21, g26 => (if g26 < p1 then ob1 (frames_Table__join (⟨r11, p1⟩ : T_frames_Table) g26) (fun r28 => ob2 (cells_Arena_Store S21 r28 1) (fun r30 S31 => (if r30 = 0 then (frames_New_iface_l1 K p1 r11 k1 S31 (wi (g26 + 1))) else some ((⟨0, 0⟩ : T_frames_Table), r30, S31)))) else some ((⟨r11, p1⟩ : T_frames_Table), 0, S21))
/-- plunder/frames.New -/
def frames_New_iface (K : Nat) (p0 : T_cells_Arena) (p1 : Int) : Option (T_frames_Table × Int × T_cells_Arena) :=
  ob1 (frames_Cells p1) (fun r6 => (if r6 = 0 then some ((⟨0, 0⟩ : T_frames_Table), 3, p0) else ob1 (frames_Cells p1) (fun r9 => ob3 (cells_Arena_Reserve p0 r9) (fun r11 r12 S13 => (if r12 = 0 then (frames_New_iface_l1 K p1 r11 K S13 0) else some ((⟨0, 0⟩ : T_frames_Table), r12, S13))))))

theorem frames_New_iface_ok {z w : World} {L : List HProp} {K : Nat} {p0 q0 : T_cells_Arena} {p1 r1 : Int} {B0 cc2 cc4 : Nat} {ca1 ca3 : Option Addr} {r0 : T_frames_Table} (H : frames_New_iface K p0 p1 = some (r0, r1, q0)) (h : Fit z (sepL (ob102 B0 p0 ca1 cc2 ca3 cc4 :: ro2 ca1 cc2 p0.cell :: ro111 ca3 cc4 p0.log :: L)) w)  :
    Calls Tryd.prog 34 #[.iface 37 (pA B0 0), vI p1] w fun e w => ∃ caq0_1 ccq0_2 caq0_3 ccq0_4, e = .returned (.tuple #[ag_T_frames_Table r0, vI r1]) ∧ Fit z (sepL (ob102 B0 q0 caq0_1 ccq0_2 caq0_3 ccq0_4 :: ro2 caq0_1 ccq0_2 q0.cell :: ro111 caq0_3 ccq0_4 q0.log :: L)) w := by
 unfold frames_New_iface at H
 refine enter Tryd.func34 rfl 53 rfl rfl [(0, .iface 37 (pA B0 0)), (1, vI p1)] ⟨rfl, rfl, trivial⟩ ?_
 intro j a hr
 refine sr ?_
 refine onew (wn rfl) hr h nb (#[vI 0, vI 0]) 67 fun b5 w a h hr => ?_
 refine o1 hr (vI 0) fun a hr => ?_
 refine ln ?_
 refine wp_seq ?_
 refine sr ?_
 refine oo [11, 12] [.iface 37 (pA B0 0), vB false] hr fun a hr => ?_
 refine ln ?_
 refine cond_ff hr (b := false) rfl ?_
 refine wp_skip ?_
 refine then_normal ?_
 refine wp_seq ?_
 refine sr ?_
 obtain ⟨r6, e7, H⟩ := bd1 H
 refine o1 hr (vI p1) fun a hr => ?_
 have hc := frames_Cells_ok (H := e7) (h := h)
 refine cl (wn rfl) hr hc ?_; clear hc h
 rintro _ w ⟨rfl, h⟩; refine ⟨_, rfl, fun a hr => ?_⟩
 refine o1 hr (vB (r6 == 0)) fun a hr => ?_
 refine ln ?_
 refine cD hr H (fun c8 H => ?_) fun c8 H => ?_
 ·
  refine sr ?_
  refine o1 hr (.agg #[vI 0, vI 0]) fun a hr => ?_
  refine stm (wn rfl) hr h 0 ([vI 0, vI 0]) (pts b5 (.cells #[vI 0, vI 0] 67)) fun w h => ?_
  refine o1 hr (vI 3) fun a hr => ?_
  refine ln ?_
  refine wp_ret ?_
  refine then_ret ?_
  refine end_retCT (cs := [vI 0, vI 0]) (v := vI 3) rfl hr (by kernel_rfl) (by kernel_rfl) (by kernel_rfl) (by kernel_rfl) (h.held 0 rfl) ?_
  obtain ⟨rfl, rfl, rfl⟩ := ej3 H
  exact ⟨ca1, cc2, ca3, cc4, rfl, h.se 4 [1, 2, 3]⟩
 ·
  refine wp_skip ?_
  refine then_normal ?_
  refine wp_seq ?_
  obtain ⟨r9, e10, H⟩ := bd1 H
  obtain ⟨r11, r12, S13, e14, H⟩ := bd3 H
  refine regL [] [] 12 h (fun _ => trivial) fun w h hd => ?_
  refine evs' hd 7 [(0, 19, .iface 37 (pA B0 0)), (1, 20, vI p1), (3, 22, .func (.method "Reserve") #[.iface 37 (pA B0 0)] #[]), (4, 23, .func (.method "Reserve") #[.iface 37 (pA B0 0)] #[]), (5, 24, .iface 37 (pA B0 0))] hr fun a hr => ?_
  refine eo1 2 rfl ?_
  have hc := frames_Cells_ok (H := e10) (h := h)
  refine cl (wn rfl) hr hc ?_; clear hc h
  rintro _ w ⟨rfl, h⟩; refine ⟨_, rfl, fun a hr => ?_⟩
  refine ln ?_
  refine xE ?_
  refine eo1 6 rfl ?_
  replace h := h.m3.m3.m3
  have hc := cells_Arena_Reserve_ok (H := e14) (h := h)
  refine cl (wn rfl) hr hc ?_; clear hc h
  rintro _ w ⟨caq15, ccq16, caq17, ccq18, rfl, h⟩; refine ⟨_, rfl, fun a hr => ?_⟩
  refine ln ?_
  refine xE ?_
  refine evs 4 7 rfl (wn rfl) hr (.tuple #[vI r11, vI r12]) fun a hr => ?_
  refine evs 3 8 rfl (wn rfl) hr (vI r11) fun a hr => ?_
  refine evs 2 9 rfl (wn rfl) hr (vI r12) fun a hr => ?_
  refine evs 1 10 rfl (wn rfl) hr (vI r11) fun a hr => ?_
  refine evs 0 11 rfl (wn rfl) hr (vI r12) fun a hr => ?_
  refine een ?_
  refine then_normal ?_
  refine wp_seq ?_
  refine sr ?_
  refine oo [28, 29] [vI r12, vB (r12 != 0)] hr fun a hr => ?_
  refine ln ?_
  refine cN hr H (fun c19 H => ?_) fun c19 H => ?_
  ·
   refine wp_skip ?_
   refine then_normal ?_
   refine sr ?_
   refine oo [32, 33, 34] [vI r11, vI p1, .agg #[vI r11, vI p1]] hr fun a hr => ?_
   refine onew (wn rfl) hr h nb (#[vI 0, vI 0]) 67 fun b20 w a h hr => ?_
   refine stm (wn rfl) hr h 0 ([vI r11, vI p1]) (pts b20 (.cells #[vI r11, vI p1] 67)) fun w h => ?_
   refine ln ?_
   refine wp_seq ?_
   refine sr ?_
   refine oo [35, 36] [vI p1, vI 0] hr fun a hr => ?_
   refine ln ?_
   refine wp_block ?_
   refine loop_rule (β := Nat) id (fun m a w => ∃ ca22 : Option Addr, ∃ cc23 : Nat, ∃ ca24 : Option Addr, ∃ cc25 : Nat, ∃ S21 : T_cells_Arena, ∃ g26 : Int, (frames_New_iface_l1 K p1 r11 m S21 g26) = some (r0, r1, q0) ∧ ∃ j, Rep 53 (lk [(0, .iface 37 (pA B0 0)), (4, pA b5 0), (8, pA b20 0), (35, vI p1), (36, vI g26)] j) a ∧ Fit z (sepL (ob102 B0 S21 ca22 cc23 ca24 cc25 :: ro2 ca22 cc23 S21.cell :: ro111 ca24 cc25 S21.log :: pts b5 (.cells #[vI 0, vI 0] 67) :: pts b20 (.cells #[vI r11, vI p1] 67) :: L)) w) K ⟨caq15, ccq16, caq17, ccq18, S13, 0, H, hr.fj (h.se 5 [1, 2, 3, 4, 0])⟩ ?_
   clear h hr a H; rintro k1 a w ⟨ca22, cc23, ca24, cc25, S21, g26, H, j, hr, h⟩
   cases k1 with
   | zero => exact absurd H (by simp [frames_New_iface_l1])
   | succ k1 =>
    rw [frames_New_iface_l1] at H
    refine sr ?_
    refine o1 hr (vB (decide (g26 < p1))) fun a hr => ?_
    refine ln ?_
    refine wp_seq ?_
    refine cD hr H (fun c27 H => ?_) fun c27 H => ?_
    ·
     refine wp_skip ?_
     refine then_normal ?_
     refine wp_seq ?_
     refine wp_block ?_
     refine sr ?_
     refine oo [38, 9] [vI g26, vI g26] hr fun a hr => ?_
     refine ln ?_
     refine wp_seq ?_
     obtain ⟨r28, e29, H⟩ := bd1 H
     obtain ⟨r30, S31, e32, H⟩ := bd2 H
     refine regL [(b20, 0, [vI r11, vI p1])] [3, 4, 5] 9 h (fun h => ⟨((h.pick 4).held 0 rfl), trivial⟩) fun w h hd => ?_
     refine evs' hd 4 [(0, 39, .iface 37 (pA B0 0)), (2, 41, vI g26), (4, 43, .func (.method "Store") #[.iface 37 (pA B0 0)] #[]), (5, 44, .func (.method "Store") #[.iface 37 (pA B0 0)] #[]), (6, 45, .iface 37 (pA B0 0))] hr fun a hr => ?_
     refine elm hd 0 3 1 hr (wn rfl) rfl rfl fun a hr => ?_
     refine eo1 3 rfl ?_
     have hc := frames_Table__join_ok (H := e29) (h := h)
     refine cl (wn rfl) hr hc ?_; clear hc h
     rintro _ w ⟨rfl, h⟩; refine ⟨_, rfl, fun a hr => ?_⟩
     refine ln ?_
     refine eE ⟨((h.pick 4).held 0 rfl), trivial⟩ fun hd => ?_
     refine eo1 7 rfl ?_
     have hc := cells_Arena_Store_ok (H := e32) (h := h)
     refine cl (wn rfl) hr hc ?_; clear hc h
     rintro _ w ⟨caq33, ccq34, caq35, ccq36, rfl, h⟩; refine ⟨_, rfl, fun a hr => ?_⟩
     refine ln ?_
     refine xE ?_
     refine evs 0 8 rfl (wn rfl) hr (vI r30) fun a hr => ?_
     refine een ?_
     refine then_normal ?_
     refine sr ?_
     refine oo [47, 48] [vI r30, vB (r30 != 0)] hr fun a hr => ?_
     refine ln ?_
     refine cN hr H (fun c37 H => ?_) fun c37 H => ?_
     ·
      refine wp_skip ?_
      refine blk_normal ?_
      refine then_normal ?_
      refine wp_region_lit ?_
      refine oo [51, 36] [vI (wi (g26 + 1)), vI (wi (g26 + 1))] hr fun a hr => ?_
      refine ln ?_
      exact ⟨_, ⟨caq33, ccq34, caq35, ccq36, S31, (wi (g26 + 1)), H, hr.fj h⟩, Nat.lt_succ_self _⟩
     ·
      refine sr ?_
      refine oo [49, 50] [.agg #[vI 0, vI 0], vI r30] hr fun a hr => ?_
      replace h := h.m3
      refine stm (wn rfl) hr h 0 ([vI 0, vI 0]) (pts b5 (.cells #[vI 0, vI 0] 67)) fun w h => ?_
      refine o1 hr (vI r30) fun a hr => ?_
      refine ln ?_
      refine wp_ret ?_
      refine blk_ret ?_
      refine then_ret ?_
      refine then_ret ?_
      refine blk_ret ?_
      refine then_ret ?_
      refine end_retCT (cs := [vI 0, vI 0]) (v := vI r30) rfl hr (by kernel_rfl) (by kernel_rfl) (by kernel_rfl) (by kernel_rfl) (h.held 0 rfl) ?_
      obtain ⟨rfl, rfl, rfl⟩ := ej3 H
      exact ⟨caq33, ccq34, caq35, ccq36, rfl, h.se 5 [1, 2, 3]⟩
    ·
     refine wp_exit ?_
     refine then_exit ?_
     refine then_exit ?_
     refine blk_here ?_
     refine then_normal ?_
     refine sr ?_
     refine ldm (wn rfl) hr (.agg #[vI r11, vI p1]) (cs := [vI r11, vI p1]) ((h.pick 4).held 0 rfl) fun a hr => ?_
     replace h := h.m3
     refine stm (wn rfl) hr h 0 ([vI r11, vI p1]) (pts b5 (.cells #[vI r11, vI p1] 67)) fun w h => ?_
     refine o1 hr (vI 0) fun a hr => ?_
     refine ln ?_
     refine wp_ret ?_
     refine end_retCT (cs := [vI r11, vI p1]) (v := vI 0) rfl hr (by kernel_rfl) (by kernel_rfl) (by kernel_rfl) (by kernel_rfl) (h.held 0 rfl) ?_
     obtain ⟨rfl, rfl, rfl⟩ := ej3 H
     exact ⟨ca22, cc23, ca24, cc25, rfl, h.se 5 [1, 2, 3]⟩
  ·
   refine sr ?_
   refine oo [30, 31] [.agg #[vI 0, vI 0], vI r12] hr fun a hr => ?_
   replace h := h.m3
   refine stm (wn rfl) hr h 0 ([vI 0, vI 0]) (pts b5 (.cells #[vI 0, vI 0] 67)) fun w h => ?_
   refine o1 hr (vI r12) fun a hr => ?_
   refine ln ?_
   refine wp_ret ?_
   refine then_ret ?_
   refine end_retCT (cs := [vI 0, vI 0]) (v := vI r12) rfl hr (by kernel_rfl) (by kernel_rfl) (by kernel_rfl) (by kernel_rfl) (h.held 0 rfl) ?_
   obtain ⟨rfl, rfl, rfl⟩ := ej3 H
   exact ⟨caq15, ccq16, caq17, ccq18, rfl, h.se 4 [1, 2, 3]⟩

/-- plunder/park.Cells -/
def park_Cells (p0 : Int) : Option (Int) :=
  (if p0 < 1 then some 0 else (if p0 > 64 then some 0 else some (wi ((2 : Int) + p0))))

theorem park_Cells_ok {z w : World} {L : List HProp} {p0 r0 : Int} (H : park_Cells p0 = some r0) (h : Fit z (sepL (L)) w)  :
    Calls Tryd.prog 53 #[vI p0] w fun e w => e = .returned (vI r0) ∧ Fit z (sepL (L)) w := by
 unfold park_Cells at H
 refine enter Tryd.func53 rfl 11 rfl rfl [(0, vI p0)] ⟨rfl, trivial⟩ ?_
 intro j a hr
 refine sr ?_
 refine o1 hr (vI 0) fun a hr => ?_
 refine ln ?_
 refine wp_seq ?_
 refine sr ?_
 refine oo [3, 4, 5] [vI p0, vB (decide (p0 < 1)), vB (decide (p0 < 1))] hr fun a hr => ?_
 by_cases c1 : p0 < 1
 ·
  replace H := ifT c1 H
  refine offl (decide_eq_true c1) [6, 7] hr fun a hr => ?_
  refine opv (wn rfl) hr (vB true) (rp_t (b := (decide (p0 < 1))) rfl (by kernel_rfl) (decide_eq_true c1) (by kernel_rfl)) fun a hr => ?_
  refine ln ?_
  refine cond_tt hr (b := true) rfl ?_
  refine sr ?_
  refine o1 hr (vI 0) fun a hr => ?_
  refine ln ?_
  refine wp_ret ?_
  refine then_ret ?_
  refine end_ret1 (v := vI 0) rfl hr (by kernel_rfl) ?_
  replace H := ej1 H; subst H
  exact ⟨rfl, h⟩
 ·
  replace H := ifF c1 H
  refine onl (decide_eq_false c1) [6, 7] [vI p0, vB (decide (p0 > 64))] hr fun a hr => ?_
  refine opv (wn rfl) hr (vB (decide (p0 > 64))) (rp_f (b := (decide (p0 < 1))) rfl (by kernel_rfl) (decide_eq_false c1) (by kernel_rfl)) fun a hr => ?_
  refine ln ?_
  refine cD hr H (fun c2 H => ?_) fun c2 H => ?_
  ·
   refine sr ?_
   refine o1 hr (vI 0) fun a hr => ?_
   refine ln ?_
   refine wp_ret ?_
   refine then_ret ?_
   refine end_ret1 (v := vI 0) rfl hr (by kernel_rfl) ?_
   replace H := ej1 H; subst H
   exact ⟨rfl, h⟩
  ·
   refine wp_skip ?_
   refine then_normal ?_
   refine sr ?_
   refine oo [9, 10, 2] [vI p0, vI (wi ((2 : Int) + p0)), vI (wi ((2 : Int) + p0))] hr fun a hr => ?_
   refine ln ?_
   refine wp_ret ?_
   refine end_ret1 (v := vI (wi ((2 : Int) + p0))) rfl hr (by kernel_rfl) ?_
   replace H := ej1 H; subst H
   exact ⟨rfl, h⟩

/-- plunder/park.New -/
def park_New_iface (p0 : T_cells_Arena) (p1 : Int) : Option (T_park_Lot × Int × T_cells_Arena) :=
  ob1 (park_Cells p1) (fun r6 => (if r6 = 0 then some ((⟨0, 0⟩ : T_park_Lot), 3, p0) else ob1 (park_Cells p1) (fun r9 => ob3 (cells_Arena_Reserve p0 r9) (fun r11 r12 S13 => (if r12 = 0 then some ((⟨r11, p1⟩ : T_park_Lot), 0, S13) else some ((⟨0, 0⟩ : T_park_Lot), r12, S13))))))

theorem park_New_iface_ok {z w : World} {L : List HProp} {p0 q0 : T_cells_Arena} {p1 r1 : Int} {B0 cc2 cc4 : Nat} {ca1 ca3 : Option Addr} {r0 : T_park_Lot} (H : park_New_iface p0 p1 = some (r0, r1, q0)) (h : Fit z (sepL (ob102 B0 p0 ca1 cc2 ca3 cc4 :: ro2 ca1 cc2 p0.cell :: ro111 ca3 cc4 p0.log :: L)) w)  :
    Calls Tryd.prog 35 #[.iface 37 (pA B0 0), vI p1] w fun e w => ∃ caq0_1 ccq0_2 caq0_3 ccq0_4, e = .returned (.tuple #[ag_T_park_Lot r0, vI r1]) ∧ Fit z (sepL (ob102 B0 q0 caq0_1 ccq0_2 caq0_3 ccq0_4 :: ro2 caq0_1 ccq0_2 q0.cell :: ro111 caq0_3 ccq0_4 q0.log :: L)) w := by
 unfold park_New_iface at H
 refine enter Tryd.func35 rfl 32 rfl rfl [(0, .iface 37 (pA B0 0)), (1, vI p1)] ⟨rfl, rfl, trivial⟩ ?_
 intro j a hr
 refine sr ?_
 refine onew (wn rfl) hr h nb (#[vI 0, vI 0]) 69 fun b5 w a h hr => ?_
 refine o1 hr (vI 0) fun a hr => ?_
 refine ln ?_
 refine wp_seq ?_
 refine sr ?_
 refine oo [8, 9] [.iface 37 (pA B0 0), vB false] hr fun a hr => ?_
 refine ln ?_
 refine cond_ff hr (b := false) rfl ?_
 refine wp_skip ?_
 refine then_normal ?_
 refine wp_seq ?_
 refine sr ?_
 obtain ⟨r6, e7, H⟩ := bd1 H
 refine o1 hr (vI p1) fun a hr => ?_
 have hc := park_Cells_ok (H := e7) (h := h)
 refine cl (wn rfl) hr hc ?_; clear hc h
 rintro _ w ⟨rfl, h⟩; refine ⟨_, rfl, fun a hr => ?_⟩
 refine o1 hr (vB (r6 == 0)) fun a hr => ?_
 refine ln ?_
 refine cD hr H (fun c8 H => ?_) fun c8 H => ?_
 ·
  refine sr ?_
  refine o1 hr (.agg #[vI 0, vI 0]) fun a hr => ?_
  refine stm (wn rfl) hr h 0 ([vI 0, vI 0]) (pts b5 (.cells #[vI 0, vI 0] 69)) fun w h => ?_
  refine o1 hr (vI 3) fun a hr => ?_
  refine ln ?_
  refine wp_ret ?_
  refine then_ret ?_
  refine end_retCT (cs := [vI 0, vI 0]) (v := vI 3) rfl hr (by kernel_rfl) (by kernel_rfl) (by kernel_rfl) (by kernel_rfl) (h.held 0 rfl) ?_
  obtain ⟨rfl, rfl, rfl⟩ := ej3 H
  exact ⟨ca1, cc2, ca3, cc4, rfl, h.se 4 [1, 2, 3]⟩
 ·
  refine wp_skip ?_
  refine then_normal ?_
  refine wp_seq ?_
  obtain ⟨r9, e10, H⟩ := bd1 H
  obtain ⟨r11, r12, S13, e14, H⟩ := bd3 H
  refine regL [] [] 12 h (fun _ => trivial) fun w h hd => ?_
  refine evs' hd 7 [(0, 16, .iface 37 (pA B0 0)), (1, 17, vI p1), (3, 19, .func (.method "Reserve") #[.iface 37 (pA B0 0)] #[]), (4, 20, .func (.method "Reserve") #[.iface 37 (pA B0 0)] #[]), (5, 21, .iface 37 (pA B0 0))] hr fun a hr => ?_
  refine eo1 2 rfl ?_
  have hc := park_Cells_ok (H := e10) (h := h)
  refine cl (wn rfl) hr hc ?_; clear hc h
  rintro _ w ⟨rfl, h⟩; refine ⟨_, rfl, fun a hr => ?_⟩
  refine ln ?_
  refine xE ?_
  refine eo1 6 rfl ?_
  replace h := h.m3.m3.m3
  have hc := cells_Arena_Reserve_ok (H := e14) (h := h)
  refine cl (wn rfl) hr hc ?_; clear hc h
  rintro _ w ⟨caq15, ccq16, caq17, ccq18, rfl, h⟩; refine ⟨_, rfl, fun a hr => ?_⟩
  refine ln ?_
  refine xE ?_
  refine evs 4 7 rfl (wn rfl) hr (.tuple #[vI r11, vI r12]) fun a hr => ?_
  refine evs 3 8 rfl (wn rfl) hr (vI r11) fun a hr => ?_
  refine evs 2 9 rfl (wn rfl) hr (vI r12) fun a hr => ?_
  refine evs 1 10 rfl (wn rfl) hr (vI r11) fun a hr => ?_
  refine evs 0 11 rfl (wn rfl) hr (vI r12) fun a hr => ?_
  refine een ?_
  refine then_normal ?_
  refine wp_seq ?_
  refine sr ?_
  refine oo [25, 26] [vI r12, vB (r12 != 0)] hr fun a hr => ?_
  refine ln ?_
  refine cN hr H (fun c19 H => ?_) fun c19 H => ?_
  ·
   refine wp_skip ?_
   refine then_normal ?_
   refine sr ?_
   refine oo [29, 30, 31] [vI r11, vI p1, .agg #[vI r11, vI p1]] hr fun a hr => ?_
   replace h := h.m3
   refine stm (wn rfl) hr h 0 ([vI r11, vI p1]) (pts b5 (.cells #[vI r11, vI p1] 69)) fun w h => ?_
   refine o1 hr (vI 0) fun a hr => ?_
   refine ln ?_
   refine wp_ret ?_
   refine end_retCT (cs := [vI r11, vI p1]) (v := vI 0) rfl hr (by kernel_rfl) (by kernel_rfl) (by kernel_rfl) (by kernel_rfl) (h.held 0 rfl) ?_
   obtain ⟨rfl, rfl, rfl⟩ := ej3 H
   exact ⟨caq15, ccq16, caq17, ccq18, rfl, h.se 4 [1, 2, 3]⟩
  ·
   refine sr ?_
   refine oo [27, 28] [.agg #[vI 0, vI 0], vI r12] hr fun a hr => ?_
   replace h := h.m3
   refine stm (wn rfl) hr h 0 ([vI 0, vI 0]) (pts b5 (.cells #[vI 0, vI 0] 69)) fun w h => ?_
   refine o1 hr (vI r12) fun a hr => ?_
   refine ln ?_
   refine wp_ret ?_
   refine then_ret ?_
   refine end_retCT (cs := [vI 0, vI 0]) (v := vI r12) rfl hr (by kernel_rfl) (by kernel_rfl) (by kernel_rfl) (by kernel_rfl) (h.held 0 rfl) ?_
   obtain ⟨rfl, rfl, rfl⟩ := ej3 H
   exact ⟨caq15, ccq16, caq17, ccq18, rfl, h.se 4 [1, 2, 3]⟩

/-- plunder/deque.New -/
def deque_New_iface (p0 : T_cells_Arena) (p1 : Int) (p2 : Int) : Option (T_deque_Deque × Int × T_cells_Arena) :=
  ob1 (deque_capsOK p1 p2) (fun r6 => (if r6 = true then ob3 (cells_Arena_Reserve p0 (wi ((4 : Int) + p1))) (fun r9 r10 S11 => (if r10 = 0 then ob2 (cells_Arena_Store S11 (wi (r9 + 2)) (wi (r9 + 3))) (fun r18 S19 => (if r18 = 0 then ob2 (cells_Arena_Store S19 (wi (r9 + 3)) p1) (fun r26 S27 => (if r26 = 0 then some ((⟨r9, p2⟩ : T_deque_Deque), 0, S27) else some ((⟨0, 0⟩ : T_deque_Deque), r26, S27))) else some ((⟨0, 0⟩ : T_deque_Deque), r18, S19))) else some ((⟨0, 0⟩ : T_deque_Deque), r10, S11))) else some ((⟨0, 0⟩ : T_deque_Deque), 30, p0)))

theorem deque_New_iface_ok {z w : World} {L : List HProp} {p0 q0 : T_cells_Arena} {p1 p2 r1 : Int} {B0 cc2 cc4 : Nat} {ca1 ca3 : Option Addr} {r0 : T_deque_Deque} (H : deque_New_iface p0 p1 p2 = some (r0, r1, q0)) (h : Fit z (sepL (ob102 B0 p0 ca1 cc2 ca3 cc4 :: ro2 ca1 cc2 p0.cell :: ro111 ca3 cc4 p0.log :: L)) w)  :
    Calls Tryd.prog 36 #[.iface 37 (pA B0 0), vI p1, vI p2] w fun e w => ∃ caq0_1 ccq0_2 caq0_3 ccq0_4, e = .returned (.tuple #[ag_T_deque_Deque r0, vI r1]) ∧ Fit z (sepL (ob102 B0 q0 caq0_1 ccq0_2 caq0_3 ccq0_4 :: ro2 caq0_1 ccq0_2 q0.cell :: ro111 caq0_3 ccq0_4 q0.log :: L)) w := by
 unfold deque_New_iface at H
 refine enter Tryd.func36 rfl 53 rfl rfl [(0, .iface 37 (pA B0 0)), (1, vI p1), (2, vI p2)] ⟨rfl, rfl, rfl, trivial⟩ ?_
 intro j a hr
 refine sr ?_
 refine onew (wn rfl) hr h nb (#[vI 0, vI 0]) 84 fun b5 w a h hr => ?_
 refine o1 hr (vI 0) fun a hr => ?_
 refine ln ?_
 refine wp_seq ?_
 refine sr ?_
 refine oo [12, 13] [.iface 37 (pA B0 0), vB false] hr fun a hr => ?_
 refine ln ?_
 refine cond_ff hr (b := false) rfl ?_
 refine wp_skip ?_
 refine then_normal ?_
 refine wp_seq ?_
 refine sr ?_
 obtain ⟨r6, e7, H⟩ := bd1 H
 refine oo [15, 16] [vI p1, vI p2] hr fun a hr => ?_
 have hc := deque_capsOK_ok (H := e7) (h := h)
 refine cl (wn rfl) hr hc ?_; clear hc h
 rintro _ w ⟨rfl, h⟩; refine ⟨_, rfl, fun a hr => ?_⟩
 refine o1 hr (vB (!r6)) fun a hr => ?_
 refine ln ?_
 refine cM hr H (fun c8 H => ?_) fun c8 H => ?_
 ·
  refine wp_skip ?_
  refine then_normal ?_
  refine sr ?_
  obtain ⟨r9, r10, S11, e12, H⟩ := bd3 H
  refine oo [21, 22, 23] [.iface 37 (pA B0 0), vI p1, vI (wi ((4 : Int) + p1))] hr fun a hr => ?_
  replace h := h.m3.m3.m3
  have hc := cells_Arena_Reserve_ok (H := e12) (h := h)
  refine cl (wn rfl) hr hc ?_; clear hc h
  rintro _ w ⟨caq13, ccq14, caq15, ccq16, rfl, h⟩; refine ⟨_, rfl, fun a hr => ?_⟩
  refine oo [20, 25, 26, 8, 9] [.tuple #[vI r9, vI r10], vI r9, vI r10, vI r9, vI r10] hr fun a hr => ?_
  refine ln ?_
  refine wp_seq ?_
  refine sr ?_
  refine oo [27, 28] [vI r10, vB (r10 != 0)] hr fun a hr => ?_
  refine ln ?_
  refine cN hr H (fun c17 H => ?_) fun c17 H => ?_
  ·
   refine wp_skip ?_
   refine then_normal ?_
   refine wp_seq ?_
   refine sr ?_
   obtain ⟨r18, S19, e20, H⟩ := bd2 H
   refine oo [31, 32, 33, 34, 35] [.iface 37 (pA B0 0), vI r9, vI (wi (r9 + 2)), vI r9, vI (wi (r9 + 3))] hr fun a hr => ?_
   have hc := cells_Arena_Store_ok (H := e20) (h := h)
   refine cl (wn rfl) hr hc ?_; clear hc h
   rintro _ w ⟨caq21, ccq22, caq23, ccq24, rfl, h⟩; refine ⟨_, rfl, fun a hr => ?_⟩
   refine o1 hr (vI r18) fun a hr => ?_
   refine ln ?_
   refine sr ?_
   refine oo [37, 38] [vI r18, vB (r18 != 0)] hr fun a hr => ?_
   refine ln ?_
   refine cN hr H (fun c25 H => ?_) fun c25 H => ?_
   ·
    refine wp_skip ?_
    refine then_normal ?_
    refine wp_seq ?_
    refine sr ?_
    obtain ⟨r26, S27, e28, H⟩ := bd2 H
    refine oo [41, 42, 43, 44] [.iface 37 (pA B0 0), vI r9, vI (wi (r9 + 3)), vI p1] hr fun a hr => ?_
    have hc := cells_Arena_Store_ok (H := e28) (h := h)
    refine cl (wn rfl) hr hc ?_; clear hc h
    rintro _ w ⟨caq29, ccq30, caq31, ccq32, rfl, h⟩; refine ⟨_, rfl, fun a hr => ?_⟩
    refine o1 hr (vI r26) fun a hr => ?_
    refine ln ?_
    refine sr ?_
    refine oo [46, 47] [vI r26, vB (r26 != 0)] hr fun a hr => ?_
    refine ln ?_
    refine cN hr H (fun c33 H => ?_) fun c33 H => ?_
    ·
     refine wp_skip ?_
     refine then_normal ?_
     refine sr ?_
     refine oo [50, 51, 52] [vI r9, vI p2, .agg #[vI r9, vI p2]] hr fun a hr => ?_
     replace h := h.m3
     refine stm (wn rfl) hr h 0 ([vI r9, vI p2]) (pts b5 (.cells #[vI r9, vI p2] 84)) fun w h => ?_
     refine o1 hr (vI 0) fun a hr => ?_
     refine ln ?_
     refine wp_ret ?_
     refine end_retCT (cs := [vI r9, vI p2]) (v := vI 0) rfl hr (by kernel_rfl) (by kernel_rfl) (by kernel_rfl) (by kernel_rfl) (h.held 0 rfl) ?_
     obtain ⟨rfl, rfl, rfl⟩ := ej3 H
     exact ⟨caq29, ccq30, caq31, ccq32, rfl, h.se 4 [1, 2, 3]⟩
    ·
     refine sr ?_
     refine oo [48, 49] [.agg #[vI 0, vI 0], vI r26] hr fun a hr => ?_
     replace h := h.m3
     refine stm (wn rfl) hr h 0 ([vI 0, vI 0]) (pts b5 (.cells #[vI 0, vI 0] 84)) fun w h => ?_
     refine o1 hr (vI r26) fun a hr => ?_
     refine ln ?_
     refine wp_ret ?_
     refine then_ret ?_
     refine end_retCT (cs := [vI 0, vI 0]) (v := vI r26) rfl hr (by kernel_rfl) (by kernel_rfl) (by kernel_rfl) (by kernel_rfl) (h.held 0 rfl) ?_
     obtain ⟨rfl, rfl, rfl⟩ := ej3 H
     exact ⟨caq29, ccq30, caq31, ccq32, rfl, h.se 4 [1, 2, 3]⟩
   ·
    refine sr ?_
    refine oo [39, 40] [.agg #[vI 0, vI 0], vI r18] hr fun a hr => ?_
    replace h := h.m3
    refine stm (wn rfl) hr h 0 ([vI 0, vI 0]) (pts b5 (.cells #[vI 0, vI 0] 84)) fun w h => ?_
    refine o1 hr (vI r18) fun a hr => ?_
    refine ln ?_
    refine wp_ret ?_
    refine then_ret ?_
    refine end_retCT (cs := [vI 0, vI 0]) (v := vI r18) rfl hr (by kernel_rfl) (by kernel_rfl) (by kernel_rfl) (by kernel_rfl) (h.held 0 rfl) ?_
    obtain ⟨rfl, rfl, rfl⟩ := ej3 H
    exact ⟨caq21, ccq22, caq23, ccq24, rfl, h.se 4 [1, 2, 3]⟩
  ·
   refine sr ?_
   refine oo [29, 30] [.agg #[vI 0, vI 0], vI r10] hr fun a hr => ?_
   replace h := h.m3
   refine stm (wn rfl) hr h 0 ([vI 0, vI 0]) (pts b5 (.cells #[vI 0, vI 0] 84)) fun w h => ?_
   refine o1 hr (vI r10) fun a hr => ?_
   refine ln ?_
   refine wp_ret ?_
   refine then_ret ?_
   refine end_retCT (cs := [vI 0, vI 0]) (v := vI r10) rfl hr (by kernel_rfl) (by kernel_rfl) (by kernel_rfl) (by kernel_rfl) (h.held 0 rfl) ?_
   obtain ⟨rfl, rfl, rfl⟩ := ej3 H
   exact ⟨caq13, ccq14, caq15, ccq16, rfl, h.se 4 [1, 2, 3]⟩
 ·
  refine sr ?_
  refine o1 hr (.agg #[vI 0, vI 0]) fun a hr => ?_
  refine stm (wn rfl) hr h 0 ([vI 0, vI 0]) (pts b5 (.cells #[vI 0, vI 0] 84)) fun w h => ?_
  refine o1 hr (vI 30) fun a hr => ?_
  refine ln ?_
  refine wp_ret ?_
  refine then_ret ?_
  refine end_retCT (cs := [vI 0, vI 0]) (v := vI 30) rfl hr (by kernel_rfl) (by kernel_rfl) (by kernel_rfl) (by kernel_rfl) (h.held 0 rfl) ?_
  obtain ⟨rfl, rfl, rfl⟩ := ej3 H
  exact ⟨ca1, cc2, ca3, cc4, rfl, h.se 4 [1, 2, 3]⟩

/-- (plunder/frames.Table).next -/
def frames_Table__next (p0 : T_frames_Table) : Option (Int) :=
  some p0.Base

theorem frames_Table__next_ok {z w : World} {L : List HProp} {p0 : T_frames_Table} {r0 : Int} (H : frames_Table__next p0 = some r0) (h : Fit z (sepL (L)) w)  :
    Calls Tryd.prog 77 #[ag_T_frames_Table p0] w fun e w => e = .returned (vI r0) ∧ Fit z (sepL (L)) w := by
 unfold frames_Table__next at H
 refine enter Tryd.func77 rfl 5 rfl rfl [(0, ag_T_frames_Table p0)] ⟨rfl, trivial⟩ ?_
 intro j a hr
 refine sr ?_
 refine onew (wn rfl) hr h nb (ca_T_frames_Table p0) 67 fun b1 w a h hr => ?_
 refine o1 hr (vI 0) fun a hr => ?_
 refine ln ?_
 refine sr ?_
 refine o1 hr (pA b1 0) fun a hr => ?_
 refine ld (wn rfl) hr (vI p0.Base) (h.cell 0 rfl) fun a hr => ?_
 refine o1 hr (vI p0.Base) fun a hr => ?_
 refine ln ?_
 refine wp_ret ?_
 refine end_ret1 (v := vI p0.Base) rfl hr (by kernel_rfl) ?_
 replace H := ej1 H; subst H
 exact ⟨rfl, h.se 1 []⟩

/-- (*plunder/cells.Arena).Add -/
def cells_Arena_Add (p0 : T_cells_Arena) (p1 : Int) (p2 : Int) : Option (Int × Int × T_cells_Arena) :=
  ob1 (cells_Arena_outside p0 p1) (fun r5 => (if r5 = true then some (0, 20, p0) else if inr_ p1 p0.cell.length then if inr_ p1 (p0.cell.set p1.toNat (wi ((at_ p0.cell p1.toNat) + p2))).length then ob1 (cells_Arena_note ({ p0 with cell := p0.cell.set p1.toNat (wi ((at_ p0.cell p1.toNat) + p2)) }) 3 p1 p2 (wi ((at_ p0.cell p1.toNat) + p2)) true) (fun S11 => if inr_ p1 S11.cell.length then some ((at_ S11.cell p1.toNat), 0, S11) else none) else none else none))

theorem cells_Arena_Add_ok {z w : World} {L : List HProp} {p0 q0 : T_cells_Arena} {p1 p2 r0 r1 : Int} {B0 cc2 cc4 : Nat} {ca1 ca3 : Option Addr} (H : cells_Arena_Add p0 p1 p2 = some (r0, r1, q0)) (h : Fit z (sepL (ob102 B0 p0 ca1 cc2 ca3 cc4 :: ro2 ca1 cc2 p0.cell :: ro111 ca3 cc4 p0.log :: L)) w)  :
    Calls Tryd.prog 99 #[pA B0 0, vI p1, vI p2] w fun e w => ∃ caq0_1 ccq0_2 caq0_3 ccq0_4, e = .returned (.tuple #[vI r0, vI r1]) ∧ Fit z (sepL (ob102 B0 q0 caq0_1 ccq0_2 caq0_3 ccq0_4 :: ro2 caq0_1 ccq0_2 q0.cell :: ro111 caq0_3 ccq0_4 q0.log :: L)) w := by
 unfold cells_Arena_Add at H
 refine enter Tryd.func99 rfl 39 rfl rfl [(0, pA B0 0), (1, vI p1), (2, vI p2)] ⟨rfl, rfl, rfl, trivial⟩ ?_
 intro j a hr
 refine sr ?_
 refine oo [6, 7] [vI 0, vI 0] hr fun a hr => ?_
 refine ln ?_
 refine wp_seq ?_
 refine sr ?_
 obtain ⟨r5, e6, H⟩ := bd1 H
 refine oo [8, 9] [pA B0 0, vI p1] hr fun a hr => ?_
 have hc := cells_Arena_outside_ok (H := e6) (h := h)
 refine cl (wn rfl) hr hc ?_; clear hc h
 rintro _ w ⟨rfl, h⟩; refine ⟨_, rfl, fun a hr => ?_⟩
 refine ln ?_
 refine cV hr H (fun c7 H => ?_) fun c7 H => ?_
 ·
  refine sr ?_
  refine oo [6, 7] [vI 0, vI 20] hr fun a hr => ?_
  refine ln ?_
  refine wp_ret ?_
  refine then_ret ?_
  refine end_ret2 (v := vI 0) (v' := vI 20) rfl hr (by kernel_rfl) (by kernel_rfl) ?_
  obtain ⟨rfl, rfl, rfl⟩ := ej3 H
  exact ⟨ca1, cc2, ca3, cc4, rfl, h⟩
 ·
  refine wp_skip ?_
  refine then_normal ?_
  refine sr ?_
  refine oo [11, 12, 13] [pA B0 0, pA B0 0, pA B0 2] hr fun a hr => ?_
  refine ld (wn rfl) hr (.slice ca1 p0.cell.length cc2) (h.cell 2 rfl) fun a hr => ?_
  obtain ⟨c8, H⟩ := gd H
  refine o1 hr (vI p1) fun a hr => ?_
  refine opv (wn rfl) hr (pA (blk ca1) (p1.toNat * 1)) (ri_row (k := .i64) (E := 2) rfl (by kernel_rfl) (by kernel_rfl) (by kernel_rfl) (by kernel_rfl) (h.pick 1) c8) fun a hr => ?_
  refine ld (wn rfl) hr (vI (at_ p0.cell p1.toNat)) ((h.pick 1).row_cell encZ_i64_ok (f := 0) (at_ok c8) rfl) fun a hr => ?_
  refine oo [18, 19] [vI p2, vI (wi ((at_ p0.cell p1.toNat) + p2))] hr fun a hr => ?_
  refine opv (wn rfl) hr (pA (blk ca1) (p1.toNat * 1)) (ri_row (k := .i64) (E := 2) rfl (by kernel_rfl) (by kernel_rfl) (by kernel_rfl) (by kernel_rfl) (h.pick 1) c8) fun a hr => ?_
  replace h := h.m1
  refine stor (wn rfl) hr encZ_i64_ok h p1.toNat 0 (vI (wi ((at_ p0.cell p1.toNat) + p2))) (at_ p0.cell p1.toNat) (wi ((at_ p0.cell p1.toNat) + p2)) (at_ok c8) fun w h => ?_
  refine ln ?_
  refine sr ?_
  refine oo [21, 22, 23, 24, 25, 26] [pA B0 0, vI p1, vI p2, pA B0 0, pA B0 0, pA B0 2] hr fun a hr => ?_
  refine ld (wn rfl) hr (.slice ca1 p0.cell.length cc2) ((h.pick 1).cell 2 rfl) fun a hr => ?_
  obtain ⟨c9, H⟩ := gd H
  refine o1 hr (vI p1) fun a hr => ?_
  refine opv (wn rfl) hr (pA (blk ca1) (p1.toNat * 1)) (ri_row (k := .i64) (E := 2) rfl (by kernel_rfl) (by kernel_rfl) (by kernel_rfl) (by kernel_rfl) h c9) fun a hr => ?_
  refine ld (wn rfl) hr (vI (wi ((at_ p0.cell p1.toNat) + p2))) (h.row_cell encZ_i64_ok (f := 0) (get_set ((at_okL (by simpa [inr_] using c9)))) rfl) fun a hr => ?_
  have hn9 : p0.cell.length = (p0.cell.set p1.toNat (wi ((at_ p0.cell p1.toNat) + p2))).length := h.row_n; replace h := Fit.ren1 hn9 (fun q_ => rowOf 2 1 encZ_i64 (.slice ca1 q_ cc2) (p0.cell.set p1.toNat (wi ((at_ p0.cell p1.toNat) + p2)))) (fun q_ => pts B0 (.cells #[vI p0.ledger_size, vI p0.ledger_mark, .slice ca1 q_ cc2, .slice ca3 p0.log.length cc4, vI p0.actor, vB p0.watched] 102)) h
  obtain ⟨S11, e12, H⟩ := bd1 H
  replace h := h.m2.m1.m2
  have hc := cells_Arena_note_ok (H := e12) (h := h)
  refine cl (wn rfl) hr hc ?_; clear hc h
  rintro _ w ⟨caq13, ccq14, caq15, ccq16, rfl, h⟩; refine ⟨_, rfl, fun a hr => ?_⟩
  refine ln ?_
  refine sr ?_
  refine oo [32, 33, 34] [pA B0 0, pA B0 0, pA B0 2] hr fun a hr => ?_
  refine ld (wn rfl) hr (.slice caq13 S11.cell.length ccq14) (h.cell 2 rfl) fun a hr => ?_
  obtain ⟨c17, H⟩ := gd H
  refine o1 hr (vI p1) fun a hr => ?_
  refine opv (wn rfl) hr (pA (blk caq13) (p1.toNat * 1)) (ri_row (k := .i64) (E := 2) rfl (by kernel_rfl) (by kernel_rfl) (by kernel_rfl) (by kernel_rfl) (h.pick 1) c17) fun a hr => ?_
  refine ld (wn rfl) hr (vI (at_ S11.cell p1.toNat)) ((h.pick 1).row_cell encZ_i64_ok (f := 0) (at_ok c17) rfl) fun a hr => ?_
  refine oo [6, 7] [vI (at_ S11.cell p1.toNat), vI 0] hr fun a hr => ?_
  refine ln ?_
  refine wp_ret ?_
  refine end_ret2 (v := vI (at_ S11.cell p1.toNat)) (v' := vI 0) rfl hr (by kernel_rfl) (by kernel_rfl) ?_
  obtain ⟨rfl, rfl, rfl⟩ := ej3 H
  exact ⟨caq13, ccq14, caq15, ccq16, rfl, h⟩

/-- (*plunder/frames.head).end -/
def frames_head_end (p0 : T_frames_Op) (p1 : Int) (p2 : Int) : Option (T_frames_Op) :=
  some ({ p0 with head_stands := 0, head_code := p1, head_v := p2 })

theorem frames_head_end_ok {z w : World} {L : List HProp} {p0 q0 : T_frames_Op} {p1 p2 : Int} {B0 : Nat} (H : frames_head_end p0 p1 p2 = some q0) (h : Fit z (sepL (ob90 B0 p0 :: L)) w)  :
    Calls Tryd.prog 55 #[pA B0 0, vI p1, vI p2] w fun e w => e = .returned (.tuple #[]) ∧ Fit z (sepL (ob90 B0 q0 :: L)) w := by
 unfold frames_head_end at H
 refine enter Tryd.func55 rfl 17 rfl rfl [(0, pA B0 0), (1, vI p1), (2, vI p2)] ⟨rfl, rfl, rfl, trivial⟩ ?_
 intro j a hr
 refine sr ?_
 refine oo [6, 7, 8] [pA B0 0, pA B0 0, pA B0 3] hr fun a hr => ?_
 refine st1 (wn rfl) hr h 3 (vI 0) (pts B0 (.cells #[vI p0.head_t_Base, vI p0.head_t_Frames, vI p0.head_frame, vI 0, vI p0.head_code, vI p0.head_v, vI p0.kind, vI p0.slot, vI p0.give] 90)) fun w h => ?_
 refine ln ?_
 refine sr ?_
 refine oo [9, 10, 11, 12] [pA B0 0, vI p1, pA B0 0, pA B0 4] hr fun a hr => ?_
 refine st1 (wn rfl) hr h 4 (vI p1) (pts B0 (.cells #[vI p0.head_t_Base, vI p0.head_t_Frames, vI p0.head_frame, vI 0, vI p1, vI p0.head_v, vI p0.kind, vI p0.slot, vI p0.give] 90)) fun w h => ?_
 refine ln ?_
 refine wp_region_lit ?_
 refine oo [13, 14, 15, 16] [pA B0 0, vI p2, pA B0 0, pA B0 5] hr fun a hr => ?_
 refine st1 (wn rfl) hr h 5 (vI p2) (pts B0 (.cells #[vI p0.head_t_Base, vI p0.head_t_Frames, vI p0.head_frame, vI 0, vI p1, vI p2, vI p0.kind, vI p0.slot, vI p0.give] 90)) fun w h => ?_
 refine wpList_nil ?_
 refine end_norm0 rfl hr ?_
 replace H := ej1 H; subst H
 exact ⟨rfl, h⟩

/-- (*plunder/frames.Op).alloc -/
def frames_Op_alloc_iface (p0 : T_frames_Op) (p1 : T_cells_Arena) : Option (Int × T_frames_Op × T_cells_Arena) :=
  ob1 (frames_Table__next (⟨p0.head_t_Base, p0.head_t_Frames⟩ : T_frames_Table)) (fun r5 => ob3 (cells_Arena_Add p1 r5 1) (fun r7 r8 S9 => (if r8 = 0 then ob1 ((if r7 ≥ 1 then some (decide (r7 ≤ p0.head_t_Frames)) else some false)) (fun g16 => (if g16 = true then ob1 (frames_head_end p0 4 (wi (r7 - 1))) (fun S21 => some (0, S21, S9)) else ob1 (frames_head_end p0 3 0) (fun S23 => some (0, S23, S9)))) else some (r8, p0, S9))))


end
end Go.Proofs.YtpikpffbcjpmcaaDoor.Mo
