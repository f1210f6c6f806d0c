/- what the functions compute, as plain Lean functions, and that they do -/
import Derived.Test.YtacgigkonoegiaaCl3
namespace Go.Proofs.Ytacgigkonoegiaa.Mo
open Go Go.RowKit Go.Proofs.Ytacgigkonoegiaa.SL Go.Proofs.Ytacgigkonoegiaa.GX
set_option linter.unusedVariables false
set_option linter.unusedSimpArgs false
set_option maxRecDepth 100000
set_option maxHeartbeats 4000000

theorem plunderlaw2_untold_ok {z w : World} {L : List HProp} {K : Nat} {p0 p1 : Int} {p2 : List T_plunderlaw2_Move} {va2 : Option Addr} {vc2 : Nat} {r0 : Bool} (H : plunderlaw2_untold K p0 p1 p2 = some r0) (h : Fit z (sepL (L)) w) (hv2 : RdRow L 5 enc_T_plunderlaw2_Move va2 p2) :
    Calls Try.prog 26 #[vI p0, vI p1, .slice va2 p2.length vc2] w fun e w => e = .returned (vB r0) ∧ Fit z (sepL (L)) w := by
 unfold plunderlaw2_untold at H
 refine enter Try.func26 rfl 138 rfl rfl [(0, vI p0), (1, vI p1), (2, .slice va2 p2.length vc2)] ⟨rfl, rfl, rfl, trivial⟩ ?_
 intro j a hr
 refine sr ?_
 refine o1 hr (vB false) fun a hr => ?_
 refine ln ?_
 refine sr ?_
 obtain ⟨r1, r2, e3, H⟩ := bd2 H
 refine o1 hr (vI p0) fun a hr => ?_
 have hc := plunderref2_New_ok (H := e3) (h := h)
 refine cl (wn rfl) hr hc ?_; clear hc h
 rintro _ w ⟨Bn4, car5, ccr6, car7, ccr8, rfl, h⟩; refine ⟨_, rfl, fun a hr => ?_⟩
 refine oo [19, 22, 23, 7, 8] [.tuple #[pA Bn4 0, vI r2], pA Bn4 0, vI r2, pA Bn4 0, vI r2] hr fun a hr => ?_
 refine ln ?_
 refine sr ?_
 obtain ⟨r9, r10, e11, H⟩ := bd2 H
 refine o1 hr (vI p1) fun a hr => ?_
 have hc := plunderref2_New_ok (H := e11) (h := h)
 refine cl (wn rfl) hr hc ?_; clear hc h
 rintro _ w ⟨Bn12, car13, ccr14, car15, ccr16, rfl, h⟩; refine ⟨_, rfl, fun a hr => ?_⟩
 refine oo [24, 27, 28, 9, 10] [.tuple #[pA Bn12 0, vI r10], pA Bn12 0, vI r10, pA Bn12 0, vI r10] hr fun a hr => ?_
 refine ln ?_
 refine sr ?_
 obtain ⟨r17, r18, e19, H⟩ := bd2 H
 refine o1 hr (vI p0) fun a hr => ?_
 cases r17 with
 | some S20 =>
  have hc := cells_New_ok0 (H := e19) (h := h)
  refine cl (wn rfl) hr hc ?_; clear hc h
  rintro _ w ⟨Bn21, car22, ccr23, car24, ccr25, rfl, h⟩; refine ⟨_, rfl, fun a hr => ?_⟩
  refine oo [29, 32, 33, 11, 12] [.tuple #[pA Bn21 0, vI r18], pA Bn21 0, vI r18, pA Bn21 0, vI r18] hr fun a hr => ?_
  refine ln ?_
  refine sr ?_
  obtain ⟨r26, r27, e28, H⟩ := bd2 H
  refine o1 hr (vI p1) fun a hr => ?_
  cases r26 with
  | some S29 =>
   have hc := cells_New_ok0 (H := e28) (h := h)
   refine cl (wn rfl) hr hc ?_; clear hc h
   rintro _ w ⟨Bn30, car31, ccr32, car33, ccr34, rfl, h⟩; refine ⟨_, rfl, fun a hr => ?_⟩
   refine oo [34, 37, 38, 13, 14] [.tuple #[pA Bn30 0, vI r27], pA Bn30 0, vI r27, pA Bn30 0, vI r27] hr fun a hr => ?_
   refine ln ?_
   obtain ⟨o36, H, hK35⟩ := jd0 H
   refine cut_rule (β := Unit) (fun _ a w => .inl () = o36 ∧ ∃ j, Rep 138 (lk [(2, .slice va2 p2.length vc2), (7, pA Bn4 0), (9, pA Bn12 0), (11, pA Bn21 0), (13, pA Bn30 0)] j) a ∧ Fit z (sepL (ob62 Bn4 r1 car5 ccr6 car7 ccr8 :: ro2 car5 ccr6 r1.Held :: ro90 car7 ccr8 r1.Book :: ob62 Bn12 r9 car13 ccr14 car15 ccr16 :: ro2 car13 ccr14 r9.Held :: ro90 car15 ccr16 r9.Book :: ob96 Bn21 S20 car22 ccr23 car24 ccr25 :: ro2 car22 ccr23 S20.cell :: ro90 car24 ccr25 S20.log :: ob96 Bn30 S29 car31 ccr32 car33 ccr34 :: ro2 car31 ccr32 S29.cell :: ro90 car33 ccr34 S29.log :: L)) w) ?_ ?_
   ·
    refine sr ?_
    refine oo [39, 40, 41, 42] [vI r18, vI r2, vB (r18 != r2), vB (r18 != r2)] hr fun a hr => ?_
    by_cases c37 : r18 = r2
    ·
     replace H := ifT c37 H
     refine onl (bne_eq_false_iff_eq.mpr c37) [43, 44, 45] [vI r27, vI r10, vB (r27 != r10)] hr fun a hr => ?_
     refine opv (wn rfl) hr (vB (r27 != r10)) (rp_f (b := (r18 != r2)) rfl (by kernel_rfl) (bne_eq_false_iff_eq.mpr c37) (by kernel_rfl)) fun a hr => ?_
     refine o1 hr (vB (r27 != r10)) fun a hr => ?_
     by_cases c38 : r27 = r10
     ·
      replace H := ifT c38 H
      refine onl (bne_eq_false_iff_eq.mpr c38) [48, 49, 50, 51, 52] [pA Bn21 0, vB false, vI r2, vB (r2 != 0), vB (!(false == (r2 != 0)))] hr fun a hr => ?_
      refine opv (wn rfl) hr (vB (!(false == (r2 != 0)))) (rp_f (b := (r27 != r10)) rfl (by kernel_rfl) (bne_eq_false_iff_eq.mpr c38) (by kernel_rfl)) fun a hr => ?_
      refine o1 hr (vB (!(false == (r2 != 0)))) fun a hr => ?_
      by_cases c39 : false = (r2 != 0)
      ·
       replace H := ifT c39 H
       refine onl (show (!(false == (r2 != 0))) = false from (by rw [show (false == (r2 != 0)) = true from (beq_iff_eq.mpr c39)]; rfl)) [55, 56, 57, 58, 59] [pA Bn30 0, vB false, vI r10, vB (r10 != 0), vB (!(false == (r10 != 0)))] hr fun a hr => ?_
       refine opv (wn rfl) hr (vB (!(false == (r10 != 0)))) (rp_f (b := (!(false == (r2 != 0)))) rfl (by kernel_rfl) (by rw [show (false == (r2 != 0)) = true from (beq_iff_eq.mpr c39)]; rfl) (by kernel_rfl)) fun a hr => ?_
       refine ln ?_
       by_cases c40 : false = (r10 != 0)
       ·
        replace H := ifT c40 H
        refine cond_ff hr (b := (!(false == (r10 != 0)))) (by rw [show (false == (r10 != 0)) = true from (beq_iff_eq.mpr c40)]; rfl) ?_
        refine wp_skip ?_
        refine then_normal ?_
        exact ⟨(), sinj H, hr.fj (h.se 12 [9, 10, 11, 6, 7, 8, 3, 4, 5, 0, 1, 2])⟩
       ·
        replace H := ifF c40 H
        refine cond_tt hr (b := (!(false == (r10 != 0)))) (by rw [show (false == (r10 != 0)) = false from (beq_eq_false_iff_ne.mpr c40)]; rfl) ?_
        refine sr ?_
        refine o1 hr (vB false) fun a hr => ?_
        refine ln ?_
        refine wp_ret ?_
        refine then_ret ?_
        refine end_ret1 (v := vB false) rfl hr (by kernel_rfl) ?_
        replace H := jx0 H hK35
        replace H := ej1 H; subst H
        exact ⟨rfl, h.se 12 []⟩
      ·
       replace H := ifF c39 H
       refine offl (show (!(false == (r2 != 0))) = true from (by rw [show (false == (r2 != 0)) = false from (beq_eq_false_iff_ne.mpr c39)]; rfl)) [55, 56, 57, 58, 59] hr fun a hr => ?_
       refine opv (wn rfl) hr (vB true) (rp_t (b := (!(false == (r2 != 0)))) rfl (by kernel_rfl) (by rw [show (false == (r2 != 0)) = false from (beq_eq_false_iff_ne.mpr c39)]; rfl) (by kernel_rfl)) fun a hr => ?_
       refine ln ?_
       refine cond_tt hr (b := true) rfl ?_
       refine sr ?_
       refine o1 hr (vB false) fun a hr => ?_
       refine ln ?_
       refine wp_ret ?_
       refine then_ret ?_
       refine end_ret1 (v := vB false) rfl hr (by kernel_rfl) ?_
       replace H := jx0 H hK35
       replace H := ej1 H; subst H
       exact ⟨rfl, h.se 12 []⟩
     ·
      replace H := ifF c38 H
      refine offl (bne_iff_ne.mpr c38) [48, 49, 50, 51, 52] hr fun a hr => ?_
      refine opv (wn rfl) hr (vB true) (rp_t (b := (r27 != r10)) rfl (by kernel_rfl) (bne_iff_ne.mpr c38) (by kernel_rfl)) fun a hr => ?_
      refine o1 hr (vB true) fun a hr => ?_
      refine offl (rfl : true = true) [55, 56, 57, 58, 59] hr fun a hr => ?_
      refine o1 hr (vB true) fun a hr => ?_
      refine ln ?_
      refine cond_tt hr (b := true) rfl ?_
      refine sr ?_
      refine o1 hr (vB false) fun a hr => ?_
      refine ln ?_
      refine wp_ret ?_
      refine then_ret ?_
      refine end_ret1 (v := vB false) rfl hr (by kernel_rfl) ?_
      replace H := jx0 H hK35
      replace H := ej1 H; subst H
      exact ⟨rfl, h.se 12 []⟩
    ·
     replace H := ifF c37 H
     refine offl (bne_iff_ne.mpr c37) [43, 44, 45] hr fun a hr => ?_
     refine opv (wn rfl) hr (vB true) (rp_t (b := (r18 != r2)) rfl (by kernel_rfl) (bne_iff_ne.mpr c37) (by kernel_rfl)) fun a hr => ?_
     refine o1 hr (vB true) fun a hr => ?_
     refine offl (rfl : true = true) [48, 49, 50, 51, 52] hr fun a hr => ?_
     refine oo [53, 54] [vB true, vB true] hr fun a hr => ?_
     refine offl (rfl : true = true) [55, 56, 57, 58, 59] hr fun a hr => ?_
     refine o1 hr (vB true) fun a hr => ?_
     refine ln ?_
     refine cond_tt hr (b := true) rfl ?_
     refine sr ?_
     refine o1 hr (vB false) fun a hr => ?_
     refine ln ?_
     refine wp_ret ?_
     refine then_ret ?_
     refine end_ret1 (v := vB false) rfl hr (by kernel_rfl) ?_
     replace H := jx0 H hK35
     replace H := ej1 H; subst H
     exact ⟨rfl, h.se 12 []⟩
   clear h hr a; rintro _ a w ⟨rfl, j, hr, h⟩
   replace H := jk0 hK35
   refine sr ?_
   refine o1 hr (.agg #[.slice none 0 0, .slice none 0 0, .slice none 0 0, .slice none 0 0, vI 0]) fun a hr => ?_
   refine onew (wn rfl) hr h nb (#[.slice none 0 0, .slice none 0 0, .slice none 0 0, .slice none 0 0, vI 0]) 128 fun b41 w a h hr => ?_
   refine o1 hr (pA b41 0) fun a hr => ?_
   refine ln ?_
   obtain ⟨o72, H, hK71⟩ := jd5 H
   refine cut_rule (β := Unit) (fun _ a w => ∃ ca43 : Option Addr, ∃ cc44 : Nat, ∃ ca45 : Option Addr, ∃ cc46 : Nat, ∃ ca48 : Option Addr, ∃ cc49 : Nat, ∃ ca50 : Option Addr, ∃ cc51 : Nat, ∃ ca53 : Option Addr, ∃ cc54 : Nat, ∃ ca55 : Option Addr, ∃ cc56 : Nat, ∃ ca58 : Option Addr, ∃ cc59 : Nat, ∃ ca60 : Option Addr, ∃ cc61 : Nat, ∃ ca63 : Option Addr, ∃ cc64 : Nat, ∃ ca65 : Option Addr, ∃ cc66 : Nat, ∃ ca67 : Option Addr, ∃ cc68 : Nat, ∃ ca69 : Option Addr, ∃ cc70 : Nat, ∃ S42 : T_plunderref2_Arena, ∃ S47 : T_plunderref2_Arena, ∃ S52 : T_cells_Arena, ∃ S57 : T_cells_Arena, ∃ S62 : T_plunderlaw2_Kept, .inl (S42, S47, S52, S57, S62) = o72 ∧ ∃ j, Rep 138 (lk [(7, pA Bn4 0), (9, pA Bn12 0), (11, pA Bn21 0), (13, pA Bn30 0), (15, pA b41 0)] j) a ∧ Fit z (sepL (ob62 Bn4 S42 ca43 cc44 ca45 cc46 :: ro2 ca43 cc44 S42.Held :: ro90 ca45 cc46 S42.Book :: ob62 Bn12 S47 ca48 cc49 ca50 cc51 :: ro2 ca48 cc49 S47.Held :: ro90 ca50 cc51 S47.Book :: ob96 Bn21 S52 ca53 cc54 ca55 cc56 :: ro2 ca53 cc54 S52.cell :: ro90 ca55 cc56 S52.log :: ob96 Bn30 S57 ca58 cc59 ca60 cc61 :: ro2 ca58 cc59 S57.cell :: ro90 ca60 cc61 S57.log :: ob128 b41 S62 ca63 cc64 ca65 cc66 ca67 cc68 ca69 cc70 :: rn28F ca63 cc64 S62.N :: rn28 ca65 cc66 S62.WantN :: rn60F ca67 cc68 S62.L :: rn60 ca69 cc70 S62.WantL :: L)) w) ?_ ?_
   ·
    refine sr ?_
    refine o1 hr (vI 0) fun a hr => ?_
    refine ln ?_
    refine wp_block ?_
    replace h := h.rowN_nil (e := 28) (sz := 1) (own := own_sl28F)
    replace h := h.rowN_nil (e := 28) (sz := 1) (own := own_sl28)
    replace h := h.rowN_nil (e := 60) (sz := 1) (own := own_sl60F)
    replace h := h.rowN_nil (e := 60) (sz := 1) (own := own_sl60)
    refine loop_rule (β := Nat) id (fun m a w => ∃ ca74 : Option Addr, ∃ cc75 : Nat, ∃ ca76 : Option Addr, ∃ cc77 : Nat, ∃ ca79 : Option Addr, ∃ cc80 : Nat, ∃ ca81 : Option Addr, ∃ cc82 : Nat, ∃ ca84 : Option Addr, ∃ cc85 : Nat, ∃ ca86 : Option Addr, ∃ cc87 : Nat, ∃ ca89 : Option Addr, ∃ cc90 : Nat, ∃ ca91 : Option Addr, ∃ cc92 : Nat, ∃ ca94 : Option Addr, ∃ cc95 : Nat, ∃ ca96 : Option Addr, ∃ cc97 : Nat, ∃ ca98 : Option Addr, ∃ cc99 : Nat, ∃ ca100 : Option Addr, ∃ cc101 : Nat, ∃ S73 : T_plunderref2_Arena, ∃ S78 : T_plunderref2_Arena, ∃ S83 : T_cells_Arena, ∃ S88 : T_cells_Arena, ∃ S93 : T_plunderlaw2_Kept, ∃ g102 : Int, (plunderlaw2_untold_l1 K p2 m S73 S78 S83 S88 S93 g102) = some o72 ∧ ∃ j, Rep 138 (lk [(2, .slice va2 p2.length vc2), (7, pA Bn4 0), (9, pA Bn12 0), (11, pA Bn21 0), (13, pA Bn30 0), (15, pA b41 0), (16, vI g102)] j) a ∧ Fit z (sepL (ob62 Bn4 S73 ca74 cc75 ca76 cc77 :: ro2 ca74 cc75 S73.Held :: ro90 ca76 cc77 S73.Book :: ob62 Bn12 S78 ca79 cc80 ca81 cc82 :: ro2 ca79 cc80 S78.Held :: ro90 ca81 cc82 S78.Book :: ob96 Bn21 S83 ca84 cc85 ca86 cc87 :: ro2 ca84 cc85 S83.cell :: ro90 ca86 cc87 S83.log :: ob96 Bn30 S88 ca89 cc90 ca91 cc92 :: ro2 ca89 cc90 S88.cell :: ro90 ca91 cc92 S88.log :: ob128 b41 S93 ca94 cc95 ca96 cc97 ca98 cc99 ca100 cc101 :: rn28F ca94 cc95 S93.N :: rn28 ca96 cc97 S93.WantN :: rn60F ca98 cc99 S93.L :: rn60 ca100 cc101 S93.WantL :: L)) w) K ⟨car5, ccr6, car7, ccr8, car13, ccr14, car15, ccr16, car22, ccr23, car24, ccr25, car31, ccr32, car33, ccr34, none, 0, none, 0, none, 0, none, 0, r1, r9, S20, S29, (⟨([] : List (List Int)), ([] : List (List Int)), ([] : List (List T_api_Access)), ([] : List (List T_api_Access)), 0⟩ : T_plunderlaw2_Kept), 0, H, hr.fj (h.se 17 [5, 6, 7, 8, 9, 10, 11, 12, 13, 14, 15, 16, 4, 3, 2, 1, 0])⟩ ?_
    clear h hr a H; rintro k1 a w ⟨ca74, cc75, ca76, cc77, ca79, cc80, ca81, cc82, ca84, cc85, ca86, cc87, ca89, cc90, ca91, cc92, ca94, cc95, ca96, cc97, ca98, cc99, ca100, cc101, S73, S78, S83, S88, S93, g102, H, j, hr, h⟩
    cases k1 with
    | zero => exact absurd H (by simp [plunderlaw2_untold_l1])
    | succ k1 =>
     rw [plunderlaw2_untold_l1] at H
     refine wp_seq ?_
     refine sr ?_
     refine oo [63, 64, 65, 66] [vI g102, .slice va2 p2.length vc2, vI ((p2.length : Nat) : Int), vB (decide (g102 < ((p2.length : Nat) : Int)))] hr fun a hr => ?_
     refine ln ?_
     refine cD hr H (fun c103 H => ?_) fun c103 H => ?_
     ·
      refine wp_skip ?_
      refine then_normal ?_
      refine wp_seq ?_
      refine wp_block ?_
      refine sr ?_
      obtain ⟨c104, H⟩ := gd H
      refine oo [69, 70] [.slice va2 p2.length vc2, vI g102] hr fun a hr => ?_
      refine opv (wn rfl) hr (pA (blk va2) (offs va2 + g102.toNat * 5)) (ri_rd (k := .i64) (E := 30) (cc := vc2) rfl (by kernel_rfl) (by kernel_rfl) rfl (by kernel_rfl) (by kernel_rfl) hv2 c104) fun a hr => ?_
      refine ldm (wn rfl) hr (ag_T_plunderlaw2_Move (at_ p2 g102.toNat)) (cs := cl_T_plunderlaw2_Move (at_ p2 g102.toNat)) ⟨hv2.cell c104 (h.dn 17) 0 rfl, hv2.cell c104 (h.dn 17) 1 rfl, hv2.cell c104 (h.dn 17) 2 rfl, hv2.cell c104 (h.dn 17) 3 rfl, hv2.cell c104 (h.dn 17) 4 rfl, trivial⟩ fun a hr => ?_
      refine onew (wn rfl) hr h nb (#[vI 0, vI 0, vI 0, vI 0, vI 0]) 30 fun b105 w a h hr => ?_
      refine stm (wn rfl) hr h 0 (cl_T_plunderlaw2_Move (at_ p2 g102.toNat)) (ob30 b105 (at_ p2 g102.toNat)) fun w h => ?_
      refine ln ?_
      refine sr ?_
      refine o1 hr (vB true) fun a hr => ?_
      refine ln ?_
      refine wp_seq ?_
      refine wp_block ?_
      obtain ⟨o108, H, hK107⟩ := kd1 H
      refine cut_rule (β := Unit) (fun _ a w => ∃ g106 : Bool, g106 = o108 ∧ ∃ j, Rep 138 (lk [(2, .slice va2 p2.length vc2), (7, pA Bn4 0), (9, pA Bn12 0), (11, pA Bn21 0), (13, pA Bn30 0), (15, pA b41 0), (16, vI g102), (17, pA b105 0), (18, vB true), (79, vB g106)] j) a ∧ Fit z (sepL (ob62 Bn4 S73 ca74 cc75 ca76 cc77 :: ro2 ca74 cc75 S73.Held :: ro90 ca76 cc77 S73.Book :: ob62 Bn12 S78 ca79 cc80 ca81 cc82 :: ro2 ca79 cc80 S78.Held :: ro90 ca81 cc82 S78.Book :: ob96 Bn21 S83 ca84 cc85 ca86 cc87 :: ro2 ca84 cc85 S83.cell :: ro90 ca86 cc87 S83.log :: ob96 Bn30 S88 ca89 cc90 ca91 cc92 :: ro2 ca89 cc90 S88.cell :: ro90 ca91 cc92 S88.log :: ob128 b41 S93 ca94 cc95 ca96 cc97 ca98 cc99 ca100 cc101 :: rn28F ca94 cc95 S93.N :: rn28 ca96 cc97 S93.WantN :: rn60F ca98 cc99 S93.L :: rn60 ca100 cc101 S93.WantL :: ob30 b105 (at_ p2 g102.toNat) :: L)) w) ?_ ?_
      ·
       refine wp_region_lit ?_
       refine o1 hr (pA b105 1) fun a hr => ?_
       refine ld (wn rfl) hr (vI (at_ p2 g102.toNat).Kind) (h.cell 1 rfl) fun a hr => ?_
       refine oo [82, 83] [vB ((at_ p2 g102.toNat).Kind == 9), vB ((at_ p2 g102.toNat).Kind == 9)] hr fun a hr => ?_
       by_cases c109 : (at_ p2 g102.toNat).Kind = 9
       ·
        replace H := ifT c109 H
        refine offl (beq_iff_eq.mpr c109) [84, 85, 86] hr fun a hr => ?_
        refine opv (wn rfl) hr (vB true) (rp_t (b := ((at_ p2 g102.toNat).Kind == 9)) rfl (by kernel_rfl) (beq_iff_eq.mpr c109) (by kernel_rfl)) fun a hr => ?_
        refine o1 hr (vB true) fun a hr => ?_
        refine ln ?_
        exact ⟨(), true, sinj H, hr.fj (h.se 18 [1, 2, 3, 4, 5, 6, 7, 8, 9, 10, 11, 12, 13, 14, 15, 16, 17, 0])⟩
       ·
        replace H := ifF c109 H
        refine onl (beq_eq_false_iff_ne.mpr c109) [84] [pA b105 1] hr fun a hr => ?_
        refine ld (wgt hr (beq_eq_false_iff_ne.mpr c109)) hr (vI (at_ p2 g102.toNat).Kind) (h.cell 1 rfl) fun a hr => ?_
        refine onl (beq_eq_false_iff_ne.mpr c109) [86] [vB ((at_ p2 g102.toNat).Kind == 10)] hr fun a hr => ?_
        refine opv (wn rfl) hr (vB ((at_ p2 g102.toNat).Kind == 10)) (rp_f (b := ((at_ p2 g102.toNat).Kind == 9)) rfl (by kernel_rfl) (beq_eq_false_iff_ne.mpr c109) (by kernel_rfl)) fun a hr => ?_
        refine o1 hr (vB ((at_ p2 g102.toNat).Kind == 10)) fun a hr => ?_
        refine ln ?_
        exact ⟨(), ((at_ p2 g102.toNat).Kind == 10), sinj H, hr.fj (h.se 18 [1, 2, 3, 4, 5, 6, 7, 8, 9, 10, 11, 12, 13, 14, 15, 16, 17, 0])⟩
      clear h hr a; rintro _ a w ⟨g106, rfl, j, hr, h⟩
      replace H := kk1 hK107
      refine cV hr H (fun c110 H => ?_) fun c110 H => ?_
      ·
       obtain ⟨o113, H, hK112⟩ := kd1 H
       refine cut_rule (β := Unit) (fun _ a w => ∃ g111 : Bool, g111 = o113 ∧ ∃ j, Rep 138 (lk [(2, .slice va2 p2.length vc2), (7, pA Bn4 0), (9, pA Bn12 0), (11, pA Bn21 0), (13, pA Bn30 0), (15, pA b41 0), (16, vI g102), (18, vB true), (100, vB g111)] j) a ∧ Fit z (sepL (ob62 Bn4 S73 ca74 cc75 ca76 cc77 :: ro2 ca74 cc75 S73.Held :: ro90 ca76 cc77 S73.Book :: ob62 Bn12 S78 ca79 cc80 ca81 cc82 :: ro2 ca79 cc80 S78.Held :: ro90 ca81 cc82 S78.Book :: ob96 Bn21 S83 ca84 cc85 ca86 cc87 :: ro2 ca84 cc85 S83.cell :: ro90 ca86 cc87 S83.log :: ob96 Bn30 S88 ca89 cc90 ca91 cc92 :: ro2 ca89 cc90 S88.cell :: ro90 ca91 cc92 S88.log :: ob128 b41 S93 ca94 cc95 ca96 cc97 ca98 cc99 ca100 cc101 :: rn28F ca94 cc95 S93.N :: rn28 ca96 cc97 S93.WantN :: rn60F ca98 cc99 S93.L :: rn60 ca100 cc101 S93.WantL :: L)) w) ?_ ?_
       ·
        refine wp_region_lit ?_
        refine oo [88, 89, 90] [pA b41 0, pA b41 0, pA b41 0] hr fun a hr => ?_
        refine ld (wn rfl) hr (.slice ca94 S93.N.length cc95) ((h.pick 12).cell 0 rfl) fun a hr => ?_
        refine oo [92, 93, 94] [vI ((S93.N.length : Nat) : Int), vB (decide (((S93.N.length : Nat) : Int) < 400)), vB (decide (((S93.N.length : Nat) : Int) < 400))] hr fun a hr => ?_
        by_cases c114 : ((S93.N.length : Nat) : Int) < 400
        ·
         replace H := ifT c114 H
         refine onl (decide_eq_true c114) [95, 96, 97] [pA b41 0, pA b41 0, pA b41 4] hr fun a hr => ?_
         refine ld (wgt hr (decide_eq_true c114)) hr (vI S93.Sum) ((h.pick 12).cell 4 rfl) fun a hr => ?_
         refine onl (decide_eq_true c114) [99] [vB (decide (S93.Sum < 100000))] hr fun a hr => ?_
         refine opv (wn rfl) hr (vB (decide (S93.Sum < 100000))) (rp_t (b := (decide (((S93.N.length : Nat) : Int) < 400))) rfl (by kernel_rfl) (decide_eq_true c114) (by kernel_rfl)) fun a hr => ?_
         refine ln ?_
         exact ⟨(), (decide (S93.Sum < 100000)), sinj H, hr.fj (h.se 18 [0, 1, 2, 3, 4, 5, 6, 7, 8, 9, 10, 11, 12, 13, 14, 15, 16])⟩
        ·
         replace H := ifF c114 H
         refine offl (decide_eq_false c114) [95, 96, 97, 98, 99] hr fun a hr => ?_
         refine opv (wn rfl) hr (vB false) (rp_f (b := (decide (((S93.N.length : Nat) : Int) < 400))) rfl (by kernel_rfl) (decide_eq_false c114) (by kernel_rfl)) fun a hr => ?_
         refine ln ?_
         exact ⟨(), false, sinj H, hr.fj (h.se 18 [0, 1, 2, 3, 4, 5, 6, 7, 8, 9, 10, 11, 12, 13, 14, 15, 16])⟩
       clear h hr a; rintro _ a w ⟨g111, rfl, j, hr, h⟩
       replace H := kk1 hK112
       refine cV hr H (fun c115 H => ?_) fun c115 H => ?_
       ·
        refine wp_region_lit ?_
        obtain ⟨r116, S117, e118, H⟩ := bd2 H
        refine oo [101, 102, 103] [pA b41 0, pA Bn21 0, pA Bn4 0] hr fun a hr => ?_
        replace h := h.m2.m2.m2.m8.m8.m8.m16.m16.m16.m16.m16
        have hc := plunderlaw2_Kept_asked_ok (H := e118) (h := h)
        refine cl (wn rfl) hr hc ?_; clear hc h
        rintro _ w ⟨caq119, ccq120, caq121, ccq122, caq123, ccq124, caq125, ccq126, rfl, h⟩; refine ⟨_, rfl, fun a hr => ?_⟩
        refine o1 hr (vB r116) fun a hr => ?_
        by_cases c127 : r116 = true
        ·
         replace H := ifT c127 H
         obtain ⟨r128, S129, e130, H⟩ := bd2 H
         refine onl (c127) [106, 107, 108] [pA b41 0, pA Bn30 0, pA Bn12 0] hr fun a hr => ?_
         replace h := h.m13.m13.m13.m16.m16.m16.m10.m10.m10.m10.m10
         have hc := plunderlaw2_Kept_asked_ok (H := e130) (h := h)
         refine cl (wgt hr (c127)) hr hc ?_; clear hc h
         rintro _ w ⟨caq131, ccq132, caq133, ccq134, caq135, ccq136, caq137, ccq138, rfl, h⟩; refine ⟨_, rfl, fun a hr => ?_⟩
         refine opv (wn rfl) hr (vB r128) (rp_t (b := r116) rfl (by kernel_rfl) (c127) (by kernel_rfl)) fun a hr => ?_
         refine o1 hr (vB r128) fun a hr => ?_
         refine wpList_nil ?_
         refine blk_normal ?_
         refine then_normal ?_
         refine sr ?_
         refine oo [122, 123] [vB r128, vB (!r128)] hr fun a hr => ?_
         refine ln ?_
         refine cM hr H (fun c139 H => ?_) fun c139 H => ?_
         ·
          refine wp_skip ?_
          refine blk_normal ?_
          refine then_normal ?_
          refine wp_region_lit ?_
          refine oo [67, 68, 16] [vI g102, vI (wi (g102 + 1)), vI (wi (g102 + 1))] hr fun a hr => ?_
          refine ln ?_
          exact ⟨_, ⟨ca74, cc75, ca76, cc77, ca79, cc80, ca81, cc82, ca84, cc85, ca86, cc87, ca89, cc90, ca91, cc92, caq131, ccq132, caq133, ccq134, caq135, ccq136, caq137, ccq138, S73, S78, S83, S88, S129, (wi (g102 + 1)), H, hr.fj (h.se 17 [14, 15, 16, 8, 9, 10, 11, 12, 13, 5, 6, 7, 0, 1, 2, 3, 4])⟩, Nat.lt_succ_self _⟩
         ·
          refine sr ?_
          refine o1 hr (vB false) fun a hr => ?_
          refine ln ?_
          refine wp_ret ?_
          refine blk_ret ?_
          refine then_ret ?_
          refine then_ret ?_
          refine blk_ret ?_
          refine then_ret ?_
          refine end_ret1 (v := vB false) rfl hr (by kernel_rfl) ?_
          replace H := jx5 H hK71
          replace H := ej1 H; subst H
          exact ⟨rfl, h.se 17 []⟩
        ·
         replace H := ifF c127 H
         refine offl (bF c127) [106, 107, 108, 109] hr fun a hr => ?_
         refine opv (wn rfl) hr (vB false) (rp_f (b := r116) rfl (by kernel_rfl) (bF c127) (by kernel_rfl)) fun a hr => ?_
         refine o1 hr (vB false) fun a hr => ?_
         refine wpList_nil ?_
         refine blk_normal ?_
         refine then_normal ?_
         refine sr ?_
         refine oo [122, 123] [vB false, vB true] hr fun a hr => ?_
         refine ln ?_
         refine cond_tt hr (b := true) rfl ?_
         refine sr ?_
         refine o1 hr (vB false) fun a hr => ?_
         refine ln ?_
         refine wp_ret ?_
         refine blk_ret ?_
         refine then_ret ?_
         refine then_ret ?_
         refine blk_ret ?_
         refine then_ret ?_
         refine end_ret1 (v := vB false) rfl hr (by kernel_rfl) ?_
         replace H := jx5 H hK71
         replace H := ej1 H; subst H
         exact ⟨rfl, h.se 17 []⟩
       ·
        refine wp_skip ?_
        refine blk_normal ?_
        refine then_normal ?_
        refine sr ?_
        refine oo [122, 123] [vB true, vB false] hr fun a hr => ?_
        refine ln ?_
        refine cond_ff hr (b := false) rfl ?_
        refine wp_skip ?_
        refine blk_normal ?_
        refine then_normal ?_
        refine wp_region_lit ?_
        refine oo [67, 68, 16] [vI g102, vI (wi (g102 + 1)), vI (wi (g102 + 1))] hr fun a hr => ?_
        refine ln ?_
        exact ⟨_, ⟨ca74, cc75, ca76, cc77, ca79, cc80, ca81, cc82, ca84, cc85, ca86, cc87, ca89, cc90, ca91, cc92, ca94, cc95, ca96, cc97, ca98, cc99, ca100, cc101, S73, S78, S83, S88, S93, (wi (g102 + 1)), H, hr.fj h⟩, Nat.lt_succ_self _⟩
      ·
       refine sr ?_
       refine o1 hr (pA b105 0) fun a hr => ?_
       refine ld (wn rfl) hr (vI (at_ p2 g102.toNat).Side) ((h.pick 17).cell 0 rfl) fun a hr => ?_
       obtain ⟨r140, e141, H⟩ := bd1 H
       have hc := plunderlaw2_mod_ok (H := e141) (h := h)
       refine cl (wn rfl) hr hc ?_; clear hc h
       rintro _ w ⟨rfl, h⟩; refine ⟨_, rfl, fun a hr => ?_⟩
       refine oo [115, 111] [vB (r140 == 0), vB (r140 == 0)] hr fun a hr => ?_
       refine ln ?_
       refine cD hr H (fun c142 H => ?_) fun c142 H => ?_
       ·
        refine wp_region_lit ?_
        refine oo [116, 117] [pA Bn21 0, pA Bn4 0] hr fun a hr => ?_
        refine ldm (wn rfl) hr (ag_T_plunderlaw2_Move (at_ p2 g102.toNat)) (cs := cl_T_plunderlaw2_Move (at_ p2 g102.toNat)) ((h.pick 17).held 0 rfl) fun a hr => ?_
        refine o1 hr (.agg #[.slice none 0 0, .slice none 0 0, vI 0]) fun a hr => ?_
        refine onew (wn rfl) hr h nb (#[.slice none 0 0, .slice none 0 0, vI 0]) 78 fun b143 w a h hr => ?_
        replace h := h.rowN_nil (e := 139) (sz := 5) (own := own_T_plunderlaw2_kept)
        replace h := h.rowN_nil (e := 142) (sz := 5) (own := own_T_plunderlaw2_noted)
        obtain ⟨r144, S145, S146, S147, e148, H⟩ := bd4 H
        replace h := h.m1.m2.m5.m5.m5.m11.m11.m11
        have hc := plunderlaw2_plays_ok (H := e148) (h := h)
        refine cl (wn rfl) hr hc ?_; clear hc h
        rintro _ w ⟨caq149, ccq150, caq151, ccq152, caq153, ccq154, caq155, ccq156, caq157, ccq158, caq159, ccq160, rfl, h⟩; refine ⟨_, rfl, fun a hr => ?_⟩
        refine o1 hr (vB r144) fun a hr => ?_
        refine wpList_nil ?_
        refine blk_normal ?_
        refine then_normal ?_
        refine sr ?_
        refine oo [122, 123] [vB r144, vB (!r144)] hr fun a hr => ?_
        refine ln ?_
        refine cM hr H (fun c161 H => ?_) fun c161 H => ?_
        ·
         refine wp_skip ?_
         refine blk_normal ?_
         refine then_normal ?_
         refine wp_region_lit ?_
         refine oo [67, 68, 16] [vI g102, vI (wi (g102 + 1)), vI (wi (g102 + 1))] hr fun a hr => ?_
         refine ln ?_
         exact ⟨_, ⟨caq153, ccq154, caq155, ccq156, ca79, cc80, ca81, cc82, caq149, ccq150, caq151, ccq152, ca89, cc90, ca91, cc92, ca94, cc95, ca96, cc97, ca98, cc99, ca100, cc101, S146, S78, S145, S88, S93, (wi (g102 + 1)), H, hr.fj (h.se 21 [3, 4, 5, 9, 10, 11, 0, 1, 2, 12, 13, 14, 15, 16, 17, 18, 19])⟩, Nat.lt_succ_self _⟩
        ·
         refine sr ?_
         refine o1 hr (vB false) fun a hr => ?_
         refine ln ?_
         refine wp_ret ?_
         refine blk_ret ?_
         refine then_ret ?_
         refine then_ret ?_
         refine blk_ret ?_
         refine then_ret ?_
         refine end_ret1 (v := vB false) rfl hr (by kernel_rfl) ?_
         replace H := jx5 H hK71
         replace H := ej1 H; subst H
         exact ⟨rfl, h.se 21 []⟩
       ·
        refine wp_region_lit ?_
        refine oo [73, 74] [pA Bn30 0, pA Bn12 0] hr fun a hr => ?_
        refine ldm (wn rfl) hr (ag_T_plunderlaw2_Move (at_ p2 g102.toNat)) (cs := cl_T_plunderlaw2_Move (at_ p2 g102.toNat)) ((h.pick 17).held 0 rfl) fun a hr => ?_
        refine o1 hr (.agg #[.slice none 0 0, .slice none 0 0, vI 0]) fun a hr => ?_
        refine onew (wn rfl) hr h nb (#[.slice none 0 0, .slice none 0 0, vI 0]) 78 fun b162 w a h hr => ?_
        replace h := h.rowN_nil (e := 139) (sz := 5) (own := own_T_plunderlaw2_kept)
        replace h := h.rowN_nil (e := 142) (sz := 5) (own := own_T_plunderlaw2_noted)
        obtain ⟨r163, S164, S165, S166, e167, H⟩ := bd4 H
        replace h := h.m1.m2.m8.m8.m8.m14.m14.m14
        have hc := plunderlaw2_plays_ok (H := e167) (h := h)
        refine cl (wn rfl) hr hc ?_; clear hc h
        rintro _ w ⟨caq168, ccq169, caq170, ccq171, caq172, ccq173, caq174, ccq175, caq176, ccq177, caq178, ccq179, rfl, h⟩; refine ⟨_, rfl, fun a hr => ?_⟩
        refine o1 hr (vB r163) fun a hr => ?_
        refine wpList_nil ?_
        refine blk_normal ?_
        refine then_normal ?_
        refine sr ?_
        refine oo [122, 123] [vB r163, vB (!r163)] hr fun a hr => ?_
        refine ln ?_
        refine cM hr H (fun c180 H => ?_) fun c180 H => ?_
        ·
         refine wp_skip ?_
         refine blk_normal ?_
         refine then_normal ?_
         refine wp_region_lit ?_
         refine oo [67, 68, 16] [vI g102, vI (wi (g102 + 1)), vI (wi (g102 + 1))] hr fun a hr => ?_
         refine ln ?_
         exact ⟨_, ⟨ca74, cc75, ca76, cc77, caq172, ccq173, caq174, ccq175, ca84, cc85, ca86, cc87, caq168, ccq169, caq170, ccq171, ca94, cc95, ca96, cc97, ca98, cc99, ca100, cc101, S73, S165, S83, S164, S93, (wi (g102 + 1)), H, hr.fj (h.se 21 [9, 10, 11, 3, 4, 5, 12, 13, 14, 0, 1, 2, 15, 16, 17, 18, 19])⟩, Nat.lt_succ_self _⟩
        ·
         refine sr ?_
         refine o1 hr (vB false) fun a hr => ?_
         refine ln ?_
         refine wp_ret ?_
         refine blk_ret ?_
         refine then_ret ?_
         refine then_ret ?_
         refine blk_ret ?_
         refine then_ret ?_
         refine end_ret1 (v := vB false) rfl hr (by kernel_rfl) ?_
         replace H := jx5 H hK71
         replace H := ej1 H; subst H
         exact ⟨rfl, h.se 21 []⟩
     ·
      refine wp_exit ?_
      refine then_exit ?_
      refine then_exit ?_
      refine blk_here ?_
      refine then_normal ?_
      exact ⟨(), ca74, cc75, ca76, cc77, ca79, cc80, ca81, cc82, ca84, cc85, ca86, cc87, ca89, cc90, ca91, cc92, ca94, cc95, ca96, cc97, ca98, cc99, ca100, cc101, S73, S78, S83, S88, S93, sinj H, hr.fj h⟩
   clear h hr a; rintro _ a w ⟨ca43, cc44, ca45, cc46, ca48, cc49, ca50, cc51, ca53, cc54, ca55, cc56, ca58, cc59, ca60, cc61, ca63, cc64, ca65, cc66, ca67, cc68, ca69, cc70, S42, S47, S52, S57, S62, rfl, j, hr, h⟩
   replace H := jk5 hK71
   refine sr ?_
   obtain ⟨r181, S182, e183, H⟩ := bd2 H
   refine oo [124, 125, 126] [pA b41 0, pA Bn21 0, pA Bn4 0] hr fun a hr => ?_
   replace h := h.m2.m2.m2.m8.m8.m8.m16.m16.m16.m16.m16
   have hc := plunderlaw2_Kept_asked_ok (H := e183) (h := h)
   refine cl (wn rfl) hr hc ?_; clear hc h
   rintro _ w ⟨caq184, ccq185, caq186, ccq187, caq188, ccq189, caq190, ccq191, rfl, h⟩; refine ⟨_, rfl, fun a hr => ?_⟩
   refine o1 hr (vB r181) fun a hr => ?_
   by_cases c192 : r181 = true
   ·
    replace H := ifT c192 H
    obtain ⟨r193, S194, e195, H⟩ := bd2 H
    refine onl (c192) [129, 130, 131] [pA b41 0, pA Bn30 0, pA Bn12 0] hr fun a hr => ?_
    replace h := h.m13.m13.m13.m16.m16.m16.m10.m10.m10.m10.m10
    have hc := plunderlaw2_Kept_asked_ok (H := e195) (h := h)
    refine cl (wgt hr (c192)) hr hc ?_; clear hc h
    rintro _ w ⟨caq196, ccq197, caq198, ccq199, caq200, ccq201, caq202, ccq203, rfl, h⟩; refine ⟨_, rfl, fun a hr => ?_⟩
    refine opv (wn rfl) hr (vB r193) (rp_t (b := r181) rfl (by kernel_rfl) (c192) (by kernel_rfl)) fun a hr => ?_
    refine o1 hr (vB r193) fun a hr => ?_
    by_cases c204 : r193 = true
    ·
     replace H := ifT c204 H
     obtain ⟨r205, e206, H⟩ := bd1 H
     refine onl (c204) [135] [pA b41 0] hr fun a hr => ?_
     have hc := plunderlaw2_Kept_alone_ok (H := e206) (h := h)
     refine cl (wgt hr (c204)) hr hc ?_; clear hc h
     rintro _ w ⟨rfl, h⟩; refine ⟨_, rfl, fun a hr => ?_⟩
     refine opv (wn rfl) hr (vB r205) (rp_t (b := r193) rfl (by kernel_rfl) (c204) (by kernel_rfl)) fun a hr => ?_
     refine o1 hr (vB r205) fun a hr => ?_
     refine ln ?_
     refine wp_ret ?_
     refine end_ret1 (v := vB r205) rfl hr (by kernel_rfl) ?_
     replace H := ej1 H; subst H
     exact ⟨rfl, h.se 12 []⟩
    ·
     replace H := ifF c204 H
     refine offl (bF c204) [135, 136] hr fun a hr => ?_
     refine opv (wn rfl) hr (vB false) (rp_f (b := r193) rfl (by kernel_rfl) (bF c204) (by kernel_rfl)) fun a hr => ?_
     refine o1 hr (vB false) fun a hr => ?_
     refine ln ?_
     refine wp_ret ?_
     refine end_ret1 (v := vB false) rfl hr (by kernel_rfl) ?_
     replace H := ej1 H; subst H
     exact ⟨rfl, h.se 17 []⟩
   ·
    replace H := ifF c192 H
    refine offl (bF c192) [129, 130, 131, 132] hr fun a hr => ?_
    refine opv (wn rfl) hr (vB false) (rp_f (b := r181) rfl (by kernel_rfl) (bF c192) (by kernel_rfl)) fun a hr => ?_
    refine o1 hr (vB false) fun a hr => ?_
    refine offl (rfl : false = false) [135, 136] hr fun a hr => ?_
    refine oo [137, 6] [vB false, vB false] hr fun a hr => ?_
    refine ln ?_
    refine wp_ret ?_
    refine end_ret1 (v := vB false) rfl hr (by kernel_rfl) ?_
    replace H := ej1 H; subst H
    exact ⟨rfl, h.se 17 []⟩
  | none =>
   have hc := cells_New_ok1 (H := e28) (h := h)
   refine cl (wn rfl) hr hc ?_; clear hc h
   rintro _ w ⟨rfl, h⟩; refine ⟨_, rfl, fun a hr => ?_⟩
   refine oo [34, 37, 38, 13, 14] [.tuple #[pN, vI r27], pN, vI r27, pN, vI r27] hr fun a hr => ?_
   refine ln ?_
   obtain ⟨o208, H, hK207⟩ := jd0 H
   refine cut_rule (β := Unit) (fun _ a w => .inl () = o208 ∧ ∃ j, Rep 138 (lk [(2, .slice va2 p2.length vc2), (7, pA Bn4 0), (9, pA Bn12 0), (11, pA Bn21 0), (13, pN)] j) a ∧ Fit z (sepL (ob62 Bn4 r1 car5 ccr6 car7 ccr8 :: ro2 car5 ccr6 r1.Held :: ro90 car7 ccr8 r1.Book :: ob62 Bn12 r9 car13 ccr14 car15 ccr16 :: ro2 car13 ccr14 r9.Held :: ro90 car15 ccr16 r9.Book :: ob96 Bn21 S20 car22 ccr23 car24 ccr25 :: ro2 car22 ccr23 S20.cell :: ro90 car24 ccr25 S20.log :: L)) w) ?_ ?_
   ·
    refine sr ?_
    refine oo [39, 40, 41, 42] [vI r18, vI r2, vB (r18 != r2), vB (r18 != r2)] hr fun a hr => ?_
    by_cases c209 : r18 = r2
    ·
     replace H := ifT c209 H
     refine onl (bne_eq_false_iff_eq.mpr c209) [43, 44, 45] [vI r27, vI r10, vB (r27 != r10)] hr fun a hr => ?_
     refine opv (wn rfl) hr (vB (r27 != r10)) (rp_f (b := (r18 != r2)) rfl (by kernel_rfl) (bne_eq_false_iff_eq.mpr c209) (by kernel_rfl)) fun a hr => ?_
     refine o1 hr (vB (r27 != r10)) fun a hr => ?_
     by_cases c210 : r27 = r10
     ·
      replace H := ifT c210 H
      refine onl (bne_eq_false_iff_eq.mpr c210) [48, 49, 50, 51, 52] [pA Bn21 0, vB false, vI r2, vB (r2 != 0), vB (!(false == (r2 != 0)))] hr fun a hr => ?_
      refine opv (wn rfl) hr (vB (!(false == (r2 != 0)))) (rp_f (b := (r27 != r10)) rfl (by kernel_rfl) (bne_eq_false_iff_eq.mpr c210) (by kernel_rfl)) fun a hr => ?_
      refine o1 hr (vB (!(false == (r2 != 0)))) fun a hr => ?_
      by_cases c211 : false = (r2 != 0)
      ·
       replace H := ifT c211 H
       refine onl (show (!(false == (r2 != 0))) = false from (by rw [show (false == (r2 != 0)) = true from (beq_iff_eq.mpr c211)]; rfl)) [55, 56, 57, 58, 59] [pN, vB true, vI r10, vB (r10 != 0), vB (!(true == (r10 != 0)))] hr fun a hr => ?_
       refine opv (wn rfl) hr (vB (!(true == (r10 != 0)))) (rp_f (b := (!(false == (r2 != 0)))) rfl (by kernel_rfl) (by rw [show (false == (r2 != 0)) = true from (beq_iff_eq.mpr c211)]; rfl) (by kernel_rfl)) fun a hr => ?_
       refine ln ?_
       by_cases c212 : true = (r10 != 0)
       ·
        replace H := ifT c212 H
        refine cond_ff hr (b := (!(true == (r10 != 0)))) (by rw [show (true == (r10 != 0)) = true from (beq_iff_eq.mpr c212)]; rfl) ?_
        refine wp_skip ?_
        refine then_normal ?_
        exact ⟨(), sinj H, hr.fj (h.se 9 [6, 7, 8, 3, 4, 5, 0, 1, 2])⟩
       ·
        replace H := ifF c212 H
        refine cond_tt hr (b := (!(true == (r10 != 0)))) (by rw [show (true == (r10 != 0)) = false from (beq_eq_false_iff_ne.mpr c212)]; rfl) ?_
        refine sr ?_
        refine o1 hr (vB false) fun a hr => ?_
        refine ln ?_
        refine wp_ret ?_
        refine then_ret ?_
        refine end_ret1 (v := vB false) rfl hr (by kernel_rfl) ?_
        replace H := jx0 H hK207
        replace H := ej1 H; subst H
        exact ⟨rfl, h.se 9 []⟩
      ·
       replace H := ifF c211 H
       refine offl (show (!(false == (r2 != 0))) = true from (by rw [show (false == (r2 != 0)) = false from (beq_eq_false_iff_ne.mpr c211)]; rfl)) [55, 56, 57, 58, 59] hr fun a hr => ?_
       refine opv (wn rfl) hr (vB true) (rp_t (b := (!(false == (r2 != 0)))) rfl (by kernel_rfl) (by rw [show (false == (r2 != 0)) = false from (beq_eq_false_iff_ne.mpr c211)]; rfl) (by kernel_rfl)) fun a hr => ?_
       refine ln ?_
       refine cond_tt hr (b := true) rfl ?_
       refine sr ?_
       refine o1 hr (vB false) fun a hr => ?_
       refine ln ?_
       refine wp_ret ?_
       refine then_ret ?_
       refine end_ret1 (v := vB false) rfl hr (by kernel_rfl) ?_
       replace H := jx0 H hK207
       replace H := ej1 H; subst H
       exact ⟨rfl, h.se 9 []⟩
     ·
      replace H := ifF c210 H
      refine offl (bne_iff_ne.mpr c210) [48, 49, 50, 51, 52] hr fun a hr => ?_
      refine opv (wn rfl) hr (vB true) (rp_t (b := (r27 != r10)) rfl (by kernel_rfl) (bne_iff_ne.mpr c210) (by kernel_rfl)) fun a hr => ?_
      refine o1 hr (vB true) fun a hr => ?_
      refine offl (rfl : true = true) [55, 56, 57, 58, 59] hr fun a hr => ?_
      refine o1 hr (vB true) fun a hr => ?_
      refine ln ?_
      refine cond_tt hr (b := true) rfl ?_
      refine sr ?_
      refine o1 hr (vB false) fun a hr => ?_
      refine ln ?_
      refine wp_ret ?_
      refine then_ret ?_
      refine end_ret1 (v := vB false) rfl hr (by kernel_rfl) ?_
      replace H := jx0 H hK207
      replace H := ej1 H; subst H
      exact ⟨rfl, h.se 9 []⟩
    ·
     replace H := ifF c209 H
     refine offl (bne_iff_ne.mpr c209) [43, 44, 45] hr fun a hr => ?_
     refine opv (wn rfl) hr (vB true) (rp_t (b := (r18 != r2)) rfl (by kernel_rfl) (bne_iff_ne.mpr c209) (by kernel_rfl)) fun a hr => ?_
     refine o1 hr (vB true) fun a hr => ?_
     refine offl (rfl : true = true) [48, 49, 50, 51, 52] hr fun a hr => ?_
     refine oo [53, 54] [vB true, vB true] hr fun a hr => ?_
     refine offl (rfl : true = true) [55, 56, 57, 58, 59] hr fun a hr => ?_
     refine o1 hr (vB true) fun a hr => ?_
     refine ln ?_
     refine cond_tt hr (b := true) rfl ?_
     refine sr ?_
     refine o1 hr (vB false) fun a hr => ?_
     refine ln ?_
     refine wp_ret ?_
     refine then_ret ?_
     refine end_ret1 (v := vB false) rfl hr (by kernel_rfl) ?_
     replace H := jx0 H hK207
     replace H := ej1 H; subst H
     exact ⟨rfl, h.se 9 []⟩
   clear h hr a; rintro _ a w ⟨rfl, j, hr, h⟩
   replace H := jk0 hK207
   refine sr ?_
   refine o1 hr (.agg #[.slice none 0 0, .slice none 0 0, .slice none 0 0, .slice none 0 0, vI 0]) fun a hr => ?_
   refine onew (wn rfl) hr h nb (#[.slice none 0 0, .slice none 0 0, .slice none 0 0, .slice none 0 0, vI 0]) 128 fun b213 w a h hr => ?_
   refine o1 hr (pA b213 0) fun a hr => ?_
   refine ln ?_
   obtain ⟨o239, H, hK238⟩ := jd4 H
   refine cut_rule (β := Unit) (fun _ a w => ∃ ca215 : Option Addr, ∃ cc216 : Nat, ∃ ca217 : Option Addr, ∃ cc218 : Nat, ∃ ca220 : Option Addr, ∃ cc221 : Nat, ∃ ca222 : Option Addr, ∃ cc223 : Nat, ∃ ca225 : Option Addr, ∃ cc226 : Nat, ∃ ca227 : Option Addr, ∃ cc228 : Nat, ∃ ca230 : Option Addr, ∃ cc231 : Nat, ∃ ca232 : Option Addr, ∃ cc233 : Nat, ∃ ca234 : Option Addr, ∃ cc235 : Nat, ∃ ca236 : Option Addr, ∃ cc237 : Nat, ∃ S214 : T_plunderref2_Arena, ∃ S219 : T_plunderref2_Arena, ∃ S224 : T_cells_Arena, ∃ S229 : T_plunderlaw2_Kept, .inl (S214, S219, S224, S229) = o239 ∧ ∃ j, Rep 138 (lk [(7, pA Bn4 0), (9, pA Bn12 0), (11, pA Bn21 0), (13, pN), (15, pA b213 0)] j) a ∧ Fit z (sepL (ob62 Bn4 S214 ca215 cc216 ca217 cc218 :: ro2 ca215 cc216 S214.Held :: ro90 ca217 cc218 S214.Book :: ob62 Bn12 S219 ca220 cc221 ca222 cc223 :: ro2 ca220 cc221 S219.Held :: ro90 ca222 cc223 S219.Book :: ob96 Bn21 S224 ca225 cc226 ca227 cc228 :: ro2 ca225 cc226 S224.cell :: ro90 ca227 cc228 S224.log :: ob128 b213 S229 ca230 cc231 ca232 cc233 ca234 cc235 ca236 cc237 :: rn28F ca230 cc231 S229.N :: rn28 ca232 cc233 S229.WantN :: rn60F ca234 cc235 S229.L :: rn60 ca236 cc237 S229.WantL :: L)) w) ?_ ?_
   ·
    refine sr ?_
    refine o1 hr (vI 0) fun a hr => ?_
    refine ln ?_
    refine wp_block ?_
    replace h := h.rowN_nil (e := 28) (sz := 1) (own := own_sl28F)
    replace h := h.rowN_nil (e := 28) (sz := 1) (own := own_sl28)
    replace h := h.rowN_nil (e := 60) (sz := 1) (own := own_sl60F)
    replace h := h.rowN_nil (e := 60) (sz := 1) (own := own_sl60)
    refine loop_rule (β := Nat) id (fun m a w => ∃ ca241 : Option Addr, ∃ cc242 : Nat, ∃ ca243 : Option Addr, ∃ cc244 : Nat, ∃ ca246 : Option Addr, ∃ cc247 : Nat, ∃ ca248 : Option Addr, ∃ cc249 : Nat, ∃ ca251 : Option Addr, ∃ cc252 : Nat, ∃ ca253 : Option Addr, ∃ cc254 : Nat, ∃ ca256 : Option Addr, ∃ cc257 : Nat, ∃ ca258 : Option Addr, ∃ cc259 : Nat, ∃ ca260 : Option Addr, ∃ cc261 : Nat, ∃ ca262 : Option Addr, ∃ cc263 : Nat, ∃ S240 : T_plunderref2_Arena, ∃ S245 : T_plunderref2_Arena, ∃ S250 : T_cells_Arena, ∃ S255 : T_plunderlaw2_Kept, ∃ g264 : Int, (plunderlaw2_untold_l2 K p2 m S240 S245 S250 S255 g264) = some o239 ∧ ∃ j, Rep 138 (lk [(2, .slice va2 p2.length vc2), (7, pA Bn4 0), (9, pA Bn12 0), (11, pA Bn21 0), (13, pN), (15, pA b213 0), (16, vI g264)] j) a ∧ Fit z (sepL (ob62 Bn4 S240 ca241 cc242 ca243 cc244 :: ro2 ca241 cc242 S240.Held :: ro90 ca243 cc244 S240.Book :: ob62 Bn12 S245 ca246 cc247 ca248 cc249 :: ro2 ca246 cc247 S245.Held :: ro90 ca248 cc249 S245.Book :: ob96 Bn21 S250 ca251 cc252 ca253 cc254 :: ro2 ca251 cc252 S250.cell :: ro90 ca253 cc254 S250.log :: ob128 b213 S255 ca256 cc257 ca258 cc259 ca260 cc261 ca262 cc263 :: rn28F ca256 cc257 S255.N :: rn28 ca258 cc259 S255.WantN :: rn60F ca260 cc261 S255.L :: rn60 ca262 cc263 S255.WantL :: L)) w) K ⟨car5, ccr6, car7, ccr8, car13, ccr14, car15, ccr16, car22, ccr23, car24, ccr25, none, 0, none, 0, none, 0, none, 0, r1, r9, S20, (⟨([] : List (List Int)), ([] : List (List Int)), ([] : List (List T_api_Access)), ([] : List (List T_api_Access)), 0⟩ : T_plunderlaw2_Kept), 0, H, hr.fj (h.se 14 [5, 6, 7, 8, 9, 10, 11, 12, 13, 4, 3, 2, 1, 0])⟩ ?_
    clear h hr a H; rintro k2 a w ⟨ca241, cc242, ca243, cc244, ca246, cc247, ca248, cc249, ca251, cc252, ca253, cc254, ca256, cc257, ca258, cc259, ca260, cc261, ca262, cc263, S240, S245, S250, S255, g264, H, j, hr, h⟩
    cases k2 with
    | zero => exact absurd H (by simp [plunderlaw2_untold_l2])
    | succ k2 =>
     rw [plunderlaw2_untold_l2] at H
     refine wp_seq ?_
     refine sr ?_
     refine oo [63, 64, 65, 66] [vI g264, .slice va2 p2.length vc2, vI ((p2.length : Nat) : Int), vB (decide (g264 < ((p2.length : Nat) : Int)))] hr fun a hr => ?_
     refine ln ?_
     refine cD hr H (fun c265 H => ?_) fun c265 H => ?_
     ·
      refine wp_skip ?_
      refine then_normal ?_
      refine wp_seq ?_
      refine wp_block ?_
      refine sr ?_
      obtain ⟨c266, H⟩ := gd H
      refine oo [69, 70] [.slice va2 p2.length vc2, vI g264] hr fun a hr => ?_
      refine opv (wn rfl) hr (pA (blk va2) (offs va2 + g264.toNat * 5)) (ri_rd (k := .i64) (E := 30) (cc := vc2) rfl (by kernel_rfl) (by kernel_rfl) rfl (by kernel_rfl) (by kernel_rfl) hv2 c266) fun a hr => ?_
      refine ldm (wn rfl) hr (ag_T_plunderlaw2_Move (at_ p2 g264.toNat)) (cs := cl_T_plunderlaw2_Move (at_ p2 g264.toNat)) ⟨hv2.cell c266 (h.dn 14) 0 rfl, hv2.cell c266 (h.dn 14) 1 rfl, hv2.cell c266 (h.dn 14) 2 rfl, hv2.cell c266 (h.dn 14) 3 rfl, hv2.cell c266 (h.dn 14) 4 rfl, trivial⟩ fun a hr => ?_
      refine onew (wn rfl) hr h nb (#[vI 0, vI 0, vI 0, vI 0, vI 0]) 30 fun b267 w a h hr => ?_
      refine stm (wn rfl) hr h 0 (cl_T_plunderlaw2_Move (at_ p2 g264.toNat)) (ob30 b267 (at_ p2 g264.toNat)) fun w h => ?_
      refine ln ?_
      refine sr ?_
      refine o1 hr (vB true) fun a hr => ?_
      refine ln ?_
      refine wp_seq ?_
      refine wp_block ?_
      obtain ⟨o270, H, hK269⟩ := kd1 H
      refine cut_rule (β := Unit) (fun _ a w => ∃ g268 : Bool, g268 = o270 ∧ ∃ j, Rep 138 (lk [(2, .slice va2 p2.length vc2), (7, pA Bn4 0), (9, pA Bn12 0), (11, pA Bn21 0), (13, pN), (15, pA b213 0), (16, vI g264), (17, pA b267 0), (18, vB true), (79, vB g268)] j) a ∧ Fit z (sepL (ob62 Bn4 S240 ca241 cc242 ca243 cc244 :: ro2 ca241 cc242 S240.Held :: ro90 ca243 cc244 S240.Book :: ob62 Bn12 S245 ca246 cc247 ca248 cc249 :: ro2 ca246 cc247 S245.Held :: ro90 ca248 cc249 S245.Book :: ob96 Bn21 S250 ca251 cc252 ca253 cc254 :: ro2 ca251 cc252 S250.cell :: ro90 ca253 cc254 S250.log :: ob128 b213 S255 ca256 cc257 ca258 cc259 ca260 cc261 ca262 cc263 :: rn28F ca256 cc257 S255.N :: rn28 ca258 cc259 S255.WantN :: rn60F ca260 cc261 S255.L :: rn60 ca262 cc263 S255.WantL :: ob30 b267 (at_ p2 g264.toNat) :: L)) w) ?_ ?_
      ·
       refine wp_region_lit ?_
       refine o1 hr (pA b267 1) fun a hr => ?_
       refine ld (wn rfl) hr (vI (at_ p2 g264.toNat).Kind) (h.cell 1 rfl) fun a hr => ?_
       refine oo [82, 83] [vB ((at_ p2 g264.toNat).Kind == 9), vB ((at_ p2 g264.toNat).Kind == 9)] hr fun a hr => ?_
       by_cases c271 : (at_ p2 g264.toNat).Kind = 9
       ·
        replace H := ifT c271 H
        refine offl (beq_iff_eq.mpr c271) [84, 85, 86] hr fun a hr => ?_
        refine opv (wn rfl) hr (vB true) (rp_t (b := ((at_ p2 g264.toNat).Kind == 9)) rfl (by kernel_rfl) (beq_iff_eq.mpr c271) (by kernel_rfl)) fun a hr => ?_
        refine o1 hr (vB true) fun a hr => ?_
        refine ln ?_
        exact ⟨(), true, sinj H, hr.fj (h.se 15 [1, 2, 3, 4, 5, 6, 7, 8, 9, 10, 11, 12, 13, 14, 0])⟩
       ·
        replace H := ifF c271 H
        refine onl (beq_eq_false_iff_ne.mpr c271) [84] [pA b267 1] hr fun a hr => ?_
        refine ld (wgt hr (beq_eq_false_iff_ne.mpr c271)) hr (vI (at_ p2 g264.toNat).Kind) (h.cell 1 rfl) fun a hr => ?_
        refine onl (beq_eq_false_iff_ne.mpr c271) [86] [vB ((at_ p2 g264.toNat).Kind == 10)] hr fun a hr => ?_
        refine opv (wn rfl) hr (vB ((at_ p2 g264.toNat).Kind == 10)) (rp_f (b := ((at_ p2 g264.toNat).Kind == 9)) rfl (by kernel_rfl) (beq_eq_false_iff_ne.mpr c271) (by kernel_rfl)) fun a hr => ?_
        refine o1 hr (vB ((at_ p2 g264.toNat).Kind == 10)) fun a hr => ?_
        refine ln ?_
        exact ⟨(), ((at_ p2 g264.toNat).Kind == 10), sinj H, hr.fj (h.se 15 [1, 2, 3, 4, 5, 6, 7, 8, 9, 10, 11, 12, 13, 14, 0])⟩
      clear h hr a; rintro _ a w ⟨g268, rfl, j, hr, h⟩
      replace H := kk1 hK269
      refine cV hr H (fun c272 H => ?_) fun c272 H => ?_
      ·
       obtain ⟨o275, H, hK274⟩ := kd1 H
       refine cut_rule (β := Unit) (fun _ a w => ∃ g273 : Bool, g273 = o275 ∧ ∃ j, Rep 138 (lk [(2, .slice va2 p2.length vc2), (7, pA Bn4 0), (9, pA Bn12 0), (11, pA Bn21 0), (13, pN), (15, pA b213 0), (16, vI g264), (18, vB true), (100, vB g273)] j) a ∧ Fit z (sepL (ob62 Bn4 S240 ca241 cc242 ca243 cc244 :: ro2 ca241 cc242 S240.Held :: ro90 ca243 cc244 S240.Book :: ob62 Bn12 S245 ca246 cc247 ca248 cc249 :: ro2 ca246 cc247 S245.Held :: ro90 ca248 cc249 S245.Book :: ob96 Bn21 S250 ca251 cc252 ca253 cc254 :: ro2 ca251 cc252 S250.cell :: ro90 ca253 cc254 S250.log :: ob128 b213 S255 ca256 cc257 ca258 cc259 ca260 cc261 ca262 cc263 :: rn28F ca256 cc257 S255.N :: rn28 ca258 cc259 S255.WantN :: rn60F ca260 cc261 S255.L :: rn60 ca262 cc263 S255.WantL :: L)) w) ?_ ?_
       ·
        refine wp_region_lit ?_
        refine oo [88, 89, 90] [pA b213 0, pA b213 0, pA b213 0] hr fun a hr => ?_
        refine ld (wn rfl) hr (.slice ca256 S255.N.length cc257) ((h.pick 9).cell 0 rfl) fun a hr => ?_
        refine oo [92, 93, 94] [vI ((S255.N.length : Nat) : Int), vB (decide (((S255.N.length : Nat) : Int) < 400)), vB (decide (((S255.N.length : Nat) : Int) < 400))] hr fun a hr => ?_
        by_cases c276 : ((S255.N.length : Nat) : Int) < 400
        ·
         replace H := ifT c276 H
         refine onl (decide_eq_true c276) [95, 96, 97] [pA b213 0, pA b213 0, pA b213 4] hr fun a hr => ?_
         refine ld (wgt hr (decide_eq_true c276)) hr (vI S255.Sum) ((h.pick 9).cell 4 rfl) fun a hr => ?_
         refine onl (decide_eq_true c276) [99] [vB (decide (S255.Sum < 100000))] hr fun a hr => ?_
         refine opv (wn rfl) hr (vB (decide (S255.Sum < 100000))) (rp_t (b := (decide (((S255.N.length : Nat) : Int) < 400))) rfl (by kernel_rfl) (decide_eq_true c276) (by kernel_rfl)) fun a hr => ?_
         refine ln ?_
         exact ⟨(), (decide (S255.Sum < 100000)), sinj H, hr.fj (h.se 15 [0, 1, 2, 3, 4, 5, 6, 7, 8, 9, 10, 11, 12, 13])⟩
        ·
         replace H := ifF c276 H
         refine offl (decide_eq_false c276) [95, 96, 97, 98, 99] hr fun a hr => ?_
         refine opv (wn rfl) hr (vB false) (rp_f (b := (decide (((S255.N.length : Nat) : Int) < 400))) rfl (by kernel_rfl) (decide_eq_false c276) (by kernel_rfl)) fun a hr => ?_
         refine ln ?_
         exact ⟨(), false, sinj H, hr.fj (h.se 15 [0, 1, 2, 3, 4, 5, 6, 7, 8, 9, 10, 11, 12, 13])⟩
       clear h hr a; rintro _ a w ⟨g273, rfl, j, hr, h⟩
       replace H := kk1 hK274
       refine cV hr H (fun c277 H => ?_) fun c277 H => ?_
       ·
        refine wp_region_lit ?_
        obtain ⟨r278, S279, e280, H⟩ := bd2 H
        refine oo [101, 102, 103] [pA b213 0, pA Bn21 0, pA Bn4 0] hr fun a hr => ?_
        replace h := h.m2.m2.m2.m8.m8.m8.m13.m13.m13.m13.m13
        have hc := plunderlaw2_Kept_asked_ok (H := e280) (h := h)
        refine cl (wn rfl) hr hc ?_; clear hc h
        rintro _ w ⟨caq281, ccq282, caq283, ccq284, caq285, ccq286, caq287, ccq288, rfl, h⟩; refine ⟨_, rfl, fun a hr => ?_⟩
        refine o1 hr (vB r278) fun a hr => ?_
        by_cases c289 : r278 = true
        ·
         replace H := ifT c289 H
         obtain ⟨r290, S291, e292, H⟩ := bd2 H
         refine onl (c289) [106, 107, 108] [pA b213 0, pN, pA Bn12 0] hr fun a hr => ?_
         replace h := h.m13.m13.m13.m7.m7.m7.m7.m7
         have hc := plunderlaw2_Kept_asked_nil_ok (H := e292) (h := h)
         refine cl (wgt hr (c289)) hr hc ?_; clear hc h
         rintro _ w ⟨caq293, ccq294, caq295, ccq296, caq297, ccq298, caq299, ccq300, rfl, h⟩; refine ⟨_, rfl, fun a hr => ?_⟩
         refine opv (wn rfl) hr (vB r290) (rp_t (b := r278) rfl (by kernel_rfl) (c289) (by kernel_rfl)) fun a hr => ?_
         refine o1 hr (vB r290) fun a hr => ?_
         refine wpList_nil ?_
         refine blk_normal ?_
         refine then_normal ?_
         refine sr ?_
         refine oo [122, 123] [vB r290, vB (!r290)] hr fun a hr => ?_
         refine ln ?_
         refine cM hr H (fun c301 H => ?_) fun c301 H => ?_
         ·
          refine wp_skip ?_
          refine blk_normal ?_
          refine then_normal ?_
          refine wp_region_lit ?_
          refine oo [67, 68, 16] [vI g264, vI (wi (g264 + 1)), vI (wi (g264 + 1))] hr fun a hr => ?_
          refine ln ?_
          exact ⟨_, ⟨ca241, cc242, ca243, cc244, ca246, cc247, ca248, cc249, ca251, cc252, ca253, cc254, caq293, ccq294, caq295, ccq296, caq297, ccq298, caq299, ccq300, S240, S245, S250, S291, (wi (g264 + 1)), H, hr.fj (h.se 14 [11, 12, 13, 5, 6, 7, 8, 9, 10, 0, 1, 2, 3, 4])⟩, Nat.lt_succ_self _⟩
         ·
          refine sr ?_
          refine o1 hr (vB false) fun a hr => ?_
          refine ln ?_
          refine wp_ret ?_
          refine blk_ret ?_
          refine then_ret ?_
          refine then_ret ?_
          refine blk_ret ?_
          refine then_ret ?_
          refine end_ret1 (v := vB false) rfl hr (by kernel_rfl) ?_
          replace H := jx4 H hK238
          replace H := ej1 H; subst H
          exact ⟨rfl, h.se 14 []⟩
        ·
         replace H := ifF c289 H
         refine offl (bF c289) [106, 107, 108, 109] hr fun a hr => ?_
         refine opv (wn rfl) hr (vB false) (rp_f (b := r278) rfl (by kernel_rfl) (bF c289) (by kernel_rfl)) fun a hr => ?_
         refine o1 hr (vB false) fun a hr => ?_
         refine wpList_nil ?_
         refine blk_normal ?_
         refine then_normal ?_
         refine sr ?_
         refine oo [122, 123] [vB false, vB true] hr fun a hr => ?_
         refine ln ?_
         refine cond_tt hr (b := true) rfl ?_
         refine sr ?_
         refine o1 hr (vB false) fun a hr => ?_
         refine ln ?_
         refine wp_ret ?_
         refine blk_ret ?_
         refine then_ret ?_
         refine then_ret ?_
         refine blk_ret ?_
         refine then_ret ?_
         refine end_ret1 (v := vB false) rfl hr (by kernel_rfl) ?_
         replace H := jx4 H hK238
         replace H := ej1 H; subst H
         exact ⟨rfl, h.se 14 []⟩
       ·
        refine wp_skip ?_
        refine blk_normal ?_
        refine then_normal ?_
        refine sr ?_
        refine oo [122, 123] [vB true, vB false] hr fun a hr => ?_
        refine ln ?_
        refine cond_ff hr (b := false) rfl ?_
        refine wp_skip ?_
        refine blk_normal ?_
        refine then_normal ?_
        refine wp_region_lit ?_
        refine oo [67, 68, 16] [vI g264, vI (wi (g264 + 1)), vI (wi (g264 + 1))] hr fun a hr => ?_
        refine ln ?_
        exact ⟨_, ⟨ca241, cc242, ca243, cc244, ca246, cc247, ca248, cc249, ca251, cc252, ca253, cc254, ca256, cc257, ca258, cc259, ca260, cc261, ca262, cc263, S240, S245, S250, S255, (wi (g264 + 1)), H, hr.fj h⟩, Nat.lt_succ_self _⟩
      ·
       refine sr ?_
       refine o1 hr (pA b267 0) fun a hr => ?_
       refine ld (wn rfl) hr (vI (at_ p2 g264.toNat).Side) ((h.pick 14).cell 0 rfl) fun a hr => ?_
       obtain ⟨r302, e303, H⟩ := bd1 H
       have hc := plunderlaw2_mod_ok (H := e303) (h := h)
       refine cl (wn rfl) hr hc ?_; clear hc h
       rintro _ w ⟨rfl, h⟩; refine ⟨_, rfl, fun a hr => ?_⟩
       refine oo [115, 111] [vB (r302 == 0), vB (r302 == 0)] hr fun a hr => ?_
       refine ln ?_
       refine cD hr H (fun c304 H => ?_) fun c304 H => ?_
       ·
        refine wp_region_lit ?_
        refine oo [116, 117] [pA Bn21 0, pA Bn4 0] hr fun a hr => ?_
        refine ldm (wn rfl) hr (ag_T_plunderlaw2_Move (at_ p2 g264.toNat)) (cs := cl_T_plunderlaw2_Move (at_ p2 g264.toNat)) ((h.pick 14).held 0 rfl) fun a hr => ?_
        refine o1 hr (.agg #[.slice none 0 0, .slice none 0 0, vI 0]) fun a hr => ?_
        refine onew (wn rfl) hr h nb (#[.slice none 0 0, .slice none 0 0, vI 0]) 78 fun b305 w a h hr => ?_
        replace h := h.rowN_nil (e := 139) (sz := 5) (own := own_T_plunderlaw2_kept)
        replace h := h.rowN_nil (e := 142) (sz := 5) (own := own_T_plunderlaw2_noted)
        obtain ⟨r306, S307, S308, S309, e310, H⟩ := bd4 H
        replace h := h.m1.m2.m5.m5.m5.m11.m11.m11
        have hc := plunderlaw2_plays_ok (H := e310) (h := h)
        refine cl (wn rfl) hr hc ?_; clear hc h
        rintro _ w ⟨caq311, ccq312, caq313, ccq314, caq315, ccq316, caq317, ccq318, caq319, ccq320, caq321, ccq322, rfl, h⟩; refine ⟨_, rfl, fun a hr => ?_⟩
        refine o1 hr (vB r306) fun a hr => ?_
        refine wpList_nil ?_
        refine blk_normal ?_
        refine then_normal ?_
        refine sr ?_
        refine oo [122, 123] [vB r306, vB (!r306)] hr fun a hr => ?_
        refine ln ?_
        refine cM hr H (fun c323 H => ?_) fun c323 H => ?_
        ·
         refine wp_skip ?_
         refine blk_normal ?_
         refine then_normal ?_
         refine wp_region_lit ?_
         refine oo [67, 68, 16] [vI g264, vI (wi (g264 + 1)), vI (wi (g264 + 1))] hr fun a hr => ?_
         refine ln ?_
         exact ⟨_, ⟨caq315, ccq316, caq317, ccq318, ca246, cc247, ca248, cc249, caq311, ccq312, caq313, ccq314, ca256, cc257, ca258, cc259, ca260, cc261, ca262, cc263, S308, S245, S307, S255, (wi (g264 + 1)), H, hr.fj (h.se 18 [3, 4, 5, 9, 10, 11, 0, 1, 2, 12, 13, 14, 15, 16])⟩, Nat.lt_succ_self _⟩
        ·
         refine sr ?_
         refine o1 hr (vB false) fun a hr => ?_
         refine ln ?_
         refine wp_ret ?_
         refine blk_ret ?_
         refine then_ret ?_
         refine then_ret ?_
         refine blk_ret ?_
         refine then_ret ?_
         refine end_ret1 (v := vB false) rfl hr (by kernel_rfl) ?_
         replace H := jx4 H hK238
         replace H := ej1 H; subst H
         exact ⟨rfl, h.se 18 []⟩
       ·
        refine wp_region_lit ?_
        refine oo [73, 74] [pN, pA Bn12 0] hr fun a hr => ?_
        refine ldm (wn rfl) hr (ag_T_plunderlaw2_Move (at_ p2 g264.toNat)) (cs := cl_T_plunderlaw2_Move (at_ p2 g264.toNat)) ((h.pick 14).held 0 rfl) fun a hr => ?_
        refine o1 hr (.agg #[.slice none 0 0, .slice none 0 0, vI 0]) fun a hr => ?_
        refine onew (wn rfl) hr h nb (#[.slice none 0 0, .slice none 0 0, vI 0]) 78 fun b324 w a h hr => ?_
        replace h := h.rowN_nil (e := 139) (sz := 5) (own := own_T_plunderlaw2_kept)
        replace h := h.rowN_nil (e := 142) (sz := 5) (own := own_T_plunderlaw2_noted)
        obtain ⟨r325, S326, S327, e328, H⟩ := bd3 H
        replace h := h.m1.m2.m8.m8.m8
        have hc := plunderlaw2_plays_nil_ok (H := e328) (h := h)
        refine cl (wn rfl) hr hc ?_; clear hc h
        rintro _ w ⟨caq329, ccq330, caq331, ccq332, caq333, ccq334, caq335, ccq336, rfl, h⟩; refine ⟨_, rfl, fun a hr => ?_⟩
        refine o1 hr (vB r325) fun a hr => ?_
        refine wpList_nil ?_
        refine blk_normal ?_
        refine then_normal ?_
        refine sr ?_
        refine oo [122, 123] [vB r325, vB (!r325)] hr fun a hr => ?_
        refine ln ?_
        refine cM hr H (fun c337 H => ?_) fun c337 H => ?_
        ·
         refine wp_skip ?_
         refine blk_normal ?_
         refine then_normal ?_
         refine wp_region_lit ?_
         refine oo [67, 68, 16] [vI g264, vI (wi (g264 + 1)), vI (wi (g264 + 1))] hr fun a hr => ?_
         refine ln ?_
         exact ⟨_, ⟨ca241, cc242, ca243, cc244, caq329, ccq330, caq331, ccq332, ca251, cc252, ca253, cc254, ca256, cc257, ca258, cc259, ca260, cc261, ca262, cc263, S240, S326, S250, S255, (wi (g264 + 1)), H, hr.fj (h.se 18 [6, 7, 8, 0, 1, 2, 9, 10, 11, 12, 13, 14, 15, 16])⟩, Nat.lt_succ_self _⟩
        ·
         refine sr ?_
         refine o1 hr (vB false) fun a hr => ?_
         refine ln ?_
         refine wp_ret ?_
         refine blk_ret ?_
         refine then_ret ?_
         refine then_ret ?_
         refine blk_ret ?_
         refine then_ret ?_
         refine end_ret1 (v := vB false) rfl hr (by kernel_rfl) ?_
         replace H := jx4 H hK238
         replace H := ej1 H; subst H
         exact ⟨rfl, h.se 18 []⟩
     ·
      refine wp_exit ?_
      refine then_exit ?_
      refine then_exit ?_
      refine blk_here ?_
      refine then_normal ?_
      exact ⟨(), ca241, cc242, ca243, cc244, ca246, cc247, ca248, cc249, ca251, cc252, ca253, cc254, ca256, cc257, ca258, cc259, ca260, cc261, ca262, cc263, S240, S245, S250, S255, sinj H, hr.fj h⟩
   clear h hr a; rintro _ a w ⟨ca215, cc216, ca217, cc218, ca220, cc221, ca222, cc223, ca225, cc226, ca227, cc228, ca230, cc231, ca232, cc233, ca234, cc235, ca236, cc237, S214, S219, S224, S229, rfl, j, hr, h⟩
   replace H := jk4 hK238
   refine sr ?_
   obtain ⟨r338, S339, e340, H⟩ := bd2 H
   refine oo [124, 125, 126] [pA b213 0, pA Bn21 0, pA Bn4 0] hr fun a hr => ?_
   replace h := h.m2.m2.m2.m8.m8.m8.m13.m13.m13.m13.m13
   have hc := plunderlaw2_Kept_asked_ok (H := e340) (h := h)
   refine cl (wn rfl) hr hc ?_; clear hc h
   rintro _ w ⟨caq341, ccq342, caq343, ccq344, caq345, ccq346, caq347, ccq348, rfl, h⟩; refine ⟨_, rfl, fun a hr => ?_⟩
   refine o1 hr (vB r338) fun a hr => ?_
   by_cases c349 : r338 = true
   ·
    replace H := ifT c349 H
    obtain ⟨r350, S351, e352, H⟩ := bd2 H
    refine onl (c349) [129, 130, 131] [pA b213 0, pN, pA Bn12 0] hr fun a hr => ?_
    replace h := h.m13.m13.m13.m7.m7.m7.m7.m7
    have hc := plunderlaw2_Kept_asked_nil_ok (H := e352) (h := h)
    refine cl (wgt hr (c349)) hr hc ?_; clear hc h
    rintro _ w ⟨caq353, ccq354, caq355, ccq356, caq357, ccq358, caq359, ccq360, rfl, h⟩; refine ⟨_, rfl, fun a hr => ?_⟩
    refine opv (wn rfl) hr (vB r350) (rp_t (b := r338) rfl (by kernel_rfl) (c349) (by kernel_rfl)) fun a hr => ?_
    refine o1 hr (vB r350) fun a hr => ?_
    by_cases c361 : r350 = true
    ·
     replace H := ifT c361 H
     obtain ⟨r362, e363, H⟩ := bd1 H
     refine onl (c361) [135] [pA b213 0] hr fun a hr => ?_
     have hc := plunderlaw2_Kept_alone_ok (H := e363) (h := h)
     refine cl (wgt hr (c361)) hr hc ?_; clear hc h
     rintro _ w ⟨rfl, h⟩; refine ⟨_, rfl, fun a hr => ?_⟩
     refine opv (wn rfl) hr (vB r362) (rp_t (b := r350) rfl (by kernel_rfl) (c361) (by kernel_rfl)) fun a hr => ?_
     refine o1 hr (vB r362) fun a hr => ?_
     refine ln ?_
     refine wp_ret ?_
     refine end_ret1 (v := vB r362) rfl hr (by kernel_rfl) ?_
     replace H := ej1 H; subst H
     exact ⟨rfl, h.se 9 []⟩
    ·
     replace H := ifF c361 H
     refine offl (bF c361) [135, 136] hr fun a hr => ?_
     refine opv (wn rfl) hr (vB false) (rp_f (b := r350) rfl (by kernel_rfl) (bF c361) (by kernel_rfl)) fun a hr => ?_
     refine o1 hr (vB false) fun a hr => ?_
     refine ln ?_
     refine wp_ret ?_
     refine end_ret1 (v := vB false) rfl hr (by kernel_rfl) ?_
     replace H := ej1 H; subst H
     exact ⟨rfl, h.se 14 []⟩
   ·
    replace H := ifF c349 H
    refine offl (bF c349) [129, 130, 131, 132] hr fun a hr => ?_
    refine opv (wn rfl) hr (vB false) (rp_f (b := r338) rfl (by kernel_rfl) (bF c349) (by kernel_rfl)) fun a hr => ?_
    refine o1 hr (vB false) fun a hr => ?_
    refine offl (rfl : false = false) [135, 136] hr fun a hr => ?_
    refine oo [137, 6] [vB false, vB false] hr fun a hr => ?_
    refine ln ?_
    refine wp_ret ?_
    refine end_ret1 (v := vB false) rfl hr (by kernel_rfl) ?_
    replace H := ej1 H; subst H
    exact ⟨rfl, h.se 14 []⟩
 | none =>
  have hc := cells_New_ok1 (H := e19) (h := h)
  refine cl (wn rfl) hr hc ?_; clear hc h
  rintro _ w ⟨rfl, h⟩; refine ⟨_, rfl, fun a hr => ?_⟩
  refine oo [29, 32, 33, 11, 12] [.tuple #[pN, vI r18], pN, vI r18, pN, vI r18] hr fun a hr => ?_
  refine ln ?_
  refine sr ?_
  obtain ⟨r364, r365, e366, H⟩ := bd2 H
  refine o1 hr (vI p1) fun a hr => ?_
  cases r364 with
  | some S367 =>
   have hc := cells_New_ok0 (H := e366) (h := h)
   refine cl (wn rfl) hr hc ?_; clear hc h
   rintro _ w ⟨Bn368, car369, ccr370, car371, ccr372, rfl, h⟩; refine ⟨_, rfl, fun a hr => ?_⟩
   refine oo [34, 37, 38, 13, 14] [.tuple #[pA Bn368 0, vI r365], pA Bn368 0, vI r365, pA Bn368 0, vI r365] hr fun a hr => ?_
   refine ln ?_
   obtain ⟨o374, H, hK373⟩ := jd0 H
   refine cut_rule (β := Unit) (fun _ a w => .inl () = o374 ∧ ∃ j, Rep 138 (lk [(2, .slice va2 p2.length vc2), (7, pA Bn4 0), (9, pA Bn12 0), (11, pN), (13, pA Bn368 0)] j) a ∧ Fit z (sepL (ob62 Bn4 r1 car5 ccr6 car7 ccr8 :: ro2 car5 ccr6 r1.Held :: ro90 car7 ccr8 r1.Book :: ob62 Bn12 r9 car13 ccr14 car15 ccr16 :: ro2 car13 ccr14 r9.Held :: ro90 car15 ccr16 r9.Book :: ob96 Bn368 S367 car369 ccr370 car371 ccr372 :: ro2 car369 ccr370 S367.cell :: ro90 car371 ccr372 S367.log :: L)) w) ?_ ?_
   ·
    refine sr ?_
    refine oo [39, 40, 41, 42] [vI r18, vI r2, vB (r18 != r2), vB (r18 != r2)] hr fun a hr => ?_
    by_cases c375 : r18 = r2
    ·
     replace H := ifT c375 H
     refine onl (bne_eq_false_iff_eq.mpr c375) [43, 44, 45] [vI r365, vI r10, vB (r365 != r10)] hr fun a hr => ?_
     refine opv (wn rfl) hr (vB (r365 != r10)) (rp_f (b := (r18 != r2)) rfl (by kernel_rfl) (bne_eq_false_iff_eq.mpr c375) (by kernel_rfl)) fun a hr => ?_
     refine o1 hr (vB (r365 != r10)) fun a hr => ?_
     by_cases c376 : r365 = r10
     ·
      replace H := ifT c376 H
      refine onl (bne_eq_false_iff_eq.mpr c376) [48, 49, 50, 51, 52] [pN, vB true, vI r2, vB (r2 != 0), vB (!(true == (r2 != 0)))] hr fun a hr => ?_
      refine opv (wn rfl) hr (vB (!(true == (r2 != 0)))) (rp_f (b := (r365 != r10)) rfl (by kernel_rfl) (bne_eq_false_iff_eq.mpr c376) (by kernel_rfl)) fun a hr => ?_
      refine o1 hr (vB (!(true == (r2 != 0)))) fun a hr => ?_
      by_cases c377 : true = (r2 != 0)
      ·
       replace H := ifT c377 H
       refine onl (show (!(true == (r2 != 0))) = false from (by rw [show (true == (r2 != 0)) = true from (beq_iff_eq.mpr c377)]; rfl)) [55, 56, 57, 58, 59] [pA Bn368 0, vB false, vI r10, vB (r10 != 0), vB (!(false == (r10 != 0)))] hr fun a hr => ?_
       refine opv (wn rfl) hr (vB (!(false == (r10 != 0)))) (rp_f (b := (!(true == (r2 != 0)))) rfl (by kernel_rfl) (by rw [show (true == (r2 != 0)) = true from (beq_iff_eq.mpr c377)]; rfl) (by kernel_rfl)) fun a hr => ?_
       refine ln ?_
       by_cases c378 : false = (r10 != 0)
       ·
        replace H := ifT c378 H
        refine cond_ff hr (b := (!(false == (r10 != 0)))) (by rw [show (false == (r10 != 0)) = true from (beq_iff_eq.mpr c378)]; rfl) ?_
        refine wp_skip ?_
        refine then_normal ?_
        exact ⟨(), sinj H, hr.fj (h.se 9 [6, 7, 8, 3, 4, 5, 0, 1, 2])⟩
       ·
        replace H := ifF c378 H
        refine cond_tt hr (b := (!(false == (r10 != 0)))) (by rw [show (false == (r10 != 0)) = false from (beq_eq_false_iff_ne.mpr c378)]; rfl) ?_
        refine sr ?_
        refine o1 hr (vB false) fun a hr => ?_
        refine ln ?_
        refine wp_ret ?_
        refine then_ret ?_
        refine end_ret1 (v := vB false) rfl hr (by kernel_rfl) ?_
        replace H := jx0 H hK373
        replace H := ej1 H; subst H
        exact ⟨rfl, h.se 9 []⟩
      ·
       replace H := ifF c377 H
       refine offl (show (!(true == (r2 != 0))) = true from (by rw [show (true == (r2 != 0)) = false from (beq_eq_false_iff_ne.mpr c377)]; rfl)) [55, 56, 57, 58, 59] hr fun a hr => ?_
       refine opv (wn rfl) hr (vB true) (rp_t (b := (!(true == (r2 != 0)))) rfl (by kernel_rfl) (by rw [show (true == (r2 != 0)) = false from (beq_eq_false_iff_ne.mpr c377)]; rfl) (by kernel_rfl)) fun a hr => ?_
       refine ln ?_
       refine cond_tt hr (b := true) rfl ?_
       refine sr ?_
       refine o1 hr (vB false) fun a hr => ?_
       refine ln ?_
       refine wp_ret ?_
       refine then_ret ?_
       refine end_ret1 (v := vB false) rfl hr (by kernel_rfl) ?_
       replace H := jx0 H hK373
       replace H := ej1 H; subst H
       exact ⟨rfl, h.se 9 []⟩
     ·
      replace H := ifF c376 H
      refine offl (bne_iff_ne.mpr c376) [48, 49, 50, 51, 52] hr fun a hr => ?_
      refine opv (wn rfl) hr (vB true) (rp_t (b := (r365 != r10)) rfl (by kernel_rfl) (bne_iff_ne.mpr c376) (by kernel_rfl)) fun a hr => ?_
      refine o1 hr (vB true) fun a hr => ?_
      refine offl (rfl : true = true) [55, 56, 57, 58, 59] hr fun a hr => ?_
      refine o1 hr (vB true) fun a hr => ?_
      refine ln ?_
      refine cond_tt hr (b := true) rfl ?_
      refine sr ?_
      refine o1 hr (vB false) fun a hr => ?_
      refine ln ?_
      refine wp_ret ?_
      refine then_ret ?_
      refine end_ret1 (v := vB false) rfl hr (by kernel_rfl) ?_
      replace H := jx0 H hK373
      replace H := ej1 H; subst H
      exact ⟨rfl, h.se 9 []⟩
    ·
     replace H := ifF c375 H
     refine offl (bne_iff_ne.mpr c375) [43, 44, 45] hr fun a hr => ?_
     refine opv (wn rfl) hr (vB true) (rp_t (b := (r18 != r2)) rfl (by kernel_rfl) (bne_iff_ne.mpr c375) (by kernel_rfl)) fun a hr => ?_
     refine o1 hr (vB true) fun a hr => ?_
     refine offl (rfl : true = true) [48, 49, 50, 51, 52] hr fun a hr => ?_
     refine oo [53, 54] [vB true, vB true] hr fun a hr => ?_
     refine offl (rfl : true = true) [55, 56, 57, 58, 59] hr fun a hr => ?_
     refine o1 hr (vB true) fun a hr => ?_
     refine ln ?_
     refine cond_tt hr (b := true) rfl ?_
     refine sr ?_
     refine o1 hr (vB false) fun a hr => ?_
     refine ln ?_
     refine wp_ret ?_
     refine then_ret ?_
     refine end_ret1 (v := vB false) rfl hr (by kernel_rfl) ?_
     replace H := jx0 H hK373
     replace H := ej1 H; subst H
     exact ⟨rfl, h.se 9 []⟩
   clear h hr a; rintro _ a w ⟨rfl, j, hr, h⟩
   replace H := jk0 hK373
   refine sr ?_
   refine o1 hr (.agg #[.slice none 0 0, .slice none 0 0, .slice none 0 0, .slice none 0 0, vI 0]) fun a hr => ?_
   refine onew (wn rfl) hr h nb (#[.slice none 0 0, .slice none 0 0, .slice none 0 0, .slice none 0 0, vI 0]) 128 fun b379 w a h hr => ?_
   refine o1 hr (pA b379 0) fun a hr => ?_
   refine ln ?_
   obtain ⟨o405, H, hK404⟩ := jd4 H
   refine cut_rule (β := Unit) (fun _ a w => ∃ ca381 : Option Addr, ∃ cc382 : Nat, ∃ ca383 : Option Addr, ∃ cc384 : Nat, ∃ ca386 : Option Addr, ∃ cc387 : Nat, ∃ ca388 : Option Addr, ∃ cc389 : Nat, ∃ ca391 : Option Addr, ∃ cc392 : Nat, ∃ ca393 : Option Addr, ∃ cc394 : Nat, ∃ ca396 : Option Addr, ∃ cc397 : Nat, ∃ ca398 : Option Addr, ∃ cc399 : Nat, ∃ ca400 : Option Addr, ∃ cc401 : Nat, ∃ ca402 : Option Addr, ∃ cc403 : Nat, ∃ S380 : T_plunderref2_Arena, ∃ S385 : T_plunderref2_Arena, ∃ S390 : T_cells_Arena, ∃ S395 : T_plunderlaw2_Kept, .inl (S380, S385, S390, S395) = o405 ∧ ∃ j, Rep 138 (lk [(7, pA Bn4 0), (9, pA Bn12 0), (11, pN), (13, pA Bn368 0), (15, pA b379 0)] j) a ∧ Fit z (sepL (ob62 Bn4 S380 ca381 cc382 ca383 cc384 :: ro2 ca381 cc382 S380.Held :: ro90 ca383 cc384 S380.Book :: ob62 Bn12 S385 ca386 cc387 ca388 cc389 :: ro2 ca386 cc387 S385.Held :: ro90 ca388 cc389 S385.Book :: ob96 Bn368 S390 ca391 cc392 ca393 cc394 :: ro2 ca391 cc392 S390.cell :: ro90 ca393 cc394 S390.log :: ob128 b379 S395 ca396 cc397 ca398 cc399 ca400 cc401 ca402 cc403 :: rn28F ca396 cc397 S395.N :: rn28 ca398 cc399 S395.WantN :: rn60F ca400 cc401 S395.L :: rn60 ca402 cc403 S395.WantL :: L)) w) ?_ ?_
   ·
    refine sr ?_
    refine o1 hr (vI 0) fun a hr => ?_
    refine ln ?_
    refine wp_block ?_
    replace h := h.rowN_nil (e := 28) (sz := 1) (own := own_sl28F)
    replace h := h.rowN_nil (e := 28) (sz := 1) (own := own_sl28)
    replace h := h.rowN_nil (e := 60) (sz := 1) (own := own_sl60F)
    replace h := h.rowN_nil (e := 60) (sz := 1) (own := own_sl60)
    refine loop_rule (β := Nat) id (fun m a w => ∃ ca407 : Option Addr, ∃ cc408 : Nat, ∃ ca409 : Option Addr, ∃ cc410 : Nat, ∃ ca412 : Option Addr, ∃ cc413 : Nat, ∃ ca414 : Option Addr, ∃ cc415 : Nat, ∃ ca417 : Option Addr, ∃ cc418 : Nat, ∃ ca419 : Option Addr, ∃ cc420 : Nat, ∃ ca422 : Option Addr, ∃ cc423 : Nat, ∃ ca424 : Option Addr, ∃ cc425 : Nat, ∃ ca426 : Option Addr, ∃ cc427 : Nat, ∃ ca428 : Option Addr, ∃ cc429 : Nat, ∃ S406 : T_plunderref2_Arena, ∃ S411 : T_plunderref2_Arena, ∃ S416 : T_cells_Arena, ∃ S421 : T_plunderlaw2_Kept, ∃ g430 : Int, (plunderlaw2_untold_l3 K p2 m S406 S411 S416 S421 g430) = some o405 ∧ ∃ j, Rep 138 (lk [(2, .slice va2 p2.length vc2), (7, pA Bn4 0), (9, pA Bn12 0), (11, pN), (13, pA Bn368 0), (15, pA b379 0), (16, vI g430)] j) a ∧ Fit z (sepL (ob62 Bn4 S406 ca407 cc408 ca409 cc410 :: ro2 ca407 cc408 S406.Held :: ro90 ca409 cc410 S406.Book :: ob62 Bn12 S411 ca412 cc413 ca414 cc415 :: ro2 ca412 cc413 S411.Held :: ro90 ca414 cc415 S411.Book :: ob96 Bn368 S416 ca417 cc418 ca419 cc420 :: ro2 ca417 cc418 S416.cell :: ro90 ca419 cc420 S416.log :: ob128 b379 S421 ca422 cc423 ca424 cc425 ca426 cc427 ca428 cc429 :: rn28F ca422 cc423 S421.N :: rn28 ca424 cc425 S421.WantN :: rn60F ca426 cc427 S421.L :: rn60 ca428 cc429 S421.WantL :: L)) w) K ⟨car5, ccr6, car7, ccr8, car13, ccr14, car15, ccr16, car369, ccr370, car371, ccr372, none, 0, none, 0, none, 0, none, 0, r1, r9, S367, (⟨([] : List (List Int)), ([] : List (List Int)), ([] : List (List T_api_Access)), ([] : List (List T_api_Access)), 0⟩ : T_plunderlaw2_Kept), 0, H, hr.fj (h.se 14 [5, 6, 7, 8, 9, 10, 11, 12, 13, 4, 3, 2, 1, 0])⟩ ?_
    clear h hr a H; rintro k3 a w ⟨ca407, cc408, ca409, cc410, ca412, cc413, ca414, cc415, ca417, cc418, ca419, cc420, ca422, cc423, ca424, cc425, ca426, cc427, ca428, cc429, S406, S411, S416, S421, g430, H, j, hr, h⟩
    cases k3 with
    | zero => exact absurd H (by simp [plunderlaw2_untold_l3])
    | succ k3 =>
     rw [plunderlaw2_untold_l3] at H
     refine wp_seq ?_
     refine sr ?_
     refine oo [63, 64, 65, 66] [vI g430, .slice va2 p2.length vc2, vI ((p2.length : Nat) : Int), vB (decide (g430 < ((p2.length : Nat) : Int)))] hr fun a hr => ?_
     refine ln ?_
     refine cD hr H (fun c431 H => ?_) fun c431 H => ?_
     ·
      refine wp_skip ?_
      refine then_normal ?_
      refine wp_seq ?_
      refine wp_block ?_
      refine sr ?_
      obtain ⟨c432, H⟩ := gd H
      refine oo [69, 70] [.slice va2 p2.length vc2, vI g430] hr fun a hr => ?_
      refine opv (wn rfl) hr (pA (blk va2) (offs va2 + g430.toNat * 5)) (ri_rd (k := .i64) (E := 30) (cc := vc2) rfl (by kernel_rfl) (by kernel_rfl) rfl (by kernel_rfl) (by kernel_rfl) hv2 c432) fun a hr => ?_
      refine ldm (wn rfl) hr (ag_T_plunderlaw2_Move (at_ p2 g430.toNat)) (cs := cl_T_plunderlaw2_Move (at_ p2 g430.toNat)) ⟨hv2.cell c432 (h.dn 14) 0 rfl, hv2.cell c432 (h.dn 14) 1 rfl, hv2.cell c432 (h.dn 14) 2 rfl, hv2.cell c432 (h.dn 14) 3 rfl, hv2.cell c432 (h.dn 14) 4 rfl, trivial⟩ fun a hr => ?_
      refine onew (wn rfl) hr h nb (#[vI 0, vI 0, vI 0, vI 0, vI 0]) 30 fun b433 w a h hr => ?_
      refine stm (wn rfl) hr h 0 (cl_T_plunderlaw2_Move (at_ p2 g430.toNat)) (ob30 b433 (at_ p2 g430.toNat)) fun w h => ?_
      refine ln ?_
      refine sr ?_
      refine o1 hr (vB true) fun a hr => ?_
      refine ln ?_
      refine wp_seq ?_
      refine wp_block ?_
      obtain ⟨o436, H, hK435⟩ := kd1 H
      refine cut_rule (β := Unit) (fun _ a w => ∃ g434 : Bool, g434 = o436 ∧ ∃ j, Rep 138 (lk [(2, .slice va2 p2.length vc2), (7, pA Bn4 0), (9, pA Bn12 0), (11, pN), (13, pA Bn368 0), (15, pA b379 0), (16, vI g430), (17, pA b433 0), (18, vB true), (79, vB g434)] j) a ∧ Fit z (sepL (ob62 Bn4 S406 ca407 cc408 ca409 cc410 :: ro2 ca407 cc408 S406.Held :: ro90 ca409 cc410 S406.Book :: ob62 Bn12 S411 ca412 cc413 ca414 cc415 :: ro2 ca412 cc413 S411.Held :: ro90 ca414 cc415 S411.Book :: ob96 Bn368 S416 ca417 cc418 ca419 cc420 :: ro2 ca417 cc418 S416.cell :: ro90 ca419 cc420 S416.log :: ob128 b379 S421 ca422 cc423 ca424 cc425 ca426 cc427 ca428 cc429 :: rn28F ca422 cc423 S421.N :: rn28 ca424 cc425 S421.WantN :: rn60F ca426 cc427 S421.L :: rn60 ca428 cc429 S421.WantL :: ob30 b433 (at_ p2 g430.toNat) :: L)) w) ?_ ?_
      ·
       refine wp_region_lit ?_
       refine o1 hr (pA b433 1) fun a hr => ?_
       refine ld (wn rfl) hr (vI (at_ p2 g430.toNat).Kind) (h.cell 1 rfl) fun a hr => ?_
       refine oo [82, 83] [vB ((at_ p2 g430.toNat).Kind == 9), vB ((at_ p2 g430.toNat).Kind == 9)] hr fun a hr => ?_
       by_cases c437 : (at_ p2 g430.toNat).Kind = 9
       ·
        replace H := ifT c437 H
        refine offl (beq_iff_eq.mpr c437) [84, 85, 86] hr fun a hr => ?_
        refine opv (wn rfl) hr (vB true) (rp_t (b := ((at_ p2 g430.toNat).Kind == 9)) rfl (by kernel_rfl) (beq_iff_eq.mpr c437) (by kernel_rfl)) fun a hr => ?_
        refine o1 hr (vB true) fun a hr => ?_
        refine ln ?_
        exact ⟨(), true, sinj H, hr.fj (h.se 15 [1, 2, 3, 4, 5, 6, 7, 8, 9, 10, 11, 12, 13, 14, 0])⟩
       ·
        replace H := ifF c437 H
        refine onl (beq_eq_false_iff_ne.mpr c437) [84] [pA b433 1] hr fun a hr => ?_
        refine ld (wgt hr (beq_eq_false_iff_ne.mpr c437)) hr (vI (at_ p2 g430.toNat).Kind) (h.cell 1 rfl) fun a hr => ?_
        refine onl (beq_eq_false_iff_ne.mpr c437) [86] [vB ((at_ p2 g430.toNat).Kind == 10)] hr fun a hr => ?_
        refine opv (wn rfl) hr (vB ((at_ p2 g430.toNat).Kind == 10)) (rp_f (b := ((at_ p2 g430.toNat).Kind == 9)) rfl (by kernel_rfl) (beq_eq_false_iff_ne.mpr c437) (by kernel_rfl)) fun a hr => ?_
        refine o1 hr (vB ((at_ p2 g430.toNat).Kind == 10)) fun a hr => ?_
        refine ln ?_
        exact ⟨(), ((at_ p2 g430.toNat).Kind == 10), sinj H, hr.fj (h.se 15 [1, 2, 3, 4, 5, 6, 7, 8, 9, 10, 11, 12, 13, 14, 0])⟩
      clear h hr a; rintro _ a w ⟨g434, rfl, j, hr, h⟩
      replace H := kk1 hK435
      refine cV hr H (fun c438 H => ?_) fun c438 H => ?_
      ·
       obtain ⟨o441, H, hK440⟩ := kd1 H
       refine cut_rule (β := Unit) (fun _ a w => ∃ g439 : Bool, g439 = o441 ∧ ∃ j, Rep 138 (lk [(2, .slice va2 p2.length vc2), (7, pA Bn4 0), (9, pA Bn12 0), (11, pN), (13, pA Bn368 0), (15, pA b379 0), (16, vI g430), (18, vB true), (100, vB g439)] j) a ∧ Fit z (sepL (ob62 Bn4 S406 ca407 cc408 ca409 cc410 :: ro2 ca407 cc408 S406.Held :: ro90 ca409 cc410 S406.Book :: ob62 Bn12 S411 ca412 cc413 ca414 cc415 :: ro2 ca412 cc413 S411.Held :: ro90 ca414 cc415 S411.Book :: ob96 Bn368 S416 ca417 cc418 ca419 cc420 :: ro2 ca417 cc418 S416.cell :: ro90 ca419 cc420 S416.log :: ob128 b379 S421 ca422 cc423 ca424 cc425 ca426 cc427 ca428 cc429 :: rn28F ca422 cc423 S421.N :: rn28 ca424 cc425 S421.WantN :: rn60F ca426 cc427 S421.L :: rn60 ca428 cc429 S421.WantL :: L)) w) ?_ ?_
       ·
        refine wp_region_lit ?_
        refine oo [88, 89, 90] [pA b379 0, pA b379 0, pA b379 0] hr fun a hr => ?_
        refine ld (wn rfl) hr (.slice ca422 S421.N.length cc423) ((h.pick 9).cell 0 rfl) fun a hr => ?_
        refine oo [92, 93, 94] [vI ((S421.N.length : Nat) : Int), vB (decide (((S421.N.length : Nat) : Int) < 400)), vB (decide (((S421.N.length : Nat) : Int) < 400))] hr fun a hr => ?_
        by_cases c442 : ((S421.N.length : Nat) : Int) < 400
        ·
         replace H := ifT c442 H
         refine onl (decide_eq_true c442) [95, 96, 97] [pA b379 0, pA b379 0, pA b379 4] hr fun a hr => ?_
         refine ld (wgt hr (decide_eq_true c442)) hr (vI S421.Sum) ((h.pick 9).cell 4 rfl) fun a hr => ?_
         refine onl (decide_eq_true c442) [99] [vB (decide (S421.Sum < 100000))] hr fun a hr => ?_
         refine opv (wn rfl) hr (vB (decide (S421.Sum < 100000))) (rp_t (b := (decide (((S421.N.length : Nat) : Int) < 400))) rfl (by kernel_rfl) (decide_eq_true c442) (by kernel_rfl)) fun a hr => ?_
         refine ln ?_
         exact ⟨(), (decide (S421.Sum < 100000)), sinj H, hr.fj (h.se 15 [0, 1, 2, 3, 4, 5, 6, 7, 8, 9, 10, 11, 12, 13])⟩
        ·
         replace H := ifF c442 H
         refine offl (decide_eq_false c442) [95, 96, 97, 98, 99] hr fun a hr => ?_
         refine opv (wn rfl) hr (vB false) (rp_f (b := (decide (((S421.N.length : Nat) : Int) < 400))) rfl (by kernel_rfl) (decide_eq_false c442) (by kernel_rfl)) fun a hr => ?_
         refine ln ?_
         exact ⟨(), false, sinj H, hr.fj (h.se 15 [0, 1, 2, 3, 4, 5, 6, 7, 8, 9, 10, 11, 12, 13])⟩
       clear h hr a; rintro _ a w ⟨g439, rfl, j, hr, h⟩
       replace H := kk1 hK440
       refine cV hr H (fun c443 H => ?_) fun c443 H => ?_
       ·
        refine wp_region_lit ?_
        obtain ⟨r444, S445, e446, H⟩ := bd2 H
        refine oo [101, 102, 103] [pA b379 0, pN, pA Bn4 0] hr fun a hr => ?_
        replace h := h.m2.m2.m2.m13.m13.m13.m13.m13
        have hc := plunderlaw2_Kept_asked_nil_ok (H := e446) (h := h)
        refine cl (wn rfl) hr hc ?_; clear hc h
        rintro _ w ⟨caq447, ccq448, caq449, ccq450, caq451, ccq452, caq453, ccq454, rfl, h⟩; refine ⟨_, rfl, fun a hr => ?_⟩
        refine o1 hr (vB r444) fun a hr => ?_
        by_cases c455 : r444 = true
        ·
         replace H := ifT c455 H
         obtain ⟨r456, S457, e458, H⟩ := bd2 H
         refine onl (c455) [106, 107, 108] [pA b379 0, pA Bn368 0, pA Bn12 0] hr fun a hr => ?_
         replace h := h.m10.m10.m10.m13.m13.m13.m10.m10.m10.m10.m10
         have hc := plunderlaw2_Kept_asked_ok (H := e458) (h := h)
         refine cl (wgt hr (c455)) hr hc ?_; clear hc h
         rintro _ w ⟨caq459, ccq460, caq461, ccq462, caq463, ccq464, caq465, ccq466, rfl, h⟩; refine ⟨_, rfl, fun a hr => ?_⟩
         refine opv (wn rfl) hr (vB r456) (rp_t (b := r444) rfl (by kernel_rfl) (c455) (by kernel_rfl)) fun a hr => ?_
         refine o1 hr (vB r456) fun a hr => ?_
         refine wpList_nil ?_
         refine blk_normal ?_
         refine then_normal ?_
         refine sr ?_
         refine oo [122, 123] [vB r456, vB (!r456)] hr fun a hr => ?_
         refine ln ?_
         refine cM hr H (fun c467 H => ?_) fun c467 H => ?_
         ·
          refine wp_skip ?_
          refine blk_normal ?_
          refine then_normal ?_
          refine wp_region_lit ?_
          refine oo [67, 68, 16] [vI g430, vI (wi (g430 + 1)), vI (wi (g430 + 1))] hr fun a hr => ?_
          refine ln ?_
          exact ⟨_, ⟨ca407, cc408, ca409, cc410, ca412, cc413, ca414, cc415, ca417, cc418, ca419, cc420, caq459, ccq460, caq461, ccq462, caq463, ccq464, caq465, ccq466, S406, S411, S416, S457, (wi (g430 + 1)), H, hr.fj (h.se 14 [11, 12, 13, 8, 9, 10, 5, 6, 7, 0, 1, 2, 3, 4])⟩, Nat.lt_succ_self _⟩
         ·
          refine sr ?_
          refine o1 hr (vB false) fun a hr => ?_
          refine ln ?_
          refine wp_ret ?_
          refine blk_ret ?_
          refine then_ret ?_
          refine then_ret ?_
          refine blk_ret ?_
          refine then_ret ?_
          refine end_ret1 (v := vB false) rfl hr (by kernel_rfl) ?_
          replace H := jx4 H hK404
          replace H := ej1 H; subst H
          exact ⟨rfl, h.se 14 []⟩
        ·
         replace H := ifF c455 H
         refine offl (bF c455) [106, 107, 108, 109] hr fun a hr => ?_
         refine opv (wn rfl) hr (vB false) (rp_f (b := r444) rfl (by kernel_rfl) (bF c455) (by kernel_rfl)) fun a hr => ?_
         refine o1 hr (vB false) fun a hr => ?_
         refine wpList_nil ?_
         refine blk_normal ?_
         refine then_normal ?_
         refine sr ?_
         refine oo [122, 123] [vB false, vB true] hr fun a hr => ?_
         refine ln ?_
         refine cond_tt hr (b := true) rfl ?_
         refine sr ?_
         refine o1 hr (vB false) fun a hr => ?_
         refine ln ?_
         refine wp_ret ?_
         refine blk_ret ?_
         refine then_ret ?_
         refine then_ret ?_
         refine blk_ret ?_
         refine then_ret ?_
         refine end_ret1 (v := vB false) rfl hr (by kernel_rfl) ?_
         replace H := jx4 H hK404
         replace H := ej1 H; subst H
         exact ⟨rfl, h.se 14 []⟩
       ·
        refine wp_skip ?_
        refine blk_normal ?_
        refine then_normal ?_
        refine sr ?_
        refine oo [122, 123] [vB true, vB false] hr fun a hr => ?_
        refine ln ?_
        refine cond_ff hr (b := false) rfl ?_
        refine wp_skip ?_
        refine blk_normal ?_
        refine then_normal ?_
        refine wp_region_lit ?_
        refine oo [67, 68, 16] [vI g430, vI (wi (g430 + 1)), vI (wi (g430 + 1))] hr fun a hr => ?_
        refine ln ?_
        exact ⟨_, ⟨ca407, cc408, ca409, cc410, ca412, cc413, ca414, cc415, ca417, cc418, ca419, cc420, ca422, cc423, ca424, cc425, ca426, cc427, ca428, cc429, S406, S411, S416, S421, (wi (g430 + 1)), H, hr.fj h⟩, Nat.lt_succ_self _⟩
      ·
       refine sr ?_
       refine o1 hr (pA b433 0) fun a hr => ?_
       refine ld (wn rfl) hr (vI (at_ p2 g430.toNat).Side) ((h.pick 14).cell 0 rfl) fun a hr => ?_
       obtain ⟨r468, e469, H⟩ := bd1 H
       have hc := plunderlaw2_mod_ok (H := e469) (h := h)
       refine cl (wn rfl) hr hc ?_; clear hc h
       rintro _ w ⟨rfl, h⟩; refine ⟨_, rfl, fun a hr => ?_⟩
       refine oo [115, 111] [vB (r468 == 0), vB (r468 == 0)] hr fun a hr => ?_
       refine ln ?_
       refine cD hr H (fun c470 H => ?_) fun c470 H => ?_
       ·
        refine wp_region_lit ?_
        refine oo [116, 117] [pN, pA Bn4 0] hr fun a hr => ?_
        refine ldm (wn rfl) hr (ag_T_plunderlaw2_Move (at_ p2 g430.toNat)) (cs := cl_T_plunderlaw2_Move (at_ p2 g430.toNat)) ((h.pick 14).held 0 rfl) fun a hr => ?_
        refine o1 hr (.agg #[.slice none 0 0, .slice none 0 0, vI 0]) fun a hr => ?_
        refine onew (wn rfl) hr h nb (#[.slice none 0 0, .slice none 0 0, vI 0]) 78 fun b471 w a h hr => ?_
        replace h := h.rowN_nil (e := 139) (sz := 5) (own := own_T_plunderlaw2_kept)
        replace h := h.rowN_nil (e := 142) (sz := 5) (own := own_T_plunderlaw2_noted)
        obtain ⟨r472, S473, S474, e475, H⟩ := bd3 H
        replace h := h.m1.m2.m5.m5.m5
        have hc := plunderlaw2_plays_nil_ok (H := e475) (h := h)
        refine cl (wn rfl) hr hc ?_; clear hc h
        rintro _ w ⟨caq476, ccq477, caq478, ccq479, caq480, ccq481, caq482, ccq483, rfl, h⟩; refine ⟨_, rfl, fun a hr => ?_⟩
        refine o1 hr (vB r472) fun a hr => ?_
        refine wpList_nil ?_
        refine blk_normal ?_
        refine then_normal ?_
        refine sr ?_
        refine oo [122, 123] [vB r472, vB (!r472)] hr fun a hr => ?_
        refine ln ?_
        refine cM hr H (fun c484 H => ?_) fun c484 H => ?_
        ·
         refine wp_skip ?_
         refine blk_normal ?_
         refine then_normal ?_
         refine wp_region_lit ?_
         refine oo [67, 68, 16] [vI g430, vI (wi (g430 + 1)), vI (wi (g430 + 1))] hr fun a hr => ?_
         refine ln ?_
         exact ⟨_, ⟨caq476, ccq477, caq478, ccq479, ca412, cc413, ca414, cc415, ca417, cc418, ca419, cc420, ca422, cc423, ca424, cc425, ca426, cc427, ca428, cc429, S473, S411, S416, S421, (wi (g430 + 1)), H, hr.fj (h.se 18 [0, 1, 2, 6, 7, 8, 9, 10, 11, 12, 13, 14, 15, 16])⟩, Nat.lt_succ_self _⟩
        ·
         refine sr ?_
         refine o1 hr (vB false) fun a hr => ?_
         refine ln ?_
         refine wp_ret ?_
         refine blk_ret ?_
         refine then_ret ?_
         refine then_ret ?_
         refine blk_ret ?_
         refine then_ret ?_
         refine end_ret1 (v := vB false) rfl hr (by kernel_rfl) ?_
         replace H := jx4 H hK404
         replace H := ej1 H; subst H
         exact ⟨rfl, h.se 18 []⟩
       ·
        refine wp_region_lit ?_
        refine oo [73, 74] [pA Bn368 0, pA Bn12 0] hr fun a hr => ?_
        refine ldm (wn rfl) hr (ag_T_plunderlaw2_Move (at_ p2 g430.toNat)) (cs := cl_T_plunderlaw2_Move (at_ p2 g430.toNat)) ((h.pick 14).held 0 rfl) fun a hr => ?_
        refine o1 hr (.agg #[.slice none 0 0, .slice none 0 0, vI 0]) fun a hr => ?_
        refine onew (wn rfl) hr h nb (#[.slice none 0 0, .slice none 0 0, vI 0]) 78 fun b485 w a h hr => ?_
        replace h := h.rowN_nil (e := 139) (sz := 5) (own := own_T_plunderlaw2_kept)
        replace h := h.rowN_nil (e := 142) (sz := 5) (own := own_T_plunderlaw2_noted)
        obtain ⟨r486, S487, S488, S489, e490, H⟩ := bd4 H
        replace h := h.m1.m2.m8.m8.m8.m11.m11.m11
        have hc := plunderlaw2_plays_ok (H := e490) (h := h)
        refine cl (wn rfl) hr hc ?_; clear hc h
        rintro _ w ⟨caq491, ccq492, caq493, ccq494, caq495, ccq496, caq497, ccq498, caq499, ccq500, caq501, ccq502, rfl, h⟩; refine ⟨_, rfl, fun a hr => ?_⟩
        refine o1 hr (vB r486) fun a hr => ?_
        refine wpList_nil ?_
        refine blk_normal ?_
        refine then_normal ?_
        refine sr ?_
        refine oo [122, 123] [vB r486, vB (!r486)] hr fun a hr => ?_
        refine ln ?_
        refine cM hr H (fun c503 H => ?_) fun c503 H => ?_
        ·
         refine wp_skip ?_
         refine blk_normal ?_
         refine then_normal ?_
         refine wp_region_lit ?_
         refine oo [67, 68, 16] [vI g430, vI (wi (g430 + 1)), vI (wi (g430 + 1))] hr fun a hr => ?_
         refine ln ?_
         exact ⟨_, ⟨ca407, cc408, ca409, cc410, caq495, ccq496, caq497, ccq498, caq491, ccq492, caq493, ccq494, ca422, cc423, ca424, cc425, ca426, cc427, ca428, cc429, S406, S488, S487, S421, (wi (g430 + 1)), H, hr.fj (h.se 18 [9, 10, 11, 3, 4, 5, 0, 1, 2, 12, 13, 14, 15, 16])⟩, Nat.lt_succ_self _⟩
        ·
         refine sr ?_
         refine o1 hr (vB false) fun a hr => ?_
         refine ln ?_
         refine wp_ret ?_
         refine blk_ret ?_
         refine then_ret ?_
         refine then_ret ?_
         refine blk_ret ?_
         refine then_ret ?_
         refine end_ret1 (v := vB false) rfl hr (by kernel_rfl) ?_
         replace H := jx4 H hK404
         replace H := ej1 H; subst H
         exact ⟨rfl, h.se 18 []⟩
     ·
      refine wp_exit ?_
      refine then_exit ?_
      refine then_exit ?_
      refine blk_here ?_
      refine then_normal ?_
      exact ⟨(), ca407, cc408, ca409, cc410, ca412, cc413, ca414, cc415, ca417, cc418, ca419, cc420, ca422, cc423, ca424, cc425, ca426, cc427, ca428, cc429, S406, S411, S416, S421, sinj H, hr.fj h⟩
   clear h hr a; rintro _ a w ⟨ca381, cc382, ca383, cc384, ca386, cc387, ca388, cc389, ca391, cc392, ca393, cc394, ca396, cc397, ca398, cc399, ca400, cc401, ca402, cc403, S380, S385, S390, S395, rfl, j, hr, h⟩
   replace H := jk4 hK404
   refine sr ?_
   obtain ⟨r504, S505, e506, H⟩ := bd2 H
   refine oo [124, 125, 126] [pA b379 0, pN, pA Bn4 0] hr fun a hr => ?_
   replace h := h.m2.m2.m2.m13.m13.m13.m13.m13
   have hc := plunderlaw2_Kept_asked_nil_ok (H := e506) (h := h)
   refine cl (wn rfl) hr hc ?_; clear hc h
   rintro _ w ⟨caq507, ccq508, caq509, ccq510, caq511, ccq512, caq513, ccq514, rfl, h⟩; refine ⟨_, rfl, fun a hr => ?_⟩
   refine o1 hr (vB r504) fun a hr => ?_
   by_cases c515 : r504 = true
   ·
    replace H := ifT c515 H
    obtain ⟨r516, S517, e518, H⟩ := bd2 H
    refine onl (c515) [129, 130, 131] [pA b379 0, pA Bn368 0, pA Bn12 0] hr fun a hr => ?_
    replace h := h.m10.m10.m10.m13.m13.m13.m10.m10.m10.m10.m10
    have hc := plunderlaw2_Kept_asked_ok (H := e518) (h := h)
    refine cl (wgt hr (c515)) hr hc ?_; clear hc h
    rintro _ w ⟨caq519, ccq520, caq521, ccq522, caq523, ccq524, caq525, ccq526, rfl, h⟩; refine ⟨_, rfl, fun a hr => ?_⟩
    refine opv (wn rfl) hr (vB r516) (rp_t (b := r504) rfl (by kernel_rfl) (c515) (by kernel_rfl)) fun a hr => ?_
    refine o1 hr (vB r516) fun a hr => ?_
    by_cases c527 : r516 = true
    ·
     replace H := ifT c527 H
     obtain ⟨r528, e529, H⟩ := bd1 H
     refine onl (c527) [135] [pA b379 0] hr fun a hr => ?_
     have hc := plunderlaw2_Kept_alone_ok (H := e529) (h := h)
     refine cl (wgt hr (c527)) hr hc ?_; clear hc h
     rintro _ w ⟨rfl, h⟩; refine ⟨_, rfl, fun a hr => ?_⟩
     refine opv (wn rfl) hr (vB r528) (rp_t (b := r516) rfl (by kernel_rfl) (c527) (by kernel_rfl)) fun a hr => ?_
     refine o1 hr (vB r528) fun a hr => ?_
     refine ln ?_
     refine wp_ret ?_
     refine end_ret1 (v := vB r528) rfl hr (by kernel_rfl) ?_
     replace H := ej1 H; subst H
     exact ⟨rfl, h.se 9 []⟩
    ·
     replace H := ifF c527 H
     refine offl (bF c527) [135, 136] hr fun a hr => ?_
     refine opv (wn rfl) hr (vB false) (rp_f (b := r516) rfl (by kernel_rfl) (bF c527) (by kernel_rfl)) fun a hr => ?_
     refine o1 hr (vB false) fun a hr => ?_
     refine ln ?_
     refine wp_ret ?_
     refine end_ret1 (v := vB false) rfl hr (by kernel_rfl) ?_
     replace H := ej1 H; subst H
     exact ⟨rfl, h.se 14 []⟩
   ·
    replace H := ifF c515 H
    refine offl (bF c515) [129, 130, 131, 132] hr fun a hr => ?_
    refine opv (wn rfl) hr (vB false) (rp_f (b := r504) rfl (by kernel_rfl) (bF c515) (by kernel_rfl)) fun a hr => ?_
    refine o1 hr (vB false) fun a hr => ?_
    refine offl (rfl : false = false) [135, 136] hr fun a hr => ?_
    refine oo [137, 6] [vB false, vB false] hr fun a hr => ?_
    refine ln ?_
    refine wp_ret ?_
    refine end_ret1 (v := vB false) rfl hr (by kernel_rfl) ?_
    replace H := ej1 H; subst H
    exact ⟨rfl, h.se 14 []⟩
  | none =>
   have hc := cells_New_ok1 (H := e366) (h := h)
   refine cl (wn rfl) hr hc ?_; clear hc h
   rintro _ w ⟨rfl, h⟩; refine ⟨_, rfl, fun a hr => ?_⟩
   refine oo [34, 37, 38, 13, 14] [.tuple #[pN, vI r365], pN, vI r365, pN, vI r365] hr fun a hr => ?_
   refine ln ?_
   obtain ⟨o531, H, hK530⟩ := jd0 H
   refine cut_rule (β := Unit) (fun _ a w => .inl () = o531 ∧ ∃ j, Rep 138 (lk [(2, .slice va2 p2.length vc2), (7, pA Bn4 0), (9, pA Bn12 0), (11, pN), (13, pN)] j) a ∧ Fit z (sepL (ob62 Bn4 r1 car5 ccr6 car7 ccr8 :: ro2 car5 ccr6 r1.Held :: ro90 car7 ccr8 r1.Book :: ob62 Bn12 r9 car13 ccr14 car15 ccr16 :: ro2 car13 ccr14 r9.Held :: ro90 car15 ccr16 r9.Book :: L)) w) ?_ ?_
   ·
    refine sr ?_
    refine oo [39, 40, 41, 42] [vI r18, vI r2, vB (r18 != r2), vB (r18 != r2)] hr fun a hr => ?_
    by_cases c532 : r18 = r2
    ·
     replace H := ifT c532 H
     refine onl (bne_eq_false_iff_eq.mpr c532) [43, 44, 45] [vI r365, vI r10, vB (r365 != r10)] hr fun a hr => ?_
     refine opv (wn rfl) hr (vB (r365 != r10)) (rp_f (b := (r18 != r2)) rfl (by kernel_rfl) (bne_eq_false_iff_eq.mpr c532) (by kernel_rfl)) fun a hr => ?_
     refine o1 hr (vB (r365 != r10)) fun a hr => ?_
     by_cases c533 : r365 = r10
     ·
      replace H := ifT c533 H
      refine onl (bne_eq_false_iff_eq.mpr c533) [48, 49, 50, 51, 52] [pN, vB true, vI r2, vB (r2 != 0), vB (!(true == (r2 != 0)))] hr fun a hr => ?_
      refine opv (wn rfl) hr (vB (!(true == (r2 != 0)))) (rp_f (b := (r365 != r10)) rfl (by kernel_rfl) (bne_eq_false_iff_eq.mpr c533) (by kernel_rfl)) fun a hr => ?_
      refine o1 hr (vB (!(true == (r2 != 0)))) fun a hr => ?_
      by_cases c534 : true = (r2 != 0)
      ·
       replace H := ifT c534 H
       refine onl (show (!(true == (r2 != 0))) = false from (by rw [show (true == (r2 != 0)) = true from (beq_iff_eq.mpr c534)]; rfl)) [55, 56, 57, 58, 59] [pN, vB true, vI r10, vB (r10 != 0), vB (!(true == (r10 != 0)))] hr fun a hr => ?_
       refine opv (wn rfl) hr (vB (!(true == (r10 != 0)))) (rp_f (b := (!(true == (r2 != 0)))) rfl (by kernel_rfl) (by rw [show (true == (r2 != 0)) = true from (beq_iff_eq.mpr c534)]; rfl) (by kernel_rfl)) fun a hr => ?_
       refine ln ?_
       by_cases c535 : true = (r10 != 0)
       ·
        replace H := ifT c535 H
        refine cond_ff hr (b := (!(true == (r10 != 0)))) (by rw [show (true == (r10 != 0)) = true from (beq_iff_eq.mpr c535)]; rfl) ?_
        refine wp_skip ?_
        refine then_normal ?_
        exact ⟨(), sinj H, hr.fj (h.se 6 [3, 4, 5, 0, 1, 2])⟩
       ·
        replace H := ifF c535 H
        refine cond_tt hr (b := (!(true == (r10 != 0)))) (by rw [show (true == (r10 != 0)) = false from (beq_eq_false_iff_ne.mpr c535)]; rfl) ?_
        refine sr ?_
        refine o1 hr (vB false) fun a hr => ?_
        refine ln ?_
        refine wp_ret ?_
        refine then_ret ?_
        refine end_ret1 (v := vB false) rfl hr (by kernel_rfl) ?_
        replace H := jx0 H hK530
        replace H := ej1 H; subst H
        exact ⟨rfl, h.se 6 []⟩
      ·
       replace H := ifF c534 H
       refine offl (show (!(true == (r2 != 0))) = true from (by rw [show (true == (r2 != 0)) = false from (beq_eq_false_iff_ne.mpr c534)]; rfl)) [55, 56, 57, 58, 59] hr fun a hr => ?_
       refine opv (wn rfl) hr (vB true) (rp_t (b := (!(true == (r2 != 0)))) rfl (by kernel_rfl) (by rw [show (true == (r2 != 0)) = false from (beq_eq_false_iff_ne.mpr c534)]; rfl) (by kernel_rfl)) fun a hr => ?_
       refine ln ?_
       refine cond_tt hr (b := true) rfl ?_
       refine sr ?_
       refine o1 hr (vB false) fun a hr => ?_
       refine ln ?_
       refine wp_ret ?_
       refine then_ret ?_
       refine end_ret1 (v := vB false) rfl hr (by kernel_rfl) ?_
       replace H := jx0 H hK530
       replace H := ej1 H; subst H
       exact ⟨rfl, h.se 6 []⟩
     ·
      replace H := ifF c533 H
      refine offl (bne_iff_ne.mpr c533) [48, 49, 50, 51, 52] hr fun a hr => ?_
      refine opv (wn rfl) hr (vB true) (rp_t (b := (r365 != r10)) rfl (by kernel_rfl) (bne_iff_ne.mpr c533) (by kernel_rfl)) fun a hr => ?_
      refine o1 hr (vB true) fun a hr => ?_
      refine offl (rfl : true = true) [55, 56, 57, 58, 59] hr fun a hr => ?_
      refine o1 hr (vB true) fun a hr => ?_
      refine ln ?_
      refine cond_tt hr (b := true) rfl ?_
      refine sr ?_
      refine o1 hr (vB false) fun a hr => ?_
      refine ln ?_
      refine wp_ret ?_
      refine then_ret ?_
      refine end_ret1 (v := vB false) rfl hr (by kernel_rfl) ?_
      replace H := jx0 H hK530
      replace H := ej1 H; subst H
      exact ⟨rfl, h.se 6 []⟩
    ·
     replace H := ifF c532 H
     refine offl (bne_iff_ne.mpr c532) [43, 44, 45] hr fun a hr => ?_
     refine opv (wn rfl) hr (vB true) (rp_t (b := (r18 != r2)) rfl (by kernel_rfl) (bne_iff_ne.mpr c532) (by kernel_rfl)) fun a hr => ?_
     refine o1 hr (vB true) fun a hr => ?_
     refine offl (rfl : true = true) [48, 49, 50, 51, 52] hr fun a hr => ?_
     refine oo [53, 54] [vB true, vB true] hr fun a hr => ?_
     refine offl (rfl : true = true) [55, 56, 57, 58, 59] hr fun a hr => ?_
     refine o1 hr (vB true) fun a hr => ?_
     refine ln ?_
     refine cond_tt hr (b := true) rfl ?_
     refine sr ?_
     refine o1 hr (vB false) fun a hr => ?_
     refine ln ?_
     refine wp_ret ?_
     refine then_ret ?_
     refine end_ret1 (v := vB false) rfl hr (by kernel_rfl) ?_
     replace H := jx0 H hK530
     replace H := ej1 H; subst H
     exact ⟨rfl, h.se 6 []⟩
   clear h hr a; rintro _ a w ⟨rfl, j, hr, h⟩
   replace H := jk0 hK530
   refine sr ?_
   refine o1 hr (.agg #[.slice none 0 0, .slice none 0 0, .slice none 0 0, .slice none 0 0, vI 0]) fun a hr => ?_
   refine onew (wn rfl) hr h nb (#[.slice none 0 0, .slice none 0 0, .slice none 0 0, .slice none 0 0, vI 0]) 128 fun b536 w a h hr => ?_
   refine o1 hr (pA b536 0) fun a hr => ?_
   refine ln ?_
   obtain ⟨o557, H, hK556⟩ := jd3 H
   refine cut_rule (β := Unit) (fun _ a w => ∃ ca538 : Option Addr, ∃ cc539 : Nat, ∃ ca540 : Option Addr, ∃ cc541 : Nat, ∃ ca543 : Option Addr, ∃ cc544 : Nat, ∃ ca545 : Option Addr, ∃ cc546 : Nat, ∃ ca548 : Option Addr, ∃ cc549 : Nat, ∃ ca550 : Option Addr, ∃ cc551 : Nat, ∃ ca552 : Option Addr, ∃ cc553 : Nat, ∃ ca554 : Option Addr, ∃ cc555 : Nat, ∃ S537 : T_plunderref2_Arena, ∃ S542 : T_plunderref2_Arena, ∃ S547 : T_plunderlaw2_Kept, .inl (S537, S542, S547) = o557 ∧ ∃ j, Rep 138 (lk [(7, pA Bn4 0), (9, pA Bn12 0), (11, pN), (13, pN), (15, pA b536 0)] j) a ∧ Fit z (sepL (ob62 Bn4 S537 ca538 cc539 ca540 cc541 :: ro2 ca538 cc539 S537.Held :: ro90 ca540 cc541 S537.Book :: ob62 Bn12 S542 ca543 cc544 ca545 cc546 :: ro2 ca543 cc544 S542.Held :: ro90 ca545 cc546 S542.Book :: ob128 b536 S547 ca548 cc549 ca550 cc551 ca552 cc553 ca554 cc555 :: rn28F ca548 cc549 S547.N :: rn28 ca550 cc551 S547.WantN :: rn60F ca552 cc553 S547.L :: rn60 ca554 cc555 S547.WantL :: L)) w) ?_ ?_
   ·
    refine sr ?_
    refine o1 hr (vI 0) fun a hr => ?_
    refine ln ?_
    refine wp_block ?_
    replace h := h.rowN_nil (e := 28) (sz := 1) (own := own_sl28F)
    replace h := h.rowN_nil (e := 28) (sz := 1) (own := own_sl28)
    replace h := h.rowN_nil (e := 60) (sz := 1) (own := own_sl60F)
    replace h := h.rowN_nil (e := 60) (sz := 1) (own := own_sl60)
    refine loop_rule (β := Nat) id (fun m a w => ∃ ca559 : Option Addr, ∃ cc560 : Nat, ∃ ca561 : Option Addr, ∃ cc562 : Nat, ∃ ca564 : Option Addr, ∃ cc565 : Nat, ∃ ca566 : Option Addr, ∃ cc567 : Nat, ∃ ca569 : Option Addr, ∃ cc570 : Nat, ∃ ca571 : Option Addr, ∃ cc572 : Nat, ∃ ca573 : Option Addr, ∃ cc574 : Nat, ∃ ca575 : Option Addr, ∃ cc576 : Nat, ∃ S558 : T_plunderref2_Arena, ∃ S563 : T_plunderref2_Arena, ∃ S568 : T_plunderlaw2_Kept, ∃ g577 : Int, (plunderlaw2_untold_l4 K p2 m S558 S563 S568 g577) = some o557 ∧ ∃ j, Rep 138 (lk [(2, .slice va2 p2.length vc2), (7, pA Bn4 0), (9, pA Bn12 0), (11, pN), (13, pN), (15, pA b536 0), (16, vI g577)] j) a ∧ Fit z (sepL (ob62 Bn4 S558 ca559 cc560 ca561 cc562 :: ro2 ca559 cc560 S558.Held :: ro90 ca561 cc562 S558.Book :: ob62 Bn12 S563 ca564 cc565 ca566 cc567 :: ro2 ca564 cc565 S563.Held :: ro90 ca566 cc567 S563.Book :: ob128 b536 S568 ca569 cc570 ca571 cc572 ca573 cc574 ca575 cc576 :: rn28F ca569 cc570 S568.N :: rn28 ca571 cc572 S568.WantN :: rn60F ca573 cc574 S568.L :: rn60 ca575 cc576 S568.WantL :: L)) w) K ⟨car5, ccr6, car7, ccr8, car13, ccr14, car15, ccr16, none, 0, none, 0, none, 0, none, 0, r1, r9, (⟨([] : List (List Int)), ([] : List (List Int)), ([] : List (List T_api_Access)), ([] : List (List T_api_Access)), 0⟩ : T_plunderlaw2_Kept), 0, H, hr.fj (h.se 11 [5, 6, 7, 8, 9, 10, 4, 3, 2, 1, 0])⟩ ?_
    clear h hr a H; rintro k4 a w ⟨ca559, cc560, ca561, cc562, ca564, cc565, ca566, cc567, ca569, cc570, ca571, cc572, ca573, cc574, ca575, cc576, S558, S563, S568, g577, H, j, hr, h⟩
    cases k4 with
    | zero => exact absurd H (by simp [plunderlaw2_untold_l4])
    | succ k4 =>
     rw [plunderlaw2_untold_l4] at H
     refine wp_seq ?_
     refine sr ?_
     refine oo [63, 64, 65, 66] [vI g577, .slice va2 p2.length vc2, vI ((p2.length : Nat) : Int), vB (decide (g577 < ((p2.length : Nat) : Int)))] hr fun a hr => ?_
     refine ln ?_
     refine cD hr H (fun c578 H => ?_) fun c578 H => ?_
     ·
      refine wp_skip ?_
      refine then_normal ?_
      refine wp_seq ?_
      refine wp_block ?_
      refine sr ?_
      obtain ⟨c579, H⟩ := gd H
      refine oo [69, 70] [.slice va2 p2.length vc2, vI g577] hr fun a hr => ?_
      refine opv (wn rfl) hr (pA (blk va2) (offs va2 + g577.toNat * 5)) (ri_rd (k := .i64) (E := 30) (cc := vc2) rfl (by kernel_rfl) (by kernel_rfl) rfl (by kernel_rfl) (by kernel_rfl) hv2 c579) fun a hr => ?_
      refine ldm (wn rfl) hr (ag_T_plunderlaw2_Move (at_ p2 g577.toNat)) (cs := cl_T_plunderlaw2_Move (at_ p2 g577.toNat)) ⟨hv2.cell c579 (h.dn 11) 0 rfl, hv2.cell c579 (h.dn 11) 1 rfl, hv2.cell c579 (h.dn 11) 2 rfl, hv2.cell c579 (h.dn 11) 3 rfl, hv2.cell c579 (h.dn 11) 4 rfl, trivial⟩ fun a hr => ?_
      refine onew (wn rfl) hr h nb (#[vI 0, vI 0, vI 0, vI 0, vI 0]) 30 fun b580 w a h hr => ?_
      refine stm (wn rfl) hr h 0 (cl_T_plunderlaw2_Move (at_ p2 g577.toNat)) (ob30 b580 (at_ p2 g577.toNat)) fun w h => ?_
      refine ln ?_
      refine sr ?_
      refine o1 hr (vB true) fun a hr => ?_
      refine ln ?_
      refine wp_seq ?_
      refine wp_block ?_
      obtain ⟨o583, H, hK582⟩ := kd1 H
      refine cut_rule (β := Unit) (fun _ a w => ∃ g581 : Bool, g581 = o583 ∧ ∃ j, Rep 138 (lk [(2, .slice va2 p2.length vc2), (7, pA Bn4 0), (9, pA Bn12 0), (11, pN), (13, pN), (15, pA b536 0), (16, vI g577), (17, pA b580 0), (18, vB true), (79, vB g581)] j) a ∧ Fit z (sepL (ob62 Bn4 S558 ca559 cc560 ca561 cc562 :: ro2 ca559 cc560 S558.Held :: ro90 ca561 cc562 S558.Book :: ob62 Bn12 S563 ca564 cc565 ca566 cc567 :: ro2 ca564 cc565 S563.Held :: ro90 ca566 cc567 S563.Book :: ob128 b536 S568 ca569 cc570 ca571 cc572 ca573 cc574 ca575 cc576 :: rn28F ca569 cc570 S568.N :: rn28 ca571 cc572 S568.WantN :: rn60F ca573 cc574 S568.L :: rn60 ca575 cc576 S568.WantL :: ob30 b580 (at_ p2 g577.toNat) :: L)) w) ?_ ?_
      ·
       refine wp_region_lit ?_
       refine o1 hr (pA b580 1) fun a hr => ?_
       refine ld (wn rfl) hr (vI (at_ p2 g577.toNat).Kind) (h.cell 1 rfl) fun a hr => ?_
       refine oo [82, 83] [vB ((at_ p2 g577.toNat).Kind == 9), vB ((at_ p2 g577.toNat).Kind == 9)] hr fun a hr => ?_
       by_cases c584 : (at_ p2 g577.toNat).Kind = 9
       ·
        replace H := ifT c584 H
        refine offl (beq_iff_eq.mpr c584) [84, 85, 86] hr fun a hr => ?_
        refine opv (wn rfl) hr (vB true) (rp_t (b := ((at_ p2 g577.toNat).Kind == 9)) rfl (by kernel_rfl) (beq_iff_eq.mpr c584) (by kernel_rfl)) fun a hr => ?_
        refine o1 hr (vB true) fun a hr => ?_
        refine ln ?_
        exact ⟨(), true, sinj H, hr.fj (h.se 12 [1, 2, 3, 4, 5, 6, 7, 8, 9, 10, 11, 0])⟩
       ·
        replace H := ifF c584 H
        refine onl (beq_eq_false_iff_ne.mpr c584) [84] [pA b580 1] hr fun a hr => ?_
        refine ld (wgt hr (beq_eq_false_iff_ne.mpr c584)) hr (vI (at_ p2 g577.toNat).Kind) (h.cell 1 rfl) fun a hr => ?_
        refine onl (beq_eq_false_iff_ne.mpr c584) [86] [vB ((at_ p2 g577.toNat).Kind == 10)] hr fun a hr => ?_
        refine opv (wn rfl) hr (vB ((at_ p2 g577.toNat).Kind == 10)) (rp_f (b := ((at_ p2 g577.toNat).Kind == 9)) rfl (by kernel_rfl) (beq_eq_false_iff_ne.mpr c584) (by kernel_rfl)) fun a hr => ?_
        refine o1 hr (vB ((at_ p2 g577.toNat).Kind == 10)) fun a hr => ?_
        refine ln ?_
        exact ⟨(), ((at_ p2 g577.toNat).Kind == 10), sinj H, hr.fj (h.se 12 [1, 2, 3, 4, 5, 6, 7, 8, 9, 10, 11, 0])⟩
      clear h hr a; rintro _ a w ⟨g581, rfl, j, hr, h⟩
      replace H := kk1 hK582
      refine cV hr H (fun c585 H => ?_) fun c585 H => ?_
      ·
       obtain ⟨o588, H, hK587⟩ := kd1 H
       refine cut_rule (β := Unit) (fun _ a w => ∃ g586 : Bool, g586 = o588 ∧ ∃ j, Rep 138 (lk [(2, .slice va2 p2.length vc2), (7, pA Bn4 0), (9, pA Bn12 0), (11, pN), (13, pN), (15, pA b536 0), (16, vI g577), (18, vB true), (100, vB g586)] j) a ∧ Fit z (sepL (ob62 Bn4 S558 ca559 cc560 ca561 cc562 :: ro2 ca559 cc560 S558.Held :: ro90 ca561 cc562 S558.Book :: ob62 Bn12 S563 ca564 cc565 ca566 cc567 :: ro2 ca564 cc565 S563.Held :: ro90 ca566 cc567 S563.Book :: ob128 b536 S568 ca569 cc570 ca571 cc572 ca573 cc574 ca575 cc576 :: rn28F ca569 cc570 S568.N :: rn28 ca571 cc572 S568.WantN :: rn60F ca573 cc574 S568.L :: rn60 ca575 cc576 S568.WantL :: L)) w) ?_ ?_
       ·
        refine wp_region_lit ?_
        refine oo [88, 89, 90] [pA b536 0, pA b536 0, pA b536 0] hr fun a hr => ?_
        refine ld (wn rfl) hr (.slice ca569 S568.N.length cc570) ((h.pick 6).cell 0 rfl) fun a hr => ?_
        refine oo [92, 93, 94] [vI ((S568.N.length : Nat) : Int), vB (decide (((S568.N.length : Nat) : Int) < 400)), vB (decide (((S568.N.length : Nat) : Int) < 400))] hr fun a hr => ?_
        by_cases c589 : ((S568.N.length : Nat) : Int) < 400
        ·
         replace H := ifT c589 H
         refine onl (decide_eq_true c589) [95, 96, 97] [pA b536 0, pA b536 0, pA b536 4] hr fun a hr => ?_
         refine ld (wgt hr (decide_eq_true c589)) hr (vI S568.Sum) ((h.pick 6).cell 4 rfl) fun a hr => ?_
         refine onl (decide_eq_true c589) [99] [vB (decide (S568.Sum < 100000))] hr fun a hr => ?_
         refine opv (wn rfl) hr (vB (decide (S568.Sum < 100000))) (rp_t (b := (decide (((S568.N.length : Nat) : Int) < 400))) rfl (by kernel_rfl) (decide_eq_true c589) (by kernel_rfl)) fun a hr => ?_
         refine ln ?_
         exact ⟨(), (decide (S568.Sum < 100000)), sinj H, hr.fj (h.se 12 [0, 1, 2, 3, 4, 5, 6, 7, 8, 9, 10])⟩
        ·
         replace H := ifF c589 H
         refine offl (decide_eq_false c589) [95, 96, 97, 98, 99] hr fun a hr => ?_
         refine opv (wn rfl) hr (vB false) (rp_f (b := (decide (((S568.N.length : Nat) : Int) < 400))) rfl (by kernel_rfl) (decide_eq_false c589) (by kernel_rfl)) fun a hr => ?_
         refine ln ?_
         exact ⟨(), false, sinj H, hr.fj (h.se 12 [0, 1, 2, 3, 4, 5, 6, 7, 8, 9, 10])⟩
       clear h hr a; rintro _ a w ⟨g586, rfl, j, hr, h⟩
       replace H := kk1 hK587
       refine cV hr H (fun c590 H => ?_) fun c590 H => ?_
       ·
        refine wp_region_lit ?_
        obtain ⟨r591, S592, e593, H⟩ := bd2 H
        refine oo [101, 102, 103] [pA b536 0, pN, pA Bn4 0] hr fun a hr => ?_
        replace h := h.m2.m2.m2.m10.m10.m10.m10.m10
        have hc := plunderlaw2_Kept_asked_nil_ok (H := e593) (h := h)
        refine cl (wn rfl) hr hc ?_; clear hc h
        rintro _ w ⟨caq594, ccq595, caq596, ccq597, caq598, ccq599, caq600, ccq601, rfl, h⟩; refine ⟨_, rfl, fun a hr => ?_⟩
        refine o1 hr (vB r591) fun a hr => ?_
        by_cases c602 : r591 = true
        ·
         replace H := ifT c602 H
         obtain ⟨r603, S604, e605, H⟩ := bd2 H
         refine onl (c602) [106, 107, 108] [pA b536 0, pN, pA Bn12 0] hr fun a hr => ?_
         replace h := h.m10.m10.m10.m7.m7.m7.m7.m7
         have hc := plunderlaw2_Kept_asked_nil_ok (H := e605) (h := h)
         refine cl (wgt hr (c602)) hr hc ?_; clear hc h
         rintro _ w ⟨caq606, ccq607, caq608, ccq609, caq610, ccq611, caq612, ccq613, rfl, h⟩; refine ⟨_, rfl, fun a hr => ?_⟩
         refine opv (wn rfl) hr (vB r603) (rp_t (b := r591) rfl (by kernel_rfl) (c602) (by kernel_rfl)) fun a hr => ?_
         refine o1 hr (vB r603) fun a hr => ?_
         refine wpList_nil ?_
         refine blk_normal ?_
         refine then_normal ?_
         refine sr ?_
         refine oo [122, 123] [vB r603, vB (!r603)] hr fun a hr => ?_
         refine ln ?_
         refine cM hr H (fun c614 H => ?_) fun c614 H => ?_
         ·
          refine wp_skip ?_
          refine blk_normal ?_
          refine then_normal ?_
          refine wp_region_lit ?_
          refine oo [67, 68, 16] [vI g577, vI (wi (g577 + 1)), vI (wi (g577 + 1))] hr fun a hr => ?_
          refine ln ?_
          exact ⟨_, ⟨ca559, cc560, ca561, cc562, ca564, cc565, ca566, cc567, caq606, ccq607, caq608, ccq609, caq610, ccq611, caq612, ccq613, S558, S563, S604, (wi (g577 + 1)), H, hr.fj (h.se 11 [8, 9, 10, 5, 6, 7, 0, 1, 2, 3, 4])⟩, Nat.lt_succ_self _⟩
         ·
          refine sr ?_
          refine o1 hr (vB false) fun a hr => ?_
          refine ln ?_
          refine wp_ret ?_
          refine blk_ret ?_
          refine then_ret ?_
          refine then_ret ?_
          refine blk_ret ?_
          refine then_ret ?_
          refine end_ret1 (v := vB false) rfl hr (by kernel_rfl) ?_
          replace H := jx3 H hK556
          replace H := ej1 H; subst H
          exact ⟨rfl, h.se 11 []⟩
        ·
         replace H := ifF c602 H
         refine offl (bF c602) [106, 107, 108, 109] hr fun a hr => ?_
         refine opv (wn rfl) hr (vB false) (rp_f (b := r591) rfl (by kernel_rfl) (bF c602) (by kernel_rfl)) fun a hr => ?_
         refine o1 hr (vB false) fun a hr => ?_
         refine wpList_nil ?_
         refine blk_normal ?_
         refine then_normal ?_
         refine sr ?_
         refine oo [122, 123] [vB false, vB true] hr fun a hr => ?_
         refine ln ?_
         refine cond_tt hr (b := true) rfl ?_
         refine sr ?_
         refine o1 hr (vB false) fun a hr => ?_
         refine ln ?_
         refine wp_ret ?_
         refine blk_ret ?_
         refine then_ret ?_
         refine then_ret ?_
         refine blk_ret ?_
         refine then_ret ?_
         refine end_ret1 (v := vB false) rfl hr (by kernel_rfl) ?_
         replace H := jx3 H hK556
         replace H := ej1 H; subst H
         exact ⟨rfl, h.se 11 []⟩
       ·
        refine wp_skip ?_
        refine blk_normal ?_
        refine then_normal ?_
        refine sr ?_
        refine oo [122, 123] [vB true, vB false] hr fun a hr => ?_
        refine ln ?_
        refine cond_ff hr (b := false) rfl ?_
        refine wp_skip ?_
        refine blk_normal ?_
        refine then_normal ?_
        refine wp_region_lit ?_
        refine oo [67, 68, 16] [vI g577, vI (wi (g577 + 1)), vI (wi (g577 + 1))] hr fun a hr => ?_
        refine ln ?_
        exact ⟨_, ⟨ca559, cc560, ca561, cc562, ca564, cc565, ca566, cc567, ca569, cc570, ca571, cc572, ca573, cc574, ca575, cc576, S558, S563, S568, (wi (g577 + 1)), H, hr.fj h⟩, Nat.lt_succ_self _⟩
      ·
       refine sr ?_
       refine o1 hr (pA b580 0) fun a hr => ?_
       refine ld (wn rfl) hr (vI (at_ p2 g577.toNat).Side) ((h.pick 11).cell 0 rfl) fun a hr => ?_
       obtain ⟨r615, e616, H⟩ := bd1 H
       have hc := plunderlaw2_mod_ok (H := e616) (h := h)
       refine cl (wn rfl) hr hc ?_; clear hc h
       rintro _ w ⟨rfl, h⟩; refine ⟨_, rfl, fun a hr => ?_⟩
       refine oo [115, 111] [vB (r615 == 0), vB (r615 == 0)] hr fun a hr => ?_
       refine ln ?_
       refine cD hr H (fun c617 H => ?_) fun c617 H => ?_
       ·
        refine wp_region_lit ?_
        refine oo [116, 117] [pN, pA Bn4 0] hr fun a hr => ?_
        refine ldm (wn rfl) hr (ag_T_plunderlaw2_Move (at_ p2 g577.toNat)) (cs := cl_T_plunderlaw2_Move (at_ p2 g577.toNat)) ((h.pick 11).held 0 rfl) fun a hr => ?_
        refine o1 hr (.agg #[.slice none 0 0, .slice none 0 0, vI 0]) fun a hr => ?_
        refine onew (wn rfl) hr h nb (#[.slice none 0 0, .slice none 0 0, vI 0]) 78 fun b618 w a h hr => ?_
        replace h := h.rowN_nil (e := 139) (sz := 5) (own := own_T_plunderlaw2_kept)
        replace h := h.rowN_nil (e := 142) (sz := 5) (own := own_T_plunderlaw2_noted)
        obtain ⟨r619, S620, S621, e622, H⟩ := bd3 H
        replace h := h.m1.m2.m5.m5.m5
        have hc := plunderlaw2_plays_nil_ok (H := e622) (h := h)
        refine cl (wn rfl) hr hc ?_; clear hc h
        rintro _ w ⟨caq623, ccq624, caq625, ccq626, caq627, ccq628, caq629, ccq630, rfl, h⟩; refine ⟨_, rfl, fun a hr => ?_⟩
        refine o1 hr (vB r619) fun a hr => ?_
        refine wpList_nil ?_
        refine blk_normal ?_
        refine then_normal ?_
        refine sr ?_
        refine oo [122, 123] [vB r619, vB (!r619)] hr fun a hr => ?_
        refine ln ?_
        refine cM hr H (fun c631 H => ?_) fun c631 H => ?_
        ·
         refine wp_skip ?_
         refine blk_normal ?_
         refine then_normal ?_
         refine wp_region_lit ?_
         refine oo [67, 68, 16] [vI g577, vI (wi (g577 + 1)), vI (wi (g577 + 1))] hr fun a hr => ?_
         refine ln ?_
         exact ⟨_, ⟨caq623, ccq624, caq625, ccq626, ca564, cc565, ca566, cc567, ca569, cc570, ca571, cc572, ca573, cc574, ca575, cc576, S620, S563, S568, (wi (g577 + 1)), H, hr.fj (h.se 15 [0, 1, 2, 6, 7, 8, 9, 10, 11, 12, 13])⟩, Nat.lt_succ_self _⟩
        ·
         refine sr ?_
         refine o1 hr (vB false) fun a hr => ?_
         refine ln ?_
         refine wp_ret ?_
         refine blk_ret ?_
         refine then_ret ?_
         refine then_ret ?_
         refine blk_ret ?_
         refine then_ret ?_
         refine end_ret1 (v := vB false) rfl hr (by kernel_rfl) ?_
         replace H := jx3 H hK556
         replace H := ej1 H; subst H
         exact ⟨rfl, h.se 15 []⟩
       ·
        refine wp_region_lit ?_
        refine oo [73, 74] [pN, pA Bn12 0] hr fun a hr => ?_
        refine ldm (wn rfl) hr (ag_T_plunderlaw2_Move (at_ p2 g577.toNat)) (cs := cl_T_plunderlaw2_Move (at_ p2 g577.toNat)) ((h.pick 11).held 0 rfl) fun a hr => ?_
        refine o1 hr (.agg #[.slice none 0 0, .slice none 0 0, vI 0]) fun a hr => ?_
        refine onew (wn rfl) hr h nb (#[.slice none 0 0, .slice none 0 0, vI 0]) 78 fun b632 w a h hr => ?_
        replace h := h.rowN_nil (e := 139) (sz := 5) (own := own_T_plunderlaw2_kept)
        replace h := h.rowN_nil (e := 142) (sz := 5) (own := own_T_plunderlaw2_noted)
        obtain ⟨r633, S634, S635, e636, H⟩ := bd3 H
        replace h := h.m1.m2.m8.m8.m8
        have hc := plunderlaw2_plays_nil_ok (H := e636) (h := h)
        refine cl (wn rfl) hr hc ?_; clear hc h
        rintro _ w ⟨caq637, ccq638, caq639, ccq640, caq641, ccq642, caq643, ccq644, rfl, h⟩; refine ⟨_, rfl, fun a hr => ?_⟩
        refine o1 hr (vB r633) fun a hr => ?_
        refine wpList_nil ?_
        refine blk_normal ?_
        refine then_normal ?_
        refine sr ?_
        refine oo [122, 123] [vB r633, vB (!r633)] hr fun a hr => ?_
        refine ln ?_
        refine cM hr H (fun c645 H => ?_) fun c645 H => ?_
        ·
         refine wp_skip ?_
         refine blk_normal ?_
         refine then_normal ?_
         refine wp_region_lit ?_
         refine oo [67, 68, 16] [vI g577, vI (wi (g577 + 1)), vI (wi (g577 + 1))] hr fun a hr => ?_
         refine ln ?_
         exact ⟨_, ⟨ca559, cc560, ca561, cc562, caq637, ccq638, caq639, ccq640, ca569, cc570, ca571, cc572, ca573, cc574, ca575, cc576, S558, S634, S568, (wi (g577 + 1)), H, hr.fj (h.se 15 [6, 7, 8, 0, 1, 2, 9, 10, 11, 12, 13])⟩, Nat.lt_succ_self _⟩
        ·
         refine sr ?_
         refine o1 hr (vB false) fun a hr => ?_
         refine ln ?_
         refine wp_ret ?_
         refine blk_ret ?_
         refine then_ret ?_
         refine then_ret ?_
         refine blk_ret ?_
         refine then_ret ?_
         refine end_ret1 (v := vB false) rfl hr (by kernel_rfl) ?_
         replace H := jx3 H hK556
         replace H := ej1 H; subst H
         exact ⟨rfl, h.se 15 []⟩
     ·
      refine wp_exit ?_
      refine then_exit ?_
      refine then_exit ?_
      refine blk_here ?_
      refine then_normal ?_
      exact ⟨(), ca559, cc560, ca561, cc562, ca564, cc565, ca566, cc567, ca569, cc570, ca571, cc572, ca573, cc574, ca575, cc576, S558, S563, S568, sinj H, hr.fj h⟩
   clear h hr a; rintro _ a w ⟨ca538, cc539, ca540, cc541, ca543, cc544, ca545, cc546, ca548, cc549, ca550, cc551, ca552, cc553, ca554, cc555, S537, S542, S547, rfl, j, hr, h⟩
   replace H := jk3 hK556
   refine sr ?_
   obtain ⟨r646, S647, e648, H⟩ := bd2 H
   refine oo [124, 125, 126] [pA b536 0, pN, pA Bn4 0] hr fun a hr => ?_
   replace h := h.m2.m2.m2.m10.m10.m10.m10.m10
   have hc := plunderlaw2_Kept_asked_nil_ok (H := e648) (h := h)
   refine cl (wn rfl) hr hc ?_; clear hc h
   rintro _ w ⟨caq649, ccq650, caq651, ccq652, caq653, ccq654, caq655, ccq656, rfl, h⟩; refine ⟨_, rfl, fun a hr => ?_⟩
   refine o1 hr (vB r646) fun a hr => ?_
   by_cases c657 : r646 = true
   ·
    replace H := ifT c657 H
    obtain ⟨r658, S659, e660, H⟩ := bd2 H
    refine onl (c657) [129, 130, 131] [pA b536 0, pN, pA Bn12 0] hr fun a hr => ?_
    replace h := h.m10.m10.m10.m7.m7.m7.m7.m7
    have hc := plunderlaw2_Kept_asked_nil_ok (H := e660) (h := h)
    refine cl (wgt hr (c657)) hr hc ?_; clear hc h
    rintro _ w ⟨caq661, ccq662, caq663, ccq664, caq665, ccq666, caq667, ccq668, rfl, h⟩; refine ⟨_, rfl, fun a hr => ?_⟩
    refine opv (wn rfl) hr (vB r658) (rp_t (b := r646) rfl (by kernel_rfl) (c657) (by kernel_rfl)) fun a hr => ?_
    refine o1 hr (vB r658) fun a hr => ?_
    by_cases c669 : r658 = true
    ·
     replace H := ifT c669 H
     obtain ⟨r670, e671, H⟩ := bd1 H
     refine onl (c669) [135] [pA b536 0] hr fun a hr => ?_
     have hc := plunderlaw2_Kept_alone_ok (H := e671) (h := h)
     refine cl (wgt hr (c669)) hr hc ?_; clear hc h
     rintro _ w ⟨rfl, h⟩; refine ⟨_, rfl, fun a hr => ?_⟩
     refine opv (wn rfl) hr (vB r670) (rp_t (b := r658) rfl (by kernel_rfl) (c669) (by kernel_rfl)) fun a hr => ?_
     refine o1 hr (vB r670) fun a hr => ?_
     refine ln ?_
     refine wp_ret ?_
     refine end_ret1 (v := vB r670) rfl hr (by kernel_rfl) ?_
     replace H := ej1 H; subst H
     exact ⟨rfl, h.se 6 []⟩
    ·
     replace H := ifF c669 H
     refine offl (bF c669) [135, 136] hr fun a hr => ?_
     refine opv (wn rfl) hr (vB false) (rp_f (b := r658) rfl (by kernel_rfl) (bF c669) (by kernel_rfl)) fun a hr => ?_
     refine o1 hr (vB false) fun a hr => ?_
     refine ln ?_
     refine wp_ret ?_
     refine end_ret1 (v := vB false) rfl hr (by kernel_rfl) ?_
     replace H := ej1 H; subst H
     exact ⟨rfl, h.se 11 []⟩
   ·
    replace H := ifF c657 H
    refine offl (bF c657) [129, 130, 131, 132] hr fun a hr => ?_
    refine opv (wn rfl) hr (vB false) (rp_f (b := r646) rfl (by kernel_rfl) (bF c657) (by kernel_rfl)) fun a hr => ?_
    refine o1 hr (vB false) fun a hr => ?_
    refine offl (rfl : false = false) [135, 136] hr fun a hr => ?_
    refine oo [137, 6] [vB false, vB false] hr fun a hr => ?_
    refine ln ?_
    refine wp_ret ?_
    refine end_ret1 (v := vB false) rfl hr (by kernel_rfl) ?_
    replace H := ej1 H; subst H
    exact ⟨rfl, h.se 11 []⟩

/-- plunder/plunderlaw2.CellsLists -/
def plunderlaw2_CellsLists (K : Nat) (p0 : Int) (p1 : Int) (p2 : List T_plunderlaw2_Move) : Option (Bool) :=
  ob1 (plunderlaw2_walk K p0 p1 p2 false true) (fun r1 => (if r1 = true then ob1 (plunderlaw2_untold K p0 p1 p2) (fun r4 => some r4) else some false))

theorem plunderlaw2_CellsLists_ok {z w : World} {L : List HProp} {K : Nat} {p0 p1 : Int} {p2 : List T_plunderlaw2_Move} {va2 : Option Addr} {vc2 : Nat} {r0 : Bool} (H : plunderlaw2_CellsLists K p0 p1 p2 = some r0) (h : Fit z (sepL (L)) w) (hv2 : RdRow L 5 enc_T_plunderlaw2_Move va2 p2) :
    Calls Try.prog 8 #[vI p0, vI p1, .slice va2 p2.length vc2] w fun e w => e = .returned (vB r0) ∧ Fit z (sepL (L)) w := by
 unfold plunderlaw2_CellsLists at H
 refine enter Try.func8 rfl 17 rfl rfl [(0, vI p0), (1, vI p1), (2, .slice va2 p2.length vc2)] ⟨rfl, rfl, rfl, trivial⟩ ?_
 intro j a hr
 refine sr ?_
 refine o1 hr (vB false) fun a hr => ?_
 refine ln ?_
 refine sr ?_
 obtain ⟨r1, e2, H⟩ := bd1 H
 refine oo [7, 8, 9] [vI p0, vI p1, .slice va2 p2.length vc2] hr fun a hr => ?_
 have hc := plunderlaw2_walk_ok (va2 := va2) (vc2 := vc2) (hv2 := (RdRow.up 0 hv2)) (H := e2) (h := h)
 refine cl (wn rfl) hr hc ?_; clear hc h
 rintro _ w ⟨rfl, h⟩; refine ⟨_, rfl, fun a hr => ?_⟩
 refine o1 hr (vB r1) fun a hr => ?_
 by_cases c3 : r1 = true
 ·
  replace H := ifT c3 H
  obtain ⟨r4, e5, H⟩ := bd1 H
  refine onl (c3) [12, 13, 14] [vI p0, vI p1, .slice va2 p2.length vc2] hr fun a hr => ?_
  have hc := plunderlaw2_untold_ok (va2 := va2) (vc2 := vc2) (hv2 := (RdRow.up 0 hv2)) (H := e5) (h := h)
  refine cl (wgt hr (c3)) hr hc ?_; clear hc h
  rintro _ w ⟨rfl, h⟩; refine ⟨_, rfl, fun a hr => ?_⟩
  refine opv (wn rfl) hr (vB r4) (rp_t (b := r1) rfl (by kernel_rfl) (c3) (by kernel_rfl)) fun a hr => ?_
  refine o1 hr (vB r4) fun a hr => ?_
  refine ln ?_
  refine wp_ret ?_
  refine end_ret1 (v := vB r4) rfl hr (by kernel_rfl) ?_
  replace H := ej1 H; subst H
  exact ⟨rfl, h⟩
 ·
  replace H := ifF c3 H
  refine offl (bF c3) [12, 13, 14, 15] hr fun a hr => ?_
  refine opv (wn rfl) hr (vB false) (rp_f (b := r1) rfl (by kernel_rfl) (bF c3) (by kernel_rfl)) fun a hr => ?_
  refine o1 hr (vB false) fun a hr => ?_
  refine ln ?_
  refine wp_ret ?_
  refine end_ret1 (v := vB false) rfl hr (by kernel_rfl) ?_
  replace H := ej1 H; subst H
  exact ⟨rfl, h⟩


end Go.Proofs.Ytacgigkonoegiaa.Mo
