/- what the functions compute, as plain Lean functions, and that they do -/
import Derived.Test.YtacgigkonoegiaaCl2
namespace Go.Proofs.Ytacgigkonoegiaa.Mo
open Go Go.RowKit Go.Proofs.Ytacgigkonoegiaa.SL Go.Proofs.Ytacgigkonoegiaa.GX
set_option linter.unusedVariables false
set_option linter.unusedSimpArgs false
set_option maxRecDepth 100000
set_option maxHeartbeats 4000000

theorem plunderlaw2_walk_ok {z w : World} {L : List HProp} {K : Nat} {p0 p1 : Int} {p2 : List T_plunderlaw2_Move} {p3 p4 r0 : Bool} {va2 : Option Addr} {vc2 : Nat} (H : plunderlaw2_walk K p0 p1 p2 p3 p4 = some r0) (h : Fit z (sepL (L)) w) (hv2 : RdRow L 5 enc_T_plunderlaw2_Move va2 p2) :
    Calls Try.prog 25 #[vI p0, vI p1, .slice va2 p2.length vc2, vB p3, vB p4] w fun e w => e = .returned (vB r0) ∧ Fit z (sepL (L)) w := by
 unfold plunderlaw2_walk at H
 refine enter Try.func25 rfl 141 rfl rfl [(0, vI p0), (1, vI p1), (2, .slice va2 p2.length vc2), (3, vB p3), (4, vB p4)] ⟨rfl, rfl, rfl, rfl, rfl, trivial⟩ ?_
 intro j a hr
 refine sr ?_
 refine o1 hr (vB false) fun a hr => ?_
 refine ln ?_
 refine sr ?_
 obtain ⟨r1, r2, e3, H⟩ := bd2 H
 refine o1 hr (vI p0) fun a hr => ?_
 have hc := plunderref2_New_ok (H := e3) (h := h)
 refine cl (wn rfl) hr hc ?_; clear hc h
 rintro _ w ⟨Bn4, car5, ccr6, car7, ccr8, rfl, h⟩; refine ⟨_, rfl, fun a hr => ?_⟩
 refine oo [23, 26, 27, 11, 12] [.tuple #[pA Bn4 0, vI r2], pA Bn4 0, vI r2, pA Bn4 0, vI r2] hr fun a hr => ?_
 refine ln ?_
 refine sr ?_
 obtain ⟨r9, r10, e11, H⟩ := bd2 H
 refine o1 hr (vI p1) fun a hr => ?_
 have hc := plunderref2_New_ok (H := e11) (h := h)
 refine cl (wn rfl) hr hc ?_; clear hc h
 rintro _ w ⟨Bn12, car13, ccr14, car15, ccr16, rfl, h⟩; refine ⟨_, rfl, fun a hr => ?_⟩
 refine oo [28, 31, 32, 13, 14] [.tuple #[pA Bn12 0, vI r10], pA Bn12 0, vI r10, pA Bn12 0, vI r10] hr fun a hr => ?_
 refine ln ?_
 refine sr ?_
 obtain ⟨r17, r18, e19, H⟩ := bd2 H
 refine o1 hr (vI p0) fun a hr => ?_
 cases r17 with
 | some S20 =>
  have hc := cells_New_ok0 (H := e19) (h := h)
  refine cl (wn rfl) hr hc ?_; clear hc h
  rintro _ w ⟨Bn21, car22, ccr23, car24, ccr25, rfl, h⟩; refine ⟨_, rfl, fun a hr => ?_⟩
  refine oo [33, 36, 37, 15, 16] [.tuple #[pA Bn21 0, vI r18], pA Bn21 0, vI r18, pA Bn21 0, vI r18] hr fun a hr => ?_
  refine ln ?_
  refine sr ?_
  obtain ⟨r26, r27, e28, H⟩ := bd2 H
  refine o1 hr (vI p1) fun a hr => ?_
  cases r26 with
  | some S29 =>
   have hc := cells_New_ok0 (H := e28) (h := h)
   refine cl (wn rfl) hr hc ?_; clear hc h
   rintro _ w ⟨Bn30, car31, ccr32, car33, ccr34, rfl, h⟩; refine ⟨_, rfl, fun a hr => ?_⟩
   refine oo [38, 41, 42, 17, 18] [.tuple #[pA Bn30 0, vI r27], pA Bn30 0, vI r27, pA Bn30 0, vI r27] hr fun a hr => ?_
   refine ln ?_
   obtain ⟨o36, H, hK35⟩ := jd0 H
   refine cut_rule (β := Unit) (fun _ a w => .inl () = o36 ∧ ∃ j, Rep 141 (lk [(2, .slice va2 p2.length vc2), (3, vB p3), (4, vB p4), (11, pA Bn4 0), (13, pA Bn12 0), (15, pA Bn21 0), (17, pA Bn30 0)] j) a ∧ Fit z (sepL (ob62 Bn4 r1 car5 ccr6 car7 ccr8 :: ro2 car5 ccr6 r1.Held :: ro90 car7 ccr8 r1.Book :: ob62 Bn12 r9 car13 ccr14 car15 ccr16 :: ro2 car13 ccr14 r9.Held :: ro90 car15 ccr16 r9.Book :: ob96 Bn21 S20 car22 ccr23 car24 ccr25 :: ro2 car22 ccr23 S20.cell :: ro90 car24 ccr25 S20.log :: ob96 Bn30 S29 car31 ccr32 car33 ccr34 :: ro2 car31 ccr32 S29.cell :: ro90 car33 ccr34 S29.log :: L)) w) ?_ ?_
   ·
    refine sr ?_
    refine oo [43, 44, 45, 46] [vI r18, vI r2, vB (r18 != r2), vB (r18 != r2)] hr fun a hr => ?_
    by_cases c37 : r18 = r2
    ·
     replace H := ifT c37 H
     refine onl (bne_eq_false_iff_eq.mpr c37) [47, 48, 49] [vI r27, vI r10, vB (r27 != r10)] hr fun a hr => ?_
     refine opv (wn rfl) hr (vB (r27 != r10)) (rp_f (b := (r18 != r2)) rfl (by kernel_rfl) (bne_eq_false_iff_eq.mpr c37) (by kernel_rfl)) fun a hr => ?_
     refine o1 hr (vB (r27 != r10)) fun a hr => ?_
     by_cases c38 : r27 = r10
     ·
      replace H := ifT c38 H
      refine onl (bne_eq_false_iff_eq.mpr c38) [52, 53, 54, 55, 56] [pA Bn21 0, vB false, vI r2, vB (r2 != 0), vB (!(false == (r2 != 0)))] hr fun a hr => ?_
      refine opv (wn rfl) hr (vB (!(false == (r2 != 0)))) (rp_f (b := (r27 != r10)) rfl (by kernel_rfl) (bne_eq_false_iff_eq.mpr c38) (by kernel_rfl)) fun a hr => ?_
      refine o1 hr (vB (!(false == (r2 != 0)))) fun a hr => ?_
      by_cases c39 : false = (r2 != 0)
      ·
       replace H := ifT c39 H
       refine onl (show (!(false == (r2 != 0))) = false from (by rw [show (false == (r2 != 0)) = true from (beq_iff_eq.mpr c39)]; rfl)) [59, 60, 61, 62, 63] [pA Bn30 0, vB false, vI r10, vB (r10 != 0), vB (!(false == (r10 != 0)))] hr fun a hr => ?_
       refine opv (wn rfl) hr (vB (!(false == (r10 != 0)))) (rp_f (b := (!(false == (r2 != 0)))) rfl (by kernel_rfl) (by rw [show (false == (r2 != 0)) = true from (beq_iff_eq.mpr c39)]; rfl) (by kernel_rfl)) fun a hr => ?_
       refine ln ?_
       by_cases c40 : false = (r10 != 0)
       ·
        replace H := ifT c40 H
        refine cond_ff hr (b := (!(false == (r10 != 0)))) (by rw [show (false == (r10 != 0)) = true from (beq_iff_eq.mpr c40)]; rfl) ?_
        refine wp_skip ?_
        refine then_normal ?_
        exact ⟨(), sinj H, hr.fj (h.se 12 [9, 10, 11, 6, 7, 8, 3, 4, 5, 0, 1, 2])⟩
       ·
        replace H := ifF c40 H
        refine cond_tt hr (b := (!(false == (r10 != 0)))) (by rw [show (false == (r10 != 0)) = false from (beq_eq_false_iff_ne.mpr c40)]; rfl) ?_
        refine sr ?_
        refine o1 hr (vB false) fun a hr => ?_
        refine ln ?_
        refine wp_ret ?_
        refine then_ret ?_
        refine end_ret1 (v := vB false) rfl hr (by kernel_rfl) ?_
        replace H := jx0 H hK35
        replace H := ej1 H; subst H
        exact ⟨rfl, h.se 12 []⟩
      ·
       replace H := ifF c39 H
       refine offl (show (!(false == (r2 != 0))) = true from (by rw [show (false == (r2 != 0)) = false from (beq_eq_false_iff_ne.mpr c39)]; rfl)) [59, 60, 61, 62, 63] hr fun a hr => ?_
       refine opv (wn rfl) hr (vB true) (rp_t (b := (!(false == (r2 != 0)))) rfl (by kernel_rfl) (by rw [show (false == (r2 != 0)) = false from (beq_eq_false_iff_ne.mpr c39)]; rfl) (by kernel_rfl)) fun a hr => ?_
       refine ln ?_
       refine cond_tt hr (b := true) rfl ?_
       refine sr ?_
       refine o1 hr (vB false) fun a hr => ?_
       refine ln ?_
       refine wp_ret ?_
       refine then_ret ?_
       refine end_ret1 (v := vB false) rfl hr (by kernel_rfl) ?_
       replace H := jx0 H hK35
       replace H := ej1 H; subst H
       exact ⟨rfl, h.se 12 []⟩
     ·
      replace H := ifF c38 H
      refine offl (bne_iff_ne.mpr c38) [52, 53, 54, 55, 56] hr fun a hr => ?_
      refine opv (wn rfl) hr (vB true) (rp_t (b := (r27 != r10)) rfl (by kernel_rfl) (bne_iff_ne.mpr c38) (by kernel_rfl)) fun a hr => ?_
      refine o1 hr (vB true) fun a hr => ?_
      refine offl (rfl : true = true) [59, 60, 61, 62, 63] hr fun a hr => ?_
      refine o1 hr (vB true) fun a hr => ?_
      refine ln ?_
      refine cond_tt hr (b := true) rfl ?_
      refine sr ?_
      refine o1 hr (vB false) fun a hr => ?_
      refine ln ?_
      refine wp_ret ?_
      refine then_ret ?_
      refine end_ret1 (v := vB false) rfl hr (by kernel_rfl) ?_
      replace H := jx0 H hK35
      replace H := ej1 H; subst H
      exact ⟨rfl, h.se 12 []⟩
    ·
     replace H := ifF c37 H
     refine offl (bne_iff_ne.mpr c37) [47, 48, 49] hr fun a hr => ?_
     refine opv (wn rfl) hr (vB true) (rp_t (b := (r18 != r2)) rfl (by kernel_rfl) (bne_iff_ne.mpr c37) (by kernel_rfl)) fun a hr => ?_
     refine o1 hr (vB true) fun a hr => ?_
     refine offl (rfl : true = true) [52, 53, 54, 55, 56] hr fun a hr => ?_
     refine oo [57, 58] [vB true, vB true] hr fun a hr => ?_
     refine offl (rfl : true = true) [59, 60, 61, 62, 63] hr fun a hr => ?_
     refine o1 hr (vB true) fun a hr => ?_
     refine ln ?_
     refine cond_tt hr (b := true) rfl ?_
     refine sr ?_
     refine o1 hr (vB false) fun a hr => ?_
     refine ln ?_
     refine wp_ret ?_
     refine then_ret ?_
     refine end_ret1 (v := vB false) rfl hr (by kernel_rfl) ?_
     replace H := jx0 H hK35
     replace H := ej1 H; subst H
     exact ⟨rfl, h.se 12 []⟩
   clear h hr a; rintro _ a w ⟨rfl, j, hr, h⟩
   replace H := jk0 hK35
   refine sr ?_
   refine o1 hr (.agg #[.slice none 0 0, .slice none 0 0, vI 0]) fun a hr => ?_
   refine onew (wn rfl) hr h nb (#[.slice none 0 0, .slice none 0 0, vI 0]) 78 fun b41 w a h hr => ?_
   refine o1 hr (pA b41 0) fun a hr => ?_
   refine ln ?_
   obtain ⟨o63, H, hK62⟩ := jd4 H
   refine cut_rule (β := Unit) (fun _ a w => ∃ ca43 : Option Addr, ∃ cc44 : Nat, ∃ ca45 : Option Addr, ∃ cc46 : Nat, ∃ ca48 : Option Addr, ∃ cc49 : Nat, ∃ ca50 : Option Addr, ∃ cc51 : Nat, ∃ ca53 : Option Addr, ∃ cc54 : Nat, ∃ ca55 : Option Addr, ∃ cc56 : Nat, ∃ ca58 : Option Addr, ∃ cc59 : Nat, ∃ ca60 : Option Addr, ∃ cc61 : Nat, ∃ S42 : T_plunderref2_Arena, ∃ S47 : T_plunderref2_Arena, ∃ S52 : T_cells_Arena, ∃ S57 : T_cells_Arena, .inl (S42, S47, S52, S57) = o63 ∧ ∃ j, Rep 141 (lk [(11, pA Bn4 0), (13, pA Bn12 0), (15, pA Bn21 0), (17, pA Bn30 0)] j) a ∧ Fit z (sepL (ob62 Bn4 S42 ca43 cc44 ca45 cc46 :: ro2 ca43 cc44 S42.Held :: ro90 ca45 cc46 S42.Book :: ob62 Bn12 S47 ca48 cc49 ca50 cc51 :: ro2 ca48 cc49 S47.Held :: ro90 ca50 cc51 S47.Book :: ob96 Bn21 S52 ca53 cc54 ca55 cc56 :: ro2 ca53 cc54 S52.cell :: ro90 ca55 cc56 S52.log :: ob96 Bn30 S57 ca58 cc59 ca60 cc61 :: ro2 ca58 cc59 S57.cell :: ro90 ca60 cc61 S57.log :: L)) w) ?_ ?_
   ·
    refine sr ?_
    refine o1 hr (vI 0) fun a hr => ?_
    refine ln ?_
    refine wp_block ?_
    replace h := h.rowN_nil (e := 139) (sz := 5) (own := own_T_plunderlaw2_kept)
    replace h := h.rowN_nil (e := 142) (sz := 5) (own := own_T_plunderlaw2_noted)
    refine loop_rule (β := Nat) id (fun m a w => ∃ ca65 : Option Addr, ∃ cc66 : Nat, ∃ ca67 : Option Addr, ∃ cc68 : Nat, ∃ ca70 : Option Addr, ∃ cc71 : Nat, ∃ ca72 : Option Addr, ∃ cc73 : Nat, ∃ ca75 : Option Addr, ∃ cc76 : Nat, ∃ ca77 : Option Addr, ∃ cc78 : Nat, ∃ ca80 : Option Addr, ∃ cc81 : Nat, ∃ ca82 : Option Addr, ∃ cc83 : Nat, ∃ ca85 : Option Addr, ∃ cc86 : Nat, ∃ ca87 : Option Addr, ∃ cc88 : Nat, ∃ S64 : T_plunderref2_Arena, ∃ S69 : T_plunderref2_Arena, ∃ S74 : T_cells_Arena, ∃ S79 : T_cells_Arena, ∃ S84 : T_plunderlaw2_book, ∃ g89 : Int, (plunderlaw2_walk_l1 K p2 p3 p4 m S64 S69 S74 S79 S84 g89) = some o63 ∧ ∃ j, Rep 141 (lk [(2, .slice va2 p2.length vc2), (3, vB p3), (4, vB p4), (11, pA Bn4 0), (13, pA Bn12 0), (15, pA Bn21 0), (17, pA Bn30 0), (19, pA b41 0), (20, vI g89)] j) a ∧ Fit z (sepL (ob62 Bn4 S64 ca65 cc66 ca67 cc68 :: ro2 ca65 cc66 S64.Held :: ro90 ca67 cc68 S64.Book :: ob62 Bn12 S69 ca70 cc71 ca72 cc73 :: ro2 ca70 cc71 S69.Held :: ro90 ca72 cc73 S69.Book :: ob96 Bn21 S74 ca75 cc76 ca77 cc78 :: ro2 ca75 cc76 S74.cell :: ro90 ca77 cc78 S74.log :: ob96 Bn30 S79 ca80 cc81 ca82 cc83 :: ro2 ca80 cc81 S79.cell :: ro90 ca82 cc83 S79.log :: ob78 b41 S84 ca85 cc86 ca87 cc88 :: rn139 ca85 cc86 S84.numberLists :: rn142 ca87 cc88 S84.accessLists :: L)) w) K ⟨car5, ccr6, car7, ccr8, car13, ccr14, car15, ccr16, car22, ccr23, car24, ccr25, car31, ccr32, car33, ccr34, none, 0, none, 0, r1, r9, S20, S29, (⟨([] : List T_plunderlaw2_kept), ([] : List T_plunderlaw2_noted), 0⟩ : T_plunderlaw2_book), 0, H, hr.fj (h.se 15 [3, 4, 5, 6, 7, 8, 9, 10, 11, 12, 13, 14, 2, 1, 0])⟩ ?_
    clear h hr a H; rintro k1 a w ⟨ca65, cc66, ca67, cc68, ca70, cc71, ca72, cc73, ca75, cc76, ca77, cc78, ca80, cc81, ca82, cc83, ca85, cc86, ca87, cc88, S64, S69, S74, S79, S84, g89, H, j, hr, h⟩
    cases k1 with
    | zero => exact absurd H (by simp [plunderlaw2_walk_l1])
    | succ k1 =>
     rw [plunderlaw2_walk_l1] at H
     refine wp_seq ?_
     refine sr ?_
     refine oo [67, 68, 69, 70] [vI g89, .slice va2 p2.length vc2, vI ((p2.length : Nat) : Int), vB (decide (g89 < ((p2.length : Nat) : Int)))] hr fun a hr => ?_
     refine ln ?_
     refine cD hr H (fun c90 H => ?_) fun c90 H => ?_
     ·
      refine wp_skip ?_
      refine then_normal ?_
      refine wp_seq ?_
      refine wp_block ?_
      refine sr ?_
      obtain ⟨c91, H⟩ := gd H
      refine oo [73, 74] [.slice va2 p2.length vc2, vI g89] hr fun a hr => ?_
      refine opv (wn rfl) hr (pA (blk va2) (offs va2 + g89.toNat * 5)) (ri_rd (k := .i64) (E := 30) (cc := vc2) rfl (by kernel_rfl) (by kernel_rfl) rfl (by kernel_rfl) (by kernel_rfl) hv2 c91) fun a hr => ?_
      refine ldm (wn rfl) hr (ag_T_plunderlaw2_Move (at_ p2 g89.toNat)) (cs := cl_T_plunderlaw2_Move (at_ p2 g89.toNat)) ⟨hv2.cell c91 (h.dn 15) 0 rfl, hv2.cell c91 (h.dn 15) 1 rfl, hv2.cell c91 (h.dn 15) 2 rfl, hv2.cell c91 (h.dn 15) 3 rfl, hv2.cell c91 (h.dn 15) 4 rfl, trivial⟩ fun a hr => ?_
      refine onew (wn rfl) hr h nb (#[vI 0, vI 0, vI 0, vI 0, vI 0]) 30 fun b92 w a h hr => ?_
      refine stm (wn rfl) hr h 0 (cl_T_plunderlaw2_Move (at_ p2 g89.toNat)) (ob30 b92 (at_ p2 g89.toNat)) fun w h => ?_
      refine ln ?_
      refine sr ?_
      refine o1 hr (vB false) fun a hr => ?_
      refine ln ?_
      obtain ⟨o120, H, hK119⟩ := kd6 H
      refine cut_rule (β := Unit) (fun _ a w => ∃ ca94 : Option Addr, ∃ cc95 : Nat, ∃ ca96 : Option Addr, ∃ cc97 : Nat, ∃ ca99 : Option Addr, ∃ cc100 : Nat, ∃ ca101 : Option Addr, ∃ cc102 : Nat, ∃ ca104 : Option Addr, ∃ cc105 : Nat, ∃ ca106 : Option Addr, ∃ cc107 : Nat, ∃ ca109 : Option Addr, ∃ cc110 : Nat, ∃ ca111 : Option Addr, ∃ cc112 : Nat, ∃ ca114 : Option Addr, ∃ cc115 : Nat, ∃ ca116 : Option Addr, ∃ cc117 : Nat, ∃ S93 : T_plunderref2_Arena, ∃ S98 : T_plunderref2_Arena, ∃ S103 : T_cells_Arena, ∃ S108 : T_cells_Arena, ∃ S113 : T_plunderlaw2_book, ∃ g118 : Bool, (S93, S98, S103, S108, S113, g118) = o120 ∧ ∃ j, Rep 141 (lk [(2, .slice va2 p2.length vc2), (3, vB p3), (4, vB p4), (11, pA Bn4 0), (13, pA Bn12 0), (15, pA Bn21 0), (17, pA Bn30 0), (19, pA b41 0), (20, vI g89), (22, vB g118)] j) a ∧ Fit z (sepL (ob62 Bn4 S93 ca94 cc95 ca96 cc97 :: ro2 ca94 cc95 S93.Held :: ro90 ca96 cc97 S93.Book :: ob62 Bn12 S98 ca99 cc100 ca101 cc102 :: ro2 ca99 cc100 S98.Held :: ro90 ca101 cc102 S98.Book :: ob96 Bn21 S103 ca104 cc105 ca106 cc107 :: ro2 ca104 cc105 S103.cell :: ro90 ca106 cc107 S103.log :: ob96 Bn30 S108 ca109 cc110 ca111 cc112 :: ro2 ca109 cc110 S108.cell :: ro90 ca111 cc112 S108.log :: ob78 b41 S113 ca114 cc115 ca116 cc117 :: rn139 ca114 cc115 S113.numberLists :: rn142 ca116 cc117 S113.accessLists :: L)) w) ?_ ?_
      ·
       obtain ⟨o123, H, hK122⟩ := kd1 H
       refine cut_rule (β := Unit) (fun _ a w => ∃ g121 : Bool, g121 = o123 ∧ ∃ j, Rep 141 (lk [(2, .slice va2 p2.length vc2), (3, vB p3), (4, vB p4), (11, pA Bn4 0), (13, pA Bn12 0), (15, pA Bn21 0), (17, pA Bn30 0), (19, pA b41 0), (20, vI g89), (21, pA b92 0), (83, vB g121)] j) a ∧ Fit z (sepL (ob62 Bn4 S64 ca65 cc66 ca67 cc68 :: ro2 ca65 cc66 S64.Held :: ro90 ca67 cc68 S64.Book :: ob62 Bn12 S69 ca70 cc71 ca72 cc73 :: ro2 ca70 cc71 S69.Held :: ro90 ca72 cc73 S69.Book :: ob96 Bn21 S74 ca75 cc76 ca77 cc78 :: ro2 ca75 cc76 S74.cell :: ro90 ca77 cc78 S74.log :: ob96 Bn30 S79 ca80 cc81 ca82 cc83 :: ro2 ca80 cc81 S79.cell :: ro90 ca82 cc83 S79.log :: ob78 b41 S84 ca85 cc86 ca87 cc88 :: rn139 ca85 cc86 S84.numberLists :: rn142 ca87 cc88 S84.accessLists :: ob30 b92 (at_ p2 g89.toNat) :: L)) w) ?_ ?_
       ·
        refine wp_region_lit ?_
        refine oo [77, 78] [vB p3, vB p3] hr fun a hr => ?_
        by_cases c124 : p3 = true
        ·
         replace H := ifT c124 H
         refine offl (c124) [79, 80, 81, 82] hr fun a hr => ?_
         refine opv (wn rfl) hr (vB true) (rp_t (b := p3) rfl (by kernel_rfl) (c124) (by kernel_rfl)) fun a hr => ?_
         refine ln ?_
         exact ⟨(), true, sinj H, hr.fj (h.se 16 [1, 2, 3, 4, 5, 6, 7, 8, 9, 10, 11, 12, 13, 14, 15, 0])⟩
        ·
         replace H := ifF c124 H
         refine onl (bF c124) [79] [pA b92 0] hr fun a hr => ?_
         refine ld (wgt hr (bF c124)) hr (vI (at_ p2 g89.toNat).Side) (h.cell 0 rfl) fun a hr => ?_
         obtain ⟨r125, e126, H⟩ := bd1 H
         have hc := plunderlaw2_mod_ok (H := e126) (h := h)
         refine cl (wgt hr (bF c124)) hr hc ?_; clear hc h
         rintro _ w ⟨rfl, h⟩; refine ⟨_, rfl, fun a hr => ?_⟩
         refine onl (bF c124) [82] [vB (r125 == 0)] hr fun a hr => ?_
         refine opv (wn rfl) hr (vB (r125 == 0)) (rp_f (b := p3) rfl (by kernel_rfl) (bF c124) (by kernel_rfl)) fun a hr => ?_
         refine ln ?_
         exact ⟨(), (r125 == 0), sinj H, hr.fj (h.se 16 [1, 2, 3, 4, 5, 6, 7, 8, 9, 10, 11, 12, 13, 14, 15, 0])⟩
       clear h hr a; rintro _ a w ⟨g121, rfl, j, hr, h⟩
       replace H := kk1 hK122
       refine cV hr H (fun c127 H => ?_) fun c127 H => ?_
       ·
        refine wp_region_lit ?_
        refine oo [84, 85] [pA Bn21 0, pA Bn4 0] hr fun a hr => ?_
        refine ldm (wn rfl) hr (ag_T_plunderlaw2_Move (at_ p2 g89.toNat)) (cs := cl_T_plunderlaw2_Move (at_ p2 g89.toNat)) ((h.pick 15).held 0 rfl) fun a hr => ?_
        obtain ⟨r128, S129, S130, S131, e132, H⟩ := bd4 H
        refine o1 hr (pA b41 0) fun a hr => ?_
        replace h := h.m14.m14.m14.m5.m5.m5.m11.m11.m11
        have hc := plunderlaw2_plays_ok (H := e132) (h := h)
        refine cl (wn rfl) hr hc ?_; clear hc h
        rintro _ w ⟨caq133, ccq134, caq135, ccq136, caq137, ccq138, caq139, ccq140, caq141, ccq142, caq143, ccq144, rfl, h⟩; refine ⟨_, rfl, fun a hr => ?_⟩
        refine o1 hr (vB r128) fun a hr => ?_
        refine ln ?_
        exact ⟨(), caq137, ccq138, caq139, ccq140, ca70, cc71, ca72, cc73, caq133, ccq134, caq135, ccq136, ca80, cc81, ca82, cc83, caq141, ccq142, caq143, ccq144, S130, S69, S129, S79, S131, r128, sinj H, hr.fj (h.se 16 [3, 4, 5, 9, 10, 11, 0, 1, 2, 12, 13, 14, 6, 7, 8])⟩
       ·
        refine wp_region_lit ?_
        refine oo [89, 90] [pA Bn30 0, pA Bn12 0] hr fun a hr => ?_
        refine ldm (wn rfl) hr (ag_T_plunderlaw2_Move (at_ p2 g89.toNat)) (cs := cl_T_plunderlaw2_Move (at_ p2 g89.toNat)) ((h.pick 15).held 0 rfl) fun a hr => ?_
        obtain ⟨r145, S146, S147, S148, e149, H⟩ := bd4 H
        refine o1 hr (pA b41 0) fun a hr => ?_
        replace h := h.m14.m14.m14.m8.m8.m8.m14.m14.m14
        have hc := plunderlaw2_plays_ok (H := e149) (h := h)
        refine cl (wn rfl) hr hc ?_; clear hc h
        rintro _ w ⟨caq150, ccq151, caq152, ccq153, caq154, ccq155, caq156, ccq157, caq158, ccq159, caq160, ccq161, rfl, h⟩; refine ⟨_, rfl, fun a hr => ?_⟩
        refine o1 hr (vB r145) fun a hr => ?_
        refine ln ?_
        exact ⟨(), ca65, cc66, ca67, cc68, caq154, ccq155, caq156, ccq157, ca75, cc76, ca77, cc78, caq150, ccq151, caq152, ccq153, caq158, ccq159, caq160, ccq161, S64, S147, S74, S146, S148, r145, sinj H, hr.fj (h.se 16 [9, 10, 11, 3, 4, 5, 12, 13, 14, 0, 1, 2, 6, 7, 8])⟩
      clear h hr a; rintro _ a w ⟨ca94, cc95, ca96, cc97, ca99, cc100, ca101, cc102, ca104, cc105, ca106, cc107, ca109, cc110, ca111, cc112, ca114, cc115, ca116, cc117, S93, S98, S103, S108, S113, g118, rfl, j, hr, h⟩
      replace H := kk6 hK119
      refine wp_seq ?_
      refine sr ?_
      refine oo [94, 95] [vB g118, vB (!g118)] hr fun a hr => ?_
      refine ln ?_
      refine cM hr H (fun c162 H => ?_) fun c162 H => ?_
      ·
       refine wp_skip ?_
       refine then_normal ?_
       refine sr ?_
       refine o1 hr (vB p4) fun a hr => ?_
       refine ln ?_
       refine cV hr H (fun c163 H => ?_) fun c163 H => ?_
       ·
        refine sr ?_
        obtain ⟨r164, e165, H⟩ := bd1 H
        refine o1 hr (pA b41 0) fun a hr => ?_
        replace h := h.m14.m14.m14
        have hc := plunderlaw2_book_stands_ok (H := e165) (h := h)
        refine cl (wn rfl) hr hc ?_; clear hc h
        rintro _ w ⟨rfl, h⟩; refine ⟨_, rfl, fun a hr => ?_⟩
        refine o1 hr (vB r164) fun a hr => ?_
        refine ln ?_
        refine sr ?_
        refine oo [99, 100] [vB r164, vB (!r164)] hr fun a hr => ?_
        refine ln ?_
        refine cM hr H (fun c166 H => ?_) fun c166 H => ?_
        ·
         refine wp_skip ?_
         refine blk_normal ?_
         refine then_normal ?_
         refine wp_region_lit ?_
         refine oo [71, 72, 20] [vI g89, vI (wi (g89 + 1)), vI (wi (g89 + 1))] hr fun a hr => ?_
         refine ln ?_
         exact ⟨_, ⟨ca94, cc95, ca96, cc97, ca99, cc100, ca101, cc102, ca104, cc105, ca106, cc107, ca109, cc110, ca111, cc112, ca114, cc115, ca116, cc117, S93, S98, S103, S108, S113, (wi (g89 + 1)), H, hr.fj (h.se 15 [3, 4, 5, 6, 7, 8, 9, 10, 11, 12, 13, 14, 0, 1, 2])⟩, Nat.lt_succ_self _⟩
        ·
         refine sr ?_
         refine o1 hr (vB false) fun a hr => ?_
         refine ln ?_
         refine wp_ret ?_
         refine blk_ret ?_
         refine then_ret ?_
         refine then_ret ?_
         refine blk_ret ?_
         refine then_ret ?_
         refine end_ret1 (v := vB false) rfl hr (by kernel_rfl) ?_
         replace H := jx4 H hK62
         replace H := ej1 H; subst H
         exact ⟨rfl, h.se 15 []⟩
       ·
        refine wp_skip ?_
        refine blk_normal ?_
        refine then_normal ?_
        refine wp_region_lit ?_
        refine oo [71, 72, 20] [vI g89, vI (wi (g89 + 1)), vI (wi (g89 + 1))] hr fun a hr => ?_
        refine ln ?_
        exact ⟨_, ⟨ca94, cc95, ca96, cc97, ca99, cc100, ca101, cc102, ca104, cc105, ca106, cc107, ca109, cc110, ca111, cc112, ca114, cc115, ca116, cc117, S93, S98, S103, S108, S113, (wi (g89 + 1)), H, hr.fj h⟩, Nat.lt_succ_self _⟩
      ·
       refine sr ?_
       refine o1 hr (vB false) fun a hr => ?_
       refine ln ?_
       refine wp_ret ?_
       refine then_ret ?_
       refine blk_ret ?_
       refine then_ret ?_
       refine then_ret ?_
       refine blk_ret ?_
       refine then_ret ?_
       refine end_ret1 (v := vB false) rfl hr (by kernel_rfl) ?_
       replace H := jx4 H hK62
       replace H := ej1 H; subst H
       exact ⟨rfl, h.se 15 []⟩
     ·
      refine wp_exit ?_
      refine then_exit ?_
      refine then_exit ?_
      refine blk_here ?_
      refine then_normal ?_
      exact ⟨(), ca65, cc66, ca67, cc68, ca70, cc71, ca72, cc73, ca75, cc76, ca77, cc78, ca80, cc81, ca82, cc83, S64, S69, S74, S79, sinj H, hr.fj (h.se 15 [0, 1, 2, 3, 4, 5, 6, 7, 8, 9, 10, 11])⟩
   clear h hr a; rintro _ a w ⟨ca43, cc44, ca45, cc46, ca48, cc49, ca50, cc51, ca53, cc54, ca55, cc56, ca58, cc59, ca60, cc61, S42, S47, S52, S57, rfl, j, hr, h⟩
   replace H := jk4 hK62
   obtain ⟨o168, H, hK167⟩ := jd0 H
   refine cut_rule (β := Unit) (fun _ a w => .inl () = o168 ∧ ∃ j, Rep 141 (lk [(11, pA Bn4 0), (13, pA Bn12 0), (15, pA Bn21 0), (17, pA Bn30 0)] j) a ∧ Fit z (sepL (ob62 Bn4 S42 ca43 cc44 ca45 cc46 :: ro2 ca43 cc44 S42.Held :: ro90 ca45 cc46 S42.Book :: ob62 Bn12 S47 ca48 cc49 ca50 cc51 :: ro2 ca48 cc49 S47.Held :: ro90 ca50 cc51 S47.Book :: ob96 Bn21 S52 ca53 cc54 ca55 cc56 :: ro2 ca53 cc54 S52.cell :: ro90 ca55 cc56 S52.log :: ob96 Bn30 S57 ca58 cc59 ca60 cc61 :: ro2 ca58 cc59 S57.cell :: ro90 ca60 cc61 S57.log :: L)) w) ?_ ?_
   ·
    refine sr ?_
    refine oo [101, 102, 103] [pA Bn21 0, vB false, vB false] hr fun a hr => ?_
    refine onl (rfl : false = false) [104, 105] [pA Bn30 0, vB false] hr fun a hr => ?_
    refine o1 hr (vB false) fun a hr => ?_
    refine ln ?_
    refine cond_ff hr (b := false) rfl ?_
    refine wp_skip ?_
    refine then_normal ?_
    exact ⟨(), sinj H, hr.fj h⟩
   clear h hr a; rintro _ a w ⟨rfl, j, hr, h⟩
   replace H := jk0 hK167
   refine wp_seq ?_
   obtain ⟨r169, e170, H⟩ := bd1 H
   obtain ⟨r172, e173, H⟩ := bd1 H
   by_cases c174 : r172 = true
   ·
    replace H := ifT c174 H
    obtain ⟨r175, e176, H⟩ := bd1 H
    obtain ⟨r178, e179, H⟩ := bd1 H
    by_cases c180 : r178 = true
    ·
     replace H := ifT c180 H
     obtain ⟨r181, e182, H⟩ := bd1 H
     obtain ⟨r184, e185, H⟩ := bd1 H
     by_cases c186 : r184 = true
     ·
      replace H := ifT c186 H
      obtain ⟨r187, e188, H⟩ := bd1 H
      obtain ⟨r190, e191, H⟩ := bd1 H
      refine regL [(Bn4, 1, [.slice ca43 S42.Held.length cc44]), (Bn12, 1, [.slice ca48 S47.Held.length cc49]), (Bn4, 4, [.slice ca45 S42.Book.length cc46]), (Bn12, 4, [.slice ca50 S47.Book.length cc51])] [1, 3, 4, 6, 9, 11, 12, 14, 18, 20, 21, 23, 27, 29, 30] 35 h (fun h => ⟨⟨h.cell 1 rfl, trivial⟩, ⟨(h.pick 3).cell 1 rfl, trivial⟩, ⟨h.cell 4 rfl, trivial⟩, ⟨(h.pick 3).cell 4 rfl, trivial⟩, trivial⟩) fun w h hd => ?_
      refine evs' hd 31 [(0, 107, pA Bn21 0), (2, 109, pA Bn4 0), (3, 110, pA Bn4 0), (4, 111, pA Bn4 1)] hr fun a hr => ?_
      refine elx hd 0 30 5 hr (wn rfl) rfl rfl fun a hr => ?_
      refine eo1 1 rfl ?_
      replace h := h.m8.m8.m8
      have hc := cells_Arena_Cells_ok (H := e170) (h := h)
      refine cl (wn rfl) hr hc ?_; clear hc h
      rintro _ w ⟨car171, rfl, h⟩; refine ⟨_, rfl, fun a hr => ?_⟩
      refine ln ?_
      refine eE ⟨⟨(h.pick 4).cell 1 rfl, trivial⟩, ⟨(h.pick 7).cell 1 rfl, trivial⟩, ⟨(h.pick 4).cell 4 rfl, trivial⟩, ⟨(h.pick 7).cell 4 rfl, trivial⟩, trivial⟩ fun hd => ?_
      refine eo1 6 rfl ?_
      have hc := plunderlaw2_sameNumbers_ok (va0 := car171) (vc0 := r169.length) (va1 := ca43) (vc1 := cc44) (hv0 := (RdRow.of_row encZ_i64_ok (h.pick 3) (fun h => (h.pick 3)))) (hv1 := (RdRow.of_row encZ_i64_ok (h.pick 5) (fun h => (h.pick 5)))) (H := e173) (h := h)
      refine cl (wn rfl) hr hc ?_; clear hc h
      rintro _ w ⟨rfl, h⟩; refine ⟨_, rfl, fun a hr => ?_⟩
      refine ln ?_
      refine eE ⟨⟨(h.pick 4).cell 1 rfl, trivial⟩, ⟨(h.pick 7).cell 1 rfl, trivial⟩, ⟨(h.pick 4).cell 4 rfl, trivial⟩, ⟨(h.pick 7).cell 4 rfl, trivial⟩, trivial⟩ fun hd => ?_
      refine evs' hd 27 [(7, 114, vB r172)] hr fun a hr => ?_
      refine eon hd 26 8 rfl (wgt hr (c174)) hr (pA Bn30 0) fun a hr => ?_
      refine eon hd 25 10 rfl (wgt hr (c174)) hr (pA Bn12 0) fun a hr => ?_
      refine eon hd 24 11 rfl (wgt hr (c174)) hr (pA Bn12 0) fun a hr => ?_
      refine eon hd 23 12 rfl (wgt hr (c174)) hr (pA Bn12 1) fun a hr => ?_
      refine elx hd 1 22 13 hr (wgt hr (c174)) rfl rfl fun a hr => ?_
      refine eo1 9 rfl ?_
      replace h := h.m12.m12.m12
      have hc := cells_Arena_Cells_ok (H := e176) (h := h)
      refine cl (wgt hr (c174)) hr hc ?_; clear hc h
      rintro _ w ⟨car177, rfl, h⟩; refine ⟨_, rfl, fun a hr => ?_⟩
      refine ln ?_
      refine eE ⟨⟨(h.pick 8).cell 1 rfl, trivial⟩, ⟨(h.pick 11).cell 1 rfl, trivial⟩, ⟨(h.pick 8).cell 4 rfl, trivial⟩, ⟨(h.pick 11).cell 4 rfl, trivial⟩, trivial⟩ fun hd => ?_
      refine eo1 14 rfl ?_
      have hc := plunderlaw2_sameNumbers_ok (va0 := car177) (vc0 := r175.length) (va1 := ca48) (vc1 := cc49) (hv0 := (RdRow.of_row encZ_i64_ok (h.pick 3) (fun h => (h.pick 3)))) (hv1 := (RdRow.of_row encZ_i64_ok (h.pick 12) (fun h => (h.pick 12)))) (H := e179) (h := h)
      refine cl (wgt hr (c174)) hr hc ?_; clear hc h
      rintro _ w ⟨rfl, h⟩; refine ⟨_, rfl, fun a hr => ?_⟩
      refine ln ?_
      refine eE ⟨⟨(h.pick 8).cell 1 rfl, trivial⟩, ⟨(h.pick 11).cell 1 rfl, trivial⟩, ⟨(h.pick 8).cell 4 rfl, trivial⟩, ⟨(h.pick 11).cell 4 rfl, trivial⟩, trivial⟩ fun hd => ?_
      refine eon hd 19 15 rfl (wn rfl) hr (vB r178) (hrun := fun w => rp_t (b := r172) rfl (by kernel_rfl) (c174) (by kernel_rfl)) fun a hr => ?_
      refine evs' hd 18 [(16, 123, vB r178)] hr fun a hr => ?_
      refine eon hd 17 17 rfl (wgt hr (c180)) hr (pA Bn21 0) fun a hr => ?_
      refine eon hd 16 19 rfl (wgt hr (c180)) hr (pA Bn4 0) fun a hr => ?_
      refine eon hd 15 20 rfl (wgt hr (c180)) hr (pA Bn4 0) fun a hr => ?_
      refine eon hd 14 21 rfl (wgt hr (c180)) hr (pA Bn4 4) fun a hr => ?_
      refine elx hd 2 13 22 hr (wgt hr (c180)) rfl rfl fun a hr => ?_
      refine eo1 18 rfl ?_
      replace h := h.m6.m6.m6
      have hc := cells_Arena_Log_ok (H := e182) (h := h)
      refine cl (wgt hr (c180)) hr hc ?_; clear hc h
      rintro _ w ⟨car183, rfl, h⟩; refine ⟨_, rfl, fun a hr => ?_⟩
      refine ln ?_
      refine eE ⟨⟨(h.pick 9).cell 1 rfl, trivial⟩, ⟨(h.pick 12).cell 1 rfl, trivial⟩, ⟨(h.pick 9).cell 4 rfl, trivial⟩, ⟨(h.pick 12).cell 4 rfl, trivial⟩, trivial⟩ fun hd => ?_
      refine eo1 23 rfl ?_
      have hc := plunderlaw2_sameLog_ok (va0 := car183) (vc0 := r181.length) (va1 := ca45) (vc1 := cc46) (hv0 := (RdRow.of_row enc_T_api_Access_ok (h.pick 3) (fun h => (h.pick 3)))) (hv1 := (RdRow.of_row enc_T_api_Access_ok (h.pick 11) (fun h => (h.pick 11)))) (H := e185) (h := h)
      refine cl (wgt hr (c180)) hr hc ?_; clear hc h
      rintro _ w ⟨rfl, h⟩; refine ⟨_, rfl, fun a hr => ?_⟩
      refine ln ?_
      refine eE ⟨⟨(h.pick 9).cell 1 rfl, trivial⟩, ⟨(h.pick 12).cell 1 rfl, trivial⟩, ⟨(h.pick 9).cell 4 rfl, trivial⟩, ⟨(h.pick 12).cell 4 rfl, trivial⟩, trivial⟩ fun hd => ?_
      refine eon hd 10 24 rfl (wn rfl) hr (vB r184) (hrun := fun w => rp_t (b := r178) rfl (by kernel_rfl) (c180) (by kernel_rfl)) fun a hr => ?_
      refine evs' hd 9 [(25, 132, vB r184)] hr fun a hr => ?_
      refine eon hd 8 26 rfl (wgt hr (c186)) hr (pA Bn30 0) fun a hr => ?_
      refine eon hd 7 28 rfl (wgt hr (c186)) hr (pA Bn12 0) fun a hr => ?_
      refine eon hd 6 29 rfl (wgt hr (c186)) hr (pA Bn12 0) fun a hr => ?_
      refine eon hd 5 30 rfl (wgt hr (c186)) hr (pA Bn12 4) fun a hr => ?_
      refine elx hd 3 4 31 hr (wgt hr (c186)) rfl rfl fun a hr => ?_
      refine eo1 27 rfl ?_
      replace h := h.m6.m6.m6
      have hc := cells_Arena_Log_ok (H := e188) (h := h)
      refine cl (wgt hr (c186)) hr hc ?_; clear hc h
      rintro _ w ⟨car189, rfl, h⟩; refine ⟨_, rfl, fun a hr => ?_⟩
      refine ln ?_
      refine eE ⟨⟨(h.pick 10).cell 1 rfl, trivial⟩, ⟨(h.pick 13).cell 1 rfl, trivial⟩, ⟨(h.pick 10).cell 4 rfl, trivial⟩, ⟨(h.pick 13).cell 4 rfl, trivial⟩, trivial⟩ fun hd => ?_
      refine eo1 32 rfl ?_
      have hc := plunderlaw2_sameLog_ok (va0 := car189) (vc0 := r187.length) (va1 := ca50) (vc1 := cc51) (hv0 := (RdRow.of_row enc_T_api_Access_ok (h.pick 3) (fun h => (h.pick 3)))) (hv1 := (RdRow.of_row enc_T_api_Access_ok (h.pick 15) (fun h => (h.pick 15)))) (H := e191) (h := h)
      refine cl (wgt hr (c186)) hr hc ?_; clear hc h
      rintro _ w ⟨rfl, h⟩; refine ⟨_, rfl, fun a hr => ?_⟩
      refine ln ?_
      refine xE ?_
      refine evs 1 33 rfl (wn rfl) hr (vB r190) (hrun := fun w => rp_t (b := r184) rfl (by kernel_rfl) (c186) (by kernel_rfl)) fun a hr => ?_
      refine evs 0 34 rfl (wn rfl) hr (vB r190) fun a hr => ?_
      refine een ?_
      refine then_normal ?_
      refine wp_ret ?_
      refine end_ret1 (v := vB r190) rfl hr (by kernel_rfl) ?_
      replace H := ej1 H; subst H
      exact ⟨rfl, h.se 16 []⟩
     ·
      replace H := ifF c186 H
      refine regL [(Bn4, 1, [.slice ca43 S42.Held.length cc44]), (Bn12, 1, [.slice ca48 S47.Held.length cc49]), (Bn4, 4, [.slice ca45 S42.Book.length cc46])] [1, 3, 4, 6, 9, 11, 12, 14, 18, 20, 21] 35 h (fun h => ⟨⟨h.cell 1 rfl, trivial⟩, ⟨(h.pick 3).cell 1 rfl, trivial⟩, ⟨h.cell 4 rfl, trivial⟩, trivial⟩) fun w h hd => ?_
      refine evs' hd 31 [(0, 107, pA Bn21 0), (2, 109, pA Bn4 0), (3, 110, pA Bn4 0), (4, 111, pA Bn4 1)] hr fun a hr => ?_
      refine elx hd 0 30 5 hr (wn rfl) rfl rfl fun a hr => ?_
      refine eo1 1 rfl ?_
      replace h := h.m8.m8.m8
      have hc := cells_Arena_Cells_ok (H := e170) (h := h)
      refine cl (wn rfl) hr hc ?_; clear hc h
      rintro _ w ⟨car171, rfl, h⟩; refine ⟨_, rfl, fun a hr => ?_⟩
      refine ln ?_
      refine eE ⟨⟨(h.pick 4).cell 1 rfl, trivial⟩, ⟨(h.pick 7).cell 1 rfl, trivial⟩, ⟨(h.pick 4).cell 4 rfl, trivial⟩, trivial⟩ fun hd => ?_
      refine eo1 6 rfl ?_
      have hc := plunderlaw2_sameNumbers_ok (va0 := car171) (vc0 := r169.length) (va1 := ca43) (vc1 := cc44) (hv0 := (RdRow.of_row encZ_i64_ok (h.pick 3) (fun h => (h.pick 3)))) (hv1 := (RdRow.of_row encZ_i64_ok (h.pick 5) (fun h => (h.pick 5)))) (H := e173) (h := h)
      refine cl (wn rfl) hr hc ?_; clear hc h
      rintro _ w ⟨rfl, h⟩; refine ⟨_, rfl, fun a hr => ?_⟩
      refine ln ?_
      refine eE ⟨⟨(h.pick 4).cell 1 rfl, trivial⟩, ⟨(h.pick 7).cell 1 rfl, trivial⟩, ⟨(h.pick 4).cell 4 rfl, trivial⟩, trivial⟩ fun hd => ?_
      refine evs' hd 27 [(7, 114, vB r172)] hr fun a hr => ?_
      refine eon hd 26 8 rfl (wgt hr (c174)) hr (pA Bn30 0) fun a hr => ?_
      refine eon hd 25 10 rfl (wgt hr (c174)) hr (pA Bn12 0) fun a hr => ?_
      refine eon hd 24 11 rfl (wgt hr (c174)) hr (pA Bn12 0) fun a hr => ?_
      refine eon hd 23 12 rfl (wgt hr (c174)) hr (pA Bn12 1) fun a hr => ?_
      refine elx hd 1 22 13 hr (wgt hr (c174)) rfl rfl fun a hr => ?_
      refine eo1 9 rfl ?_
      replace h := h.m12.m12.m12
      have hc := cells_Arena_Cells_ok (H := e176) (h := h)
      refine cl (wgt hr (c174)) hr hc ?_; clear hc h
      rintro _ w ⟨car177, rfl, h⟩; refine ⟨_, rfl, fun a hr => ?_⟩
      refine ln ?_
      refine eE ⟨⟨(h.pick 8).cell 1 rfl, trivial⟩, ⟨(h.pick 11).cell 1 rfl, trivial⟩, ⟨(h.pick 8).cell 4 rfl, trivial⟩, trivial⟩ fun hd => ?_
      refine eo1 14 rfl ?_
      have hc := plunderlaw2_sameNumbers_ok (va0 := car177) (vc0 := r175.length) (va1 := ca48) (vc1 := cc49) (hv0 := (RdRow.of_row encZ_i64_ok (h.pick 3) (fun h => (h.pick 3)))) (hv1 := (RdRow.of_row encZ_i64_ok (h.pick 12) (fun h => (h.pick 12)))) (H := e179) (h := h)
      refine cl (wgt hr (c174)) hr hc ?_; clear hc h
      rintro _ w ⟨rfl, h⟩; refine ⟨_, rfl, fun a hr => ?_⟩
      refine ln ?_
      refine eE ⟨⟨(h.pick 8).cell 1 rfl, trivial⟩, ⟨(h.pick 11).cell 1 rfl, trivial⟩, ⟨(h.pick 8).cell 4 rfl, trivial⟩, trivial⟩ fun hd => ?_
      refine eon hd 19 15 rfl (wn rfl) hr (vB r178) (hrun := fun w => rp_t (b := r172) rfl (by kernel_rfl) (c174) (by kernel_rfl)) fun a hr => ?_
      refine evs' hd 18 [(16, 123, vB r178)] hr fun a hr => ?_
      refine eon hd 17 17 rfl (wgt hr (c180)) hr (pA Bn21 0) fun a hr => ?_
      refine eon hd 16 19 rfl (wgt hr (c180)) hr (pA Bn4 0) fun a hr => ?_
      refine eon hd 15 20 rfl (wgt hr (c180)) hr (pA Bn4 0) fun a hr => ?_
      refine eon hd 14 21 rfl (wgt hr (c180)) hr (pA Bn4 4) fun a hr => ?_
      refine elx hd 2 13 22 hr (wgt hr (c180)) rfl rfl fun a hr => ?_
      refine eo1 18 rfl ?_
      replace h := h.m6.m6.m6
      have hc := cells_Arena_Log_ok (H := e182) (h := h)
      refine cl (wgt hr (c180)) hr hc ?_; clear hc h
      rintro _ w ⟨car183, rfl, h⟩; refine ⟨_, rfl, fun a hr => ?_⟩
      refine ln ?_
      refine eE ⟨⟨(h.pick 9).cell 1 rfl, trivial⟩, ⟨(h.pick 12).cell 1 rfl, trivial⟩, ⟨(h.pick 9).cell 4 rfl, trivial⟩, trivial⟩ fun hd => ?_
      refine eo1 23 rfl ?_
      have hc := plunderlaw2_sameLog_ok (va0 := car183) (vc0 := r181.length) (va1 := ca45) (vc1 := cc46) (hv0 := (RdRow.of_row enc_T_api_Access_ok (h.pick 3) (fun h => (h.pick 3)))) (hv1 := (RdRow.of_row enc_T_api_Access_ok (h.pick 11) (fun h => (h.pick 11)))) (H := e185) (h := h)
      refine cl (wgt hr (c180)) hr hc ?_; clear hc h
      rintro _ w ⟨rfl, h⟩; refine ⟨_, rfl, fun a hr => ?_⟩
      refine ln ?_
      refine xE ?_
      refine evs 10 24 rfl (wn rfl) hr (vB r184) (hrun := fun w => rp_t (b := r178) rfl (by kernel_rfl) (c180) (by kernel_rfl)) fun a hr => ?_
      refine evs 9 25 rfl (wn rfl) hr (vB r184) fun a hr => ?_
      refine eos 8 26 rfl (wgt hr (bF c186)) hr fun a hr => ?_
      refine eos 7 28 rfl (wgt hr (bF c186)) hr fun a hr => ?_
      refine eos 6 29 rfl (wgt hr (bF c186)) hr fun a hr => ?_
      refine eos 5 30 rfl (wgt hr (bF c186)) hr fun a hr => ?_
      refine eos 4 31 rfl (wgt hr (bF c186)) hr fun a hr => ?_
      refine eo1 27 rfl ?_
      refine offg (wgt hr (bF c186)) hr fun a hr => ?_
      refine ln ?_
      refine xE ?_
      refine eo1 32 rfl ?_
      refine offg (wgt hr (bF c186)) hr fun a hr => ?_
      refine ln ?_
      refine xE ?_
      refine evs 1 33 rfl (wn rfl) hr (vB false) (hrun := fun w => rp_f (b := r184) rfl (by kernel_rfl) (bF c186) (by kernel_rfl)) fun a hr => ?_
      refine evs 0 34 rfl (wn rfl) hr (vB false) fun a hr => ?_
      refine een ?_
      refine then_normal ?_
      refine wp_ret ?_
      refine end_ret1 (v := vB false) rfl hr (by kernel_rfl) ?_
      replace H := ej1 H; subst H
      exact ⟨rfl, h.se 15 []⟩
    ·
     replace H := ifF c180 H
     refine regL [(Bn4, 1, [.slice ca43 S42.Held.length cc44]), (Bn12, 1, [.slice ca48 S47.Held.length cc49])] [1, 3, 4, 6, 9, 11, 12] 35 h (fun h => ⟨⟨h.cell 1 rfl, trivial⟩, ⟨(h.pick 3).cell 1 rfl, trivial⟩, trivial⟩) fun w h hd => ?_
     refine evs' hd 31 [(0, 107, pA Bn21 0), (2, 109, pA Bn4 0), (3, 110, pA Bn4 0), (4, 111, pA Bn4 1)] hr fun a hr => ?_
     refine elx hd 0 30 5 hr (wn rfl) rfl rfl fun a hr => ?_
     refine eo1 1 rfl ?_
     replace h := h.m8.m8.m8
     have hc := cells_Arena_Cells_ok (H := e170) (h := h)
     refine cl (wn rfl) hr hc ?_; clear hc h
     rintro _ w ⟨car171, rfl, h⟩; refine ⟨_, rfl, fun a hr => ?_⟩
     refine ln ?_
     refine eE ⟨⟨(h.pick 4).cell 1 rfl, trivial⟩, ⟨(h.pick 7).cell 1 rfl, trivial⟩, trivial⟩ fun hd => ?_
     refine eo1 6 rfl ?_
     have hc := plunderlaw2_sameNumbers_ok (va0 := car171) (vc0 := r169.length) (va1 := ca43) (vc1 := cc44) (hv0 := (RdRow.of_row encZ_i64_ok (h.pick 3) (fun h => (h.pick 3)))) (hv1 := (RdRow.of_row encZ_i64_ok (h.pick 5) (fun h => (h.pick 5)))) (H := e173) (h := h)
     refine cl (wn rfl) hr hc ?_; clear hc h
     rintro _ w ⟨rfl, h⟩; refine ⟨_, rfl, fun a hr => ?_⟩
     refine ln ?_
     refine eE ⟨⟨(h.pick 4).cell 1 rfl, trivial⟩, ⟨(h.pick 7).cell 1 rfl, trivial⟩, trivial⟩ fun hd => ?_
     refine evs' hd 27 [(7, 114, vB r172)] hr fun a hr => ?_
     refine eon hd 26 8 rfl (wgt hr (c174)) hr (pA Bn30 0) fun a hr => ?_
     refine eon hd 25 10 rfl (wgt hr (c174)) hr (pA Bn12 0) fun a hr => ?_
     refine eon hd 24 11 rfl (wgt hr (c174)) hr (pA Bn12 0) fun a hr => ?_
     refine eon hd 23 12 rfl (wgt hr (c174)) hr (pA Bn12 1) fun a hr => ?_
     refine elx hd 1 22 13 hr (wgt hr (c174)) rfl rfl fun a hr => ?_
     refine eo1 9 rfl ?_
     replace h := h.m12.m12.m12
     have hc := cells_Arena_Cells_ok (H := e176) (h := h)
     refine cl (wgt hr (c174)) hr hc ?_; clear hc h
     rintro _ w ⟨car177, rfl, h⟩; refine ⟨_, rfl, fun a hr => ?_⟩
     refine ln ?_
     refine eE ⟨⟨(h.pick 8).cell 1 rfl, trivial⟩, ⟨(h.pick 11).cell 1 rfl, trivial⟩, trivial⟩ fun hd => ?_
     refine eo1 14 rfl ?_
     have hc := plunderlaw2_sameNumbers_ok (va0 := car177) (vc0 := r175.length) (va1 := ca48) (vc1 := cc49) (hv0 := (RdRow.of_row encZ_i64_ok (h.pick 3) (fun h => (h.pick 3)))) (hv1 := (RdRow.of_row encZ_i64_ok (h.pick 12) (fun h => (h.pick 12)))) (H := e179) (h := h)
     refine cl (wgt hr (c174)) hr hc ?_; clear hc h
     rintro _ w ⟨rfl, h⟩; refine ⟨_, rfl, fun a hr => ?_⟩
     refine ln ?_
     refine xE ?_
     refine evs 19 15 rfl (wn rfl) hr (vB r178) (hrun := fun w => rp_t (b := r172) rfl (by kernel_rfl) (c174) (by kernel_rfl)) fun a hr => ?_
     refine evs 18 16 rfl (wn rfl) hr (vB r178) fun a hr => ?_
     refine eos 17 17 rfl (wgt hr (bF c180)) hr fun a hr => ?_
     refine eos 16 19 rfl (wgt hr (bF c180)) hr fun a hr => ?_
     refine eos 15 20 rfl (wgt hr (bF c180)) hr fun a hr => ?_
     refine eos 14 21 rfl (wgt hr (bF c180)) hr fun a hr => ?_
     refine eos 13 22 rfl (wgt hr (bF c180)) hr fun a hr => ?_
     refine eo1 18 rfl ?_
     refine offg (wgt hr (bF c180)) hr fun a hr => ?_
     refine ln ?_
     refine xE ?_
     refine eo1 23 rfl ?_
     refine offg (wgt hr (bF c180)) hr fun a hr => ?_
     refine ln ?_
     refine xE ?_
     refine evs 10 24 rfl (wn rfl) hr (vB false) (hrun := fun w => rp_f (b := r178) rfl (by kernel_rfl) (bF c180) (by kernel_rfl)) fun a hr => ?_
     refine evs 9 25 rfl (wn rfl) hr (vB false) fun a hr => ?_
     refine eos 8 26 rfl (wgt hr (c := false) rfl) hr fun a hr => ?_
     refine eos 7 28 rfl (wgt hr (c := false) rfl) hr fun a hr => ?_
     refine eos 6 29 rfl (wgt hr (c := false) rfl) hr fun a hr => ?_
     refine eos 5 30 rfl (wgt hr (c := false) rfl) hr fun a hr => ?_
     refine eos 4 31 rfl (wgt hr (c := false) rfl) hr fun a hr => ?_
     refine eo1 27 rfl ?_
     refine offg (wgt hr (c := false) rfl) hr fun a hr => ?_
     refine ln ?_
     refine xE ?_
     refine eo1 32 rfl ?_
     refine offg (wgt hr (c := false) rfl) hr fun a hr => ?_
     refine ln ?_
     refine xE ?_
     refine evs 1 33 rfl (wn rfl) hr (vB false) fun a hr => ?_
     refine evs 0 34 rfl (wn rfl) hr (vB false) fun a hr => ?_
     refine een ?_
     refine then_normal ?_
     refine wp_ret ?_
     refine end_ret1 (v := vB false) rfl hr (by kernel_rfl) ?_
     replace H := ej1 H; subst H
     exact ⟨rfl, h.se 14 []⟩
   ·
    replace H := ifF c174 H
    refine regL [(Bn4, 1, [.slice ca43 S42.Held.length cc44])] [1, 3, 4] 35 h (fun h => ⟨⟨h.cell 1 rfl, trivial⟩, trivial⟩) fun w h hd => ?_
    refine evs' hd 31 [(0, 107, pA Bn21 0), (2, 109, pA Bn4 0), (3, 110, pA Bn4 0), (4, 111, pA Bn4 1)] hr fun a hr => ?_
    refine elx hd 0 30 5 hr (wn rfl) rfl rfl fun a hr => ?_
    refine eo1 1 rfl ?_
    replace h := h.m8.m8.m8
    have hc := cells_Arena_Cells_ok (H := e170) (h := h)
    refine cl (wn rfl) hr hc ?_; clear hc h
    rintro _ w ⟨car171, rfl, h⟩; refine ⟨_, rfl, fun a hr => ?_⟩
    refine ln ?_
    refine eE ⟨⟨(h.pick 4).cell 1 rfl, trivial⟩, trivial⟩ fun hd => ?_
    refine eo1 6 rfl ?_
    have hc := plunderlaw2_sameNumbers_ok (va0 := car171) (vc0 := r169.length) (va1 := ca43) (vc1 := cc44) (hv0 := (RdRow.of_row encZ_i64_ok (h.pick 3) (fun h => (h.pick 3)))) (hv1 := (RdRow.of_row encZ_i64_ok (h.pick 5) (fun h => (h.pick 5)))) (H := e173) (h := h)
    refine cl (wn rfl) hr hc ?_; clear hc h
    rintro _ w ⟨rfl, h⟩; refine ⟨_, rfl, fun a hr => ?_⟩
    refine ln ?_
    refine xE ?_
    refine evs 27 7 rfl (wn rfl) hr (vB r172) fun a hr => ?_
    refine eos 26 8 rfl (wgt hr (bF c174)) hr fun a hr => ?_
    refine eos 25 10 rfl (wgt hr (bF c174)) hr fun a hr => ?_
    refine eos 24 11 rfl (wgt hr (bF c174)) hr fun a hr => ?_
    refine eos 23 12 rfl (wgt hr (bF c174)) hr fun a hr => ?_
    refine eos 22 13 rfl (wgt hr (bF c174)) hr fun a hr => ?_
    refine eo1 9 rfl ?_
    refine offg (wgt hr (bF c174)) hr fun a hr => ?_
    refine ln ?_
    refine xE ?_
    refine eo1 14 rfl ?_
    refine offg (wgt hr (bF c174)) hr fun a hr => ?_
    refine ln ?_
    refine xE ?_
    refine evs 19 15 rfl (wn rfl) hr (vB false) (hrun := fun w => rp_f (b := r172) rfl (by kernel_rfl) (bF c174) (by kernel_rfl)) fun a hr => ?_
    refine evs 18 16 rfl (wn rfl) hr (vB false) fun a hr => ?_
    refine eos 17 17 rfl (wgt hr (c := false) rfl) hr fun a hr => ?_
    refine eos 16 19 rfl (wgt hr (c := false) rfl) hr fun a hr => ?_
    refine eos 15 20 rfl (wgt hr (c := false) rfl) hr fun a hr => ?_
    refine eos 14 21 rfl (wgt hr (c := false) rfl) hr fun a hr => ?_
    refine eos 13 22 rfl (wgt hr (c := false) rfl) hr fun a hr => ?_
    refine eo1 18 rfl ?_
    refine offg (wgt hr (c := false) rfl) hr fun a hr => ?_
    refine ln ?_
    refine xE ?_
    refine eo1 23 rfl ?_
    refine offg (wgt hr (c := false) rfl) hr fun a hr => ?_
    refine ln ?_
    refine xE ?_
    refine evs 10 24 rfl (wn rfl) hr (vB false) fun a hr => ?_
    refine evs 9 25 rfl (wn rfl) hr (vB false) fun a hr => ?_
    refine eos 8 26 rfl (wgt hr (c := false) rfl) hr fun a hr => ?_
    refine eos 7 28 rfl (wgt hr (c := false) rfl) hr fun a hr => ?_
    refine eos 6 29 rfl (wgt hr (c := false) rfl) hr fun a hr => ?_
    refine eos 5 30 rfl (wgt hr (c := false) rfl) hr fun a hr => ?_
    refine eos 4 31 rfl (wgt hr (c := false) rfl) hr fun a hr => ?_
    refine eo1 27 rfl ?_
    refine offg (wgt hr (c := false) rfl) hr fun a hr => ?_
    refine ln ?_
    refine xE ?_
    refine eo1 32 rfl ?_
    refine offg (wgt hr (c := false) rfl) hr fun a hr => ?_
    refine ln ?_
    refine xE ?_
    refine evs 1 33 rfl (wn rfl) hr (vB false) fun a hr => ?_
    refine evs 0 34 rfl (wn rfl) hr (vB false) fun a hr => ?_
    refine een ?_
    refine then_normal ?_
    refine wp_ret ?_
    refine end_ret1 (v := vB false) rfl hr (by kernel_rfl) ?_
    replace H := ej1 H; subst H
    exact ⟨rfl, h.se 13 []⟩
  | none =>
   have hc := cells_New_ok1 (H := e28) (h := h)
   refine cl (wn rfl) hr hc ?_; clear hc h
   rintro _ w ⟨rfl, h⟩; refine ⟨_, rfl, fun a hr => ?_⟩
   refine oo [38, 41, 42, 17, 18] [.tuple #[pN, vI r27], pN, vI r27, pN, vI r27] hr fun a hr => ?_
   refine ln ?_
   obtain ⟨o193, H, hK192⟩ := jd0 H
   refine cut_rule (β := Unit) (fun _ a w => .inl () = o193 ∧ ∃ j, Rep 141 (lk [(2, .slice va2 p2.length vc2), (3, vB p3), (4, vB p4), (11, pA Bn4 0), (13, pA Bn12 0), (15, pA Bn21 0), (17, pN)] j) a ∧ Fit z (sepL (ob62 Bn4 r1 car5 ccr6 car7 ccr8 :: ro2 car5 ccr6 r1.Held :: ro90 car7 ccr8 r1.Book :: ob62 Bn12 r9 car13 ccr14 car15 ccr16 :: ro2 car13 ccr14 r9.Held :: ro90 car15 ccr16 r9.Book :: ob96 Bn21 S20 car22 ccr23 car24 ccr25 :: ro2 car22 ccr23 S20.cell :: ro90 car24 ccr25 S20.log :: L)) w) ?_ ?_
   ·
    refine sr ?_
    refine oo [43, 44, 45, 46] [vI r18, vI r2, vB (r18 != r2), vB (r18 != r2)] hr fun a hr => ?_
    by_cases c194 : r18 = r2
    ·
     replace H := ifT c194 H
     refine onl (bne_eq_false_iff_eq.mpr c194) [47, 48, 49] [vI r27, vI r10, vB (r27 != r10)] hr fun a hr => ?_
     refine opv (wn rfl) hr (vB (r27 != r10)) (rp_f (b := (r18 != r2)) rfl (by kernel_rfl) (bne_eq_false_iff_eq.mpr c194) (by kernel_rfl)) fun a hr => ?_
     refine o1 hr (vB (r27 != r10)) fun a hr => ?_
     by_cases c195 : r27 = r10
     ·
      replace H := ifT c195 H
      refine onl (bne_eq_false_iff_eq.mpr c195) [52, 53, 54, 55, 56] [pA Bn21 0, vB false, vI r2, vB (r2 != 0), vB (!(false == (r2 != 0)))] hr fun a hr => ?_
      refine opv (wn rfl) hr (vB (!(false == (r2 != 0)))) (rp_f (b := (r27 != r10)) rfl (by kernel_rfl) (bne_eq_false_iff_eq.mpr c195) (by kernel_rfl)) fun a hr => ?_
      refine o1 hr (vB (!(false == (r2 != 0)))) fun a hr => ?_
      by_cases c196 : false = (r2 != 0)
      ·
       replace H := ifT c196 H
       refine onl (show (!(false == (r2 != 0))) = false from (by rw [show (false == (r2 != 0)) = true from (beq_iff_eq.mpr c196)]; rfl)) [59, 60, 61, 62, 63] [pN, vB true, vI r10, vB (r10 != 0), vB (!(true == (r10 != 0)))] hr fun a hr => ?_
       refine opv (wn rfl) hr (vB (!(true == (r10 != 0)))) (rp_f (b := (!(false == (r2 != 0)))) rfl (by kernel_rfl) (by rw [show (false == (r2 != 0)) = true from (beq_iff_eq.mpr c196)]; rfl) (by kernel_rfl)) fun a hr => ?_
       refine ln ?_
       by_cases c197 : true = (r10 != 0)
       ·
        replace H := ifT c197 H
        refine cond_ff hr (b := (!(true == (r10 != 0)))) (by rw [show (true == (r10 != 0)) = true from (beq_iff_eq.mpr c197)]; rfl) ?_
        refine wp_skip ?_
        refine then_normal ?_
        exact ⟨(), sinj H, hr.fj (h.se 9 [6, 7, 8, 3, 4, 5, 0, 1, 2])⟩
       ·
        replace H := ifF c197 H
        refine cond_tt hr (b := (!(true == (r10 != 0)))) (by rw [show (true == (r10 != 0)) = false from (beq_eq_false_iff_ne.mpr c197)]; rfl) ?_
        refine sr ?_
        refine o1 hr (vB false) fun a hr => ?_
        refine ln ?_
        refine wp_ret ?_
        refine then_ret ?_
        refine end_ret1 (v := vB false) rfl hr (by kernel_rfl) ?_
        replace H := jx0 H hK192
        replace H := ej1 H; subst H
        exact ⟨rfl, h.se 9 []⟩
      ·
       replace H := ifF c196 H
       refine offl (show (!(false == (r2 != 0))) = true from (by rw [show (false == (r2 != 0)) = false from (beq_eq_false_iff_ne.mpr c196)]; rfl)) [59, 60, 61, 62, 63] hr fun a hr => ?_
       refine opv (wn rfl) hr (vB true) (rp_t (b := (!(false == (r2 != 0)))) rfl (by kernel_rfl) (by rw [show (false == (r2 != 0)) = false from (beq_eq_false_iff_ne.mpr c196)]; rfl) (by kernel_rfl)) fun a hr => ?_
       refine ln ?_
       refine cond_tt hr (b := true) rfl ?_
       refine sr ?_
       refine o1 hr (vB false) fun a hr => ?_
       refine ln ?_
       refine wp_ret ?_
       refine then_ret ?_
       refine end_ret1 (v := vB false) rfl hr (by kernel_rfl) ?_
       replace H := jx0 H hK192
       replace H := ej1 H; subst H
       exact ⟨rfl, h.se 9 []⟩
     ·
      replace H := ifF c195 H
      refine offl (bne_iff_ne.mpr c195) [52, 53, 54, 55, 56] hr fun a hr => ?_
      refine opv (wn rfl) hr (vB true) (rp_t (b := (r27 != r10)) rfl (by kernel_rfl) (bne_iff_ne.mpr c195) (by kernel_rfl)) fun a hr => ?_
      refine o1 hr (vB true) fun a hr => ?_
      refine offl (rfl : true = true) [59, 60, 61, 62, 63] hr fun a hr => ?_
      refine o1 hr (vB true) fun a hr => ?_
      refine ln ?_
      refine cond_tt hr (b := true) rfl ?_
      refine sr ?_
      refine o1 hr (vB false) fun a hr => ?_
      refine ln ?_
      refine wp_ret ?_
      refine then_ret ?_
      refine end_ret1 (v := vB false) rfl hr (by kernel_rfl) ?_
      replace H := jx0 H hK192
      replace H := ej1 H; subst H
      exact ⟨rfl, h.se 9 []⟩
    ·
     replace H := ifF c194 H
     refine offl (bne_iff_ne.mpr c194) [47, 48, 49] hr fun a hr => ?_
     refine opv (wn rfl) hr (vB true) (rp_t (b := (r18 != r2)) rfl (by kernel_rfl) (bne_iff_ne.mpr c194) (by kernel_rfl)) fun a hr => ?_
     refine o1 hr (vB true) fun a hr => ?_
     refine offl (rfl : true = true) [52, 53, 54, 55, 56] hr fun a hr => ?_
     refine oo [57, 58] [vB true, vB true] hr fun a hr => ?_
     refine offl (rfl : true = true) [59, 60, 61, 62, 63] hr fun a hr => ?_
     refine o1 hr (vB true) fun a hr => ?_
     refine ln ?_
     refine cond_tt hr (b := true) rfl ?_
     refine sr ?_
     refine o1 hr (vB false) fun a hr => ?_
     refine ln ?_
     refine wp_ret ?_
     refine then_ret ?_
     refine end_ret1 (v := vB false) rfl hr (by kernel_rfl) ?_
     replace H := jx0 H hK192
     replace H := ej1 H; subst H
     exact ⟨rfl, h.se 9 []⟩
   clear h hr a; rintro _ a w ⟨rfl, j, hr, h⟩
   replace H := jk0 hK192
   refine sr ?_
   refine o1 hr (.agg #[.slice none 0 0, .slice none 0 0, vI 0]) fun a hr => ?_
   refine onew (wn rfl) hr h nb (#[.slice none 0 0, .slice none 0 0, vI 0]) 78 fun b198 w a h hr => ?_
   refine o1 hr (pA b198 0) fun a hr => ?_
   refine ln ?_
   obtain ⟨o215, H, hK214⟩ := jd3 H
   refine cut_rule (β := Unit) (fun _ a w => ∃ ca200 : Option Addr, ∃ cc201 : Nat, ∃ ca202 : Option Addr, ∃ cc203 : Nat, ∃ ca205 : Option Addr, ∃ cc206 : Nat, ∃ ca207 : Option Addr, ∃ cc208 : Nat, ∃ ca210 : Option Addr, ∃ cc211 : Nat, ∃ ca212 : Option Addr, ∃ cc213 : Nat, ∃ S199 : T_plunderref2_Arena, ∃ S204 : T_plunderref2_Arena, ∃ S209 : T_cells_Arena, .inl (S199, S204, S209) = o215 ∧ ∃ j, Rep 141 (lk [(11, pA Bn4 0), (13, pA Bn12 0), (15, pA Bn21 0), (17, pN)] j) a ∧ Fit z (sepL (ob62 Bn4 S199 ca200 cc201 ca202 cc203 :: ro2 ca200 cc201 S199.Held :: ro90 ca202 cc203 S199.Book :: ob62 Bn12 S204 ca205 cc206 ca207 cc208 :: ro2 ca205 cc206 S204.Held :: ro90 ca207 cc208 S204.Book :: ob96 Bn21 S209 ca210 cc211 ca212 cc213 :: ro2 ca210 cc211 S209.cell :: ro90 ca212 cc213 S209.log :: L)) w) ?_ ?_
   ·
    refine sr ?_
    refine o1 hr (vI 0) fun a hr => ?_
    refine ln ?_
    refine wp_block ?_
    replace h := h.rowN_nil (e := 139) (sz := 5) (own := own_T_plunderlaw2_kept)
    replace h := h.rowN_nil (e := 142) (sz := 5) (own := own_T_plunderlaw2_noted)
    refine loop_rule (β := Nat) id (fun m a w => ∃ ca217 : Option Addr, ∃ cc218 : Nat, ∃ ca219 : Option Addr, ∃ cc220 : Nat, ∃ ca222 : Option Addr, ∃ cc223 : Nat, ∃ ca224 : Option Addr, ∃ cc225 : Nat, ∃ ca227 : Option Addr, ∃ cc228 : Nat, ∃ ca229 : Option Addr, ∃ cc230 : Nat, ∃ ca232 : Option Addr, ∃ cc233 : Nat, ∃ ca234 : Option Addr, ∃ cc235 : Nat, ∃ S216 : T_plunderref2_Arena, ∃ S221 : T_plunderref2_Arena, ∃ S226 : T_cells_Arena, ∃ S231 : T_plunderlaw2_book, ∃ g236 : Int, (plunderlaw2_walk_l2 K p2 p3 p4 m S216 S221 S226 S231 g236) = some o215 ∧ ∃ j, Rep 141 (lk [(2, .slice va2 p2.length vc2), (3, vB p3), (4, vB p4), (11, pA Bn4 0), (13, pA Bn12 0), (15, pA Bn21 0), (17, pN), (19, pA b198 0), (20, vI g236)] j) a ∧ Fit z (sepL (ob62 Bn4 S216 ca217 cc218 ca219 cc220 :: ro2 ca217 cc218 S216.Held :: ro90 ca219 cc220 S216.Book :: ob62 Bn12 S221 ca222 cc223 ca224 cc225 :: ro2 ca222 cc223 S221.Held :: ro90 ca224 cc225 S221.Book :: ob96 Bn21 S226 ca227 cc228 ca229 cc230 :: ro2 ca227 cc228 S226.cell :: ro90 ca229 cc230 S226.log :: ob78 b198 S231 ca232 cc233 ca234 cc235 :: rn139 ca232 cc233 S231.numberLists :: rn142 ca234 cc235 S231.accessLists :: L)) w) K ⟨car5, ccr6, car7, ccr8, car13, ccr14, car15, ccr16, car22, ccr23, car24, ccr25, none, 0, none, 0, r1, r9, S20, (⟨([] : List T_plunderlaw2_kept), ([] : List T_plunderlaw2_noted), 0⟩ : T_plunderlaw2_book), 0, H, hr.fj (h.se 12 [3, 4, 5, 6, 7, 8, 9, 10, 11, 2, 1, 0])⟩ ?_
    clear h hr a H; rintro k2 a w ⟨ca217, cc218, ca219, cc220, ca222, cc223, ca224, cc225, ca227, cc228, ca229, cc230, ca232, cc233, ca234, cc235, S216, S221, S226, S231, g236, H, j, hr, h⟩
    cases k2 with
    | zero => exact absurd H (by simp [plunderlaw2_walk_l2])
    | succ k2 =>
     rw [plunderlaw2_walk_l2] at H
     refine wp_seq ?_
     refine sr ?_
     refine oo [67, 68, 69, 70] [vI g236, .slice va2 p2.length vc2, vI ((p2.length : Nat) : Int), vB (decide (g236 < ((p2.length : Nat) : Int)))] hr fun a hr => ?_
     refine ln ?_
     refine cD hr H (fun c237 H => ?_) fun c237 H => ?_
     ·
      refine wp_skip ?_
      refine then_normal ?_
      refine wp_seq ?_
      refine wp_block ?_
      refine sr ?_
      obtain ⟨c238, H⟩ := gd H
      refine oo [73, 74] [.slice va2 p2.length vc2, vI g236] hr fun a hr => ?_
      refine opv (wn rfl) hr (pA (blk va2) (offs va2 + g236.toNat * 5)) (ri_rd (k := .i64) (E := 30) (cc := vc2) rfl (by kernel_rfl) (by kernel_rfl) rfl (by kernel_rfl) (by kernel_rfl) hv2 c238) fun a hr => ?_
      refine ldm (wn rfl) hr (ag_T_plunderlaw2_Move (at_ p2 g236.toNat)) (cs := cl_T_plunderlaw2_Move (at_ p2 g236.toNat)) ⟨hv2.cell c238 (h.dn 12) 0 rfl, hv2.cell c238 (h.dn 12) 1 rfl, hv2.cell c238 (h.dn 12) 2 rfl, hv2.cell c238 (h.dn 12) 3 rfl, hv2.cell c238 (h.dn 12) 4 rfl, trivial⟩ fun a hr => ?_
      refine onew (wn rfl) hr h nb (#[vI 0, vI 0, vI 0, vI 0, vI 0]) 30 fun b239 w a h hr => ?_
      refine stm (wn rfl) hr h 0 (cl_T_plunderlaw2_Move (at_ p2 g236.toNat)) (ob30 b239 (at_ p2 g236.toNat)) fun w h => ?_
      refine ln ?_
      refine sr ?_
      refine o1 hr (vB false) fun a hr => ?_
      refine ln ?_
      obtain ⟨o262, H, hK261⟩ := kd5 H
      refine cut_rule (β := Unit) (fun _ a w => ∃ ca241 : Option Addr, ∃ cc242 : Nat, ∃ ca243 : Option Addr, ∃ cc244 : Nat, ∃ ca246 : Option Addr, ∃ cc247 : Nat, ∃ ca248 : Option Addr, ∃ cc249 : Nat, ∃ ca251 : Option Addr, ∃ cc252 : Nat, ∃ ca253 : Option Addr, ∃ cc254 : Nat, ∃ ca256 : Option Addr, ∃ cc257 : Nat, ∃ ca258 : Option Addr, ∃ cc259 : Nat, ∃ S240 : T_plunderref2_Arena, ∃ S245 : T_plunderref2_Arena, ∃ S250 : T_cells_Arena, ∃ S255 : T_plunderlaw2_book, ∃ g260 : Bool, (S240, S245, S250, S255, g260) = o262 ∧ ∃ j, Rep 141 (lk [(2, .slice va2 p2.length vc2), (3, vB p3), (4, vB p4), (11, pA Bn4 0), (13, pA Bn12 0), (15, pA Bn21 0), (17, pN), (19, pA b198 0), (20, vI g236), (22, vB g260)] j) a ∧ Fit z (sepL (ob62 Bn4 S240 ca241 cc242 ca243 cc244 :: ro2 ca241 cc242 S240.Held :: ro90 ca243 cc244 S240.Book :: ob62 Bn12 S245 ca246 cc247 ca248 cc249 :: ro2 ca246 cc247 S245.Held :: ro90 ca248 cc249 S245.Book :: ob96 Bn21 S250 ca251 cc252 ca253 cc254 :: ro2 ca251 cc252 S250.cell :: ro90 ca253 cc254 S250.log :: ob78 b198 S255 ca256 cc257 ca258 cc259 :: rn139 ca256 cc257 S255.numberLists :: rn142 ca258 cc259 S255.accessLists :: L)) w) ?_ ?_
      ·
       obtain ⟨o265, H, hK264⟩ := kd1 H
       refine cut_rule (β := Unit) (fun _ a w => ∃ g263 : Bool, g263 = o265 ∧ ∃ j, Rep 141 (lk [(2, .slice va2 p2.length vc2), (3, vB p3), (4, vB p4), (11, pA Bn4 0), (13, pA Bn12 0), (15, pA Bn21 0), (17, pN), (19, pA b198 0), (20, vI g236), (21, pA b239 0), (83, vB g263)] j) a ∧ Fit z (sepL (ob62 Bn4 S216 ca217 cc218 ca219 cc220 :: ro2 ca217 cc218 S216.Held :: ro90 ca219 cc220 S216.Book :: ob62 Bn12 S221 ca222 cc223 ca224 cc225 :: ro2 ca222 cc223 S221.Held :: ro90 ca224 cc225 S221.Book :: ob96 Bn21 S226 ca227 cc228 ca229 cc230 :: ro2 ca227 cc228 S226.cell :: ro90 ca229 cc230 S226.log :: ob78 b198 S231 ca232 cc233 ca234 cc235 :: rn139 ca232 cc233 S231.numberLists :: rn142 ca234 cc235 S231.accessLists :: ob30 b239 (at_ p2 g236.toNat) :: L)) w) ?_ ?_
       ·
        refine wp_region_lit ?_
        refine oo [77, 78] [vB p3, vB p3] hr fun a hr => ?_
        by_cases c266 : p3 = true
        ·
         replace H := ifT c266 H
         refine offl (c266) [79, 80, 81, 82] hr fun a hr => ?_
         refine opv (wn rfl) hr (vB true) (rp_t (b := p3) rfl (by kernel_rfl) (c266) (by kernel_rfl)) fun a hr => ?_
         refine ln ?_
         exact ⟨(), true, sinj H, hr.fj (h.se 13 [1, 2, 3, 4, 5, 6, 7, 8, 9, 10, 11, 12, 0])⟩
        ·
         replace H := ifF c266 H
         refine onl (bF c266) [79] [pA b239 0] hr fun a hr => ?_
         refine ld (wgt hr (bF c266)) hr (vI (at_ p2 g236.toNat).Side) (h.cell 0 rfl) fun a hr => ?_
         obtain ⟨r267, e268, H⟩ := bd1 H
         have hc := plunderlaw2_mod_ok (H := e268) (h := h)
         refine cl (wgt hr (bF c266)) hr hc ?_; clear hc h
         rintro _ w ⟨rfl, h⟩; refine ⟨_, rfl, fun a hr => ?_⟩
         refine onl (bF c266) [82] [vB (r267 == 0)] hr fun a hr => ?_
         refine opv (wn rfl) hr (vB (r267 == 0)) (rp_f (b := p3) rfl (by kernel_rfl) (bF c266) (by kernel_rfl)) fun a hr => ?_
         refine ln ?_
         exact ⟨(), (r267 == 0), sinj H, hr.fj (h.se 13 [1, 2, 3, 4, 5, 6, 7, 8, 9, 10, 11, 12, 0])⟩
       clear h hr a; rintro _ a w ⟨g263, rfl, j, hr, h⟩
       replace H := kk1 hK264
       refine cV hr H (fun c269 H => ?_) fun c269 H => ?_
       ·
        refine wp_region_lit ?_
        refine oo [84, 85] [pA Bn21 0, pA Bn4 0] hr fun a hr => ?_
        refine ldm (wn rfl) hr (ag_T_plunderlaw2_Move (at_ p2 g236.toNat)) (cs := cl_T_plunderlaw2_Move (at_ p2 g236.toNat)) ((h.pick 12).held 0 rfl) fun a hr => ?_
        obtain ⟨r270, S271, S272, S273, e274, H⟩ := bd4 H
        refine o1 hr (pA b198 0) fun a hr => ?_
        replace h := h.m11.m11.m11.m5.m5.m5.m11.m11.m11
        have hc := plunderlaw2_plays_ok (H := e274) (h := h)
        refine cl (wn rfl) hr hc ?_; clear hc h
        rintro _ w ⟨caq275, ccq276, caq277, ccq278, caq279, ccq280, caq281, ccq282, caq283, ccq284, caq285, ccq286, rfl, h⟩; refine ⟨_, rfl, fun a hr => ?_⟩
        refine o1 hr (vB r270) fun a hr => ?_
        refine ln ?_
        exact ⟨(), caq279, ccq280, caq281, ccq282, ca222, cc223, ca224, cc225, caq275, ccq276, caq277, ccq278, caq283, ccq284, caq285, ccq286, S272, S221, S271, S273, r270, sinj H, hr.fj (h.se 13 [3, 4, 5, 9, 10, 11, 0, 1, 2, 6, 7, 8])⟩
       ·
        refine wp_region_lit ?_
        refine oo [89, 90] [pN, pA Bn12 0] hr fun a hr => ?_
        refine ldm (wn rfl) hr (ag_T_plunderlaw2_Move (at_ p2 g236.toNat)) (cs := cl_T_plunderlaw2_Move (at_ p2 g236.toNat)) ((h.pick 12).held 0 rfl) fun a hr => ?_
        obtain ⟨r287, S288, S289, e290, H⟩ := bd3 H
        refine o1 hr (pA b198 0) fun a hr => ?_
        replace h := h.m11.m11.m11.m8.m8.m8
        have hc := plunderlaw2_plays_nil_ok (H := e290) (h := h)
        refine cl (wn rfl) hr hc ?_; clear hc h
        rintro _ w ⟨caq291, ccq292, caq293, ccq294, caq295, ccq296, caq297, ccq298, rfl, h⟩; refine ⟨_, rfl, fun a hr => ?_⟩
        refine o1 hr (vB r287) fun a hr => ?_
        refine ln ?_
        exact ⟨(), ca217, cc218, ca219, cc220, caq291, ccq292, caq293, ccq294, ca227, cc228, ca229, cc230, caq295, ccq296, caq297, ccq298, S216, S288, S226, S289, r287, sinj H, hr.fj (h.se 13 [6, 7, 8, 0, 1, 2, 9, 10, 11, 3, 4, 5])⟩
      clear h hr a; rintro _ a w ⟨ca241, cc242, ca243, cc244, ca246, cc247, ca248, cc249, ca251, cc252, ca253, cc254, ca256, cc257, ca258, cc259, S240, S245, S250, S255, g260, rfl, j, hr, h⟩
      replace H := kk5 hK261
      refine wp_seq ?_
      refine sr ?_
      refine oo [94, 95] [vB g260, vB (!g260)] hr fun a hr => ?_
      refine ln ?_
      refine cM hr H (fun c299 H => ?_) fun c299 H => ?_
      ·
       refine wp_skip ?_
       refine then_normal ?_
       refine sr ?_
       refine o1 hr (vB p4) fun a hr => ?_
       refine ln ?_
       refine cV hr H (fun c300 H => ?_) fun c300 H => ?_
       ·
        refine sr ?_
        obtain ⟨r301, e302, H⟩ := bd1 H
        refine o1 hr (pA b198 0) fun a hr => ?_
        replace h := h.m11.m11.m11
        have hc := plunderlaw2_book_stands_ok (H := e302) (h := h)
        refine cl (wn rfl) hr hc ?_; clear hc h
        rintro _ w ⟨rfl, h⟩; refine ⟨_, rfl, fun a hr => ?_⟩
        refine o1 hr (vB r301) fun a hr => ?_
        refine ln ?_
        refine sr ?_
        refine oo [99, 100] [vB r301, vB (!r301)] hr fun a hr => ?_
        refine ln ?_
        refine cM hr H (fun c303 H => ?_) fun c303 H => ?_
        ·
         refine wp_skip ?_
         refine blk_normal ?_
         refine then_normal ?_
         refine wp_region_lit ?_
         refine oo [71, 72, 20] [vI g236, vI (wi (g236 + 1)), vI (wi (g236 + 1))] hr fun a hr => ?_
         refine ln ?_
         exact ⟨_, ⟨ca241, cc242, ca243, cc244, ca246, cc247, ca248, cc249, ca251, cc252, ca253, cc254, ca256, cc257, ca258, cc259, S240, S245, S250, S255, (wi (g236 + 1)), H, hr.fj (h.se 12 [3, 4, 5, 6, 7, 8, 9, 10, 11, 0, 1, 2])⟩, Nat.lt_succ_self _⟩
        ·
         refine sr ?_
         refine o1 hr (vB false) fun a hr => ?_
         refine ln ?_
         refine wp_ret ?_
         refine blk_ret ?_
         refine then_ret ?_
         refine then_ret ?_
         refine blk_ret ?_
         refine then_ret ?_
         refine end_ret1 (v := vB false) rfl hr (by kernel_rfl) ?_
         replace H := jx3 H hK214
         replace H := ej1 H; subst H
         exact ⟨rfl, h.se 12 []⟩
       ·
        refine wp_skip ?_
        refine blk_normal ?_
        refine then_normal ?_
        refine wp_region_lit ?_
        refine oo [71, 72, 20] [vI g236, vI (wi (g236 + 1)), vI (wi (g236 + 1))] hr fun a hr => ?_
        refine ln ?_
        exact ⟨_, ⟨ca241, cc242, ca243, cc244, ca246, cc247, ca248, cc249, ca251, cc252, ca253, cc254, ca256, cc257, ca258, cc259, S240, S245, S250, S255, (wi (g236 + 1)), H, hr.fj h⟩, Nat.lt_succ_self _⟩
      ·
       refine sr ?_
       refine o1 hr (vB false) fun a hr => ?_
       refine ln ?_
       refine wp_ret ?_
       refine then_ret ?_
       refine blk_ret ?_
       refine then_ret ?_
       refine then_ret ?_
       refine blk_ret ?_
       refine then_ret ?_
       refine end_ret1 (v := vB false) rfl hr (by kernel_rfl) ?_
       replace H := jx3 H hK214
       replace H := ej1 H; subst H
       exact ⟨rfl, h.se 12 []⟩
     ·
      refine wp_exit ?_
      refine then_exit ?_
      refine then_exit ?_
      refine blk_here ?_
      refine then_normal ?_
      exact ⟨(), ca217, cc218, ca219, cc220, ca222, cc223, ca224, cc225, ca227, cc228, ca229, cc230, S216, S221, S226, sinj H, hr.fj (h.se 12 [0, 1, 2, 3, 4, 5, 6, 7, 8])⟩
   clear h hr a; rintro _ a w ⟨ca200, cc201, ca202, cc203, ca205, cc206, ca207, cc208, ca210, cc211, ca212, cc213, S199, S204, S209, rfl, j, hr, h⟩
   replace H := jk3 hK214
   refine wp_seq ?_
   refine sr ?_
   refine oo [101, 102, 103] [pA Bn21 0, vB false, vB false] hr fun a hr => ?_
   refine onl (rfl : false = false) [104, 105] [pN, vB true] hr fun a hr => ?_
   refine o1 hr (vB true) fun a hr => ?_
   refine ln ?_
   refine cond_tt hr (b := true) rfl ?_
   refine sr ?_
   refine o1 hr (vB true) fun a hr => ?_
   refine ln ?_
   refine wp_ret ?_
   refine then_ret ?_
   refine end_ret1 (v := vB true) rfl hr (by kernel_rfl) ?_
   replace H := ej1 H; subst H
   exact ⟨rfl, h.se 9 []⟩
 | none =>
  have hc := cells_New_ok1 (H := e19) (h := h)
  refine cl (wn rfl) hr hc ?_; clear hc h
  rintro _ w ⟨rfl, h⟩; refine ⟨_, rfl, fun a hr => ?_⟩
  refine oo [33, 36, 37, 15, 16] [.tuple #[pN, vI r18], pN, vI r18, pN, vI r18] hr fun a hr => ?_
  refine ln ?_
  refine sr ?_
  obtain ⟨r304, r305, e306, H⟩ := bd2 H
  refine o1 hr (vI p1) fun a hr => ?_
  cases r304 with
  | some S307 =>
   have hc := cells_New_ok0 (H := e306) (h := h)
   refine cl (wn rfl) hr hc ?_; clear hc h
   rintro _ w ⟨Bn308, car309, ccr310, car311, ccr312, rfl, h⟩; refine ⟨_, rfl, fun a hr => ?_⟩
   refine oo [38, 41, 42, 17, 18] [.tuple #[pA Bn308 0, vI r305], pA Bn308 0, vI r305, pA Bn308 0, vI r305] hr fun a hr => ?_
   refine ln ?_
   obtain ⟨o314, H, hK313⟩ := jd0 H
   refine cut_rule (β := Unit) (fun _ a w => .inl () = o314 ∧ ∃ j, Rep 141 (lk [(2, .slice va2 p2.length vc2), (3, vB p3), (4, vB p4), (11, pA Bn4 0), (13, pA Bn12 0), (15, pN), (17, pA Bn308 0)] j) a ∧ Fit z (sepL (ob62 Bn4 r1 car5 ccr6 car7 ccr8 :: ro2 car5 ccr6 r1.Held :: ro90 car7 ccr8 r1.Book :: ob62 Bn12 r9 car13 ccr14 car15 ccr16 :: ro2 car13 ccr14 r9.Held :: ro90 car15 ccr16 r9.Book :: ob96 Bn308 S307 car309 ccr310 car311 ccr312 :: ro2 car309 ccr310 S307.cell :: ro90 car311 ccr312 S307.log :: L)) w) ?_ ?_
   ·
    refine sr ?_
    refine oo [43, 44, 45, 46] [vI r18, vI r2, vB (r18 != r2), vB (r18 != r2)] hr fun a hr => ?_
    by_cases c315 : r18 = r2
    ·
     replace H := ifT c315 H
     refine onl (bne_eq_false_iff_eq.mpr c315) [47, 48, 49] [vI r305, vI r10, vB (r305 != r10)] hr fun a hr => ?_
     refine opv (wn rfl) hr (vB (r305 != r10)) (rp_f (b := (r18 != r2)) rfl (by kernel_rfl) (bne_eq_false_iff_eq.mpr c315) (by kernel_rfl)) fun a hr => ?_
     refine o1 hr (vB (r305 != r10)) fun a hr => ?_
     by_cases c316 : r305 = r10
     ·
      replace H := ifT c316 H
      refine onl (bne_eq_false_iff_eq.mpr c316) [52, 53, 54, 55, 56] [pN, vB true, vI r2, vB (r2 != 0), vB (!(true == (r2 != 0)))] hr fun a hr => ?_
      refine opv (wn rfl) hr (vB (!(true == (r2 != 0)))) (rp_f (b := (r305 != r10)) rfl (by kernel_rfl) (bne_eq_false_iff_eq.mpr c316) (by kernel_rfl)) fun a hr => ?_
      refine o1 hr (vB (!(true == (r2 != 0)))) fun a hr => ?_
      by_cases c317 : true = (r2 != 0)
      ·
       replace H := ifT c317 H
       refine onl (show (!(true == (r2 != 0))) = false from (by rw [show (true == (r2 != 0)) = true from (beq_iff_eq.mpr c317)]; rfl)) [59, 60, 61, 62, 63] [pA Bn308 0, vB false, vI r10, vB (r10 != 0), vB (!(false == (r10 != 0)))] hr fun a hr => ?_
       refine opv (wn rfl) hr (vB (!(false == (r10 != 0)))) (rp_f (b := (!(true == (r2 != 0)))) rfl (by kernel_rfl) (by rw [show (true == (r2 != 0)) = true from (beq_iff_eq.mpr c317)]; rfl) (by kernel_rfl)) fun a hr => ?_
       refine ln ?_
       by_cases c318 : false = (r10 != 0)
       ·
        replace H := ifT c318 H
        refine cond_ff hr (b := (!(false == (r10 != 0)))) (by rw [show (false == (r10 != 0)) = true from (beq_iff_eq.mpr c318)]; rfl) ?_
        refine wp_skip ?_
        refine then_normal ?_
        exact ⟨(), sinj H, hr.fj (h.se 9 [6, 7, 8, 3, 4, 5, 0, 1, 2])⟩
       ·
        replace H := ifF c318 H
        refine cond_tt hr (b := (!(false == (r10 != 0)))) (by rw [show (false == (r10 != 0)) = false from (beq_eq_false_iff_ne.mpr c318)]; rfl) ?_
        refine sr ?_
        refine o1 hr (vB false) fun a hr => ?_
        refine ln ?_
        refine wp_ret ?_
        refine then_ret ?_
        refine end_ret1 (v := vB false) rfl hr (by kernel_rfl) ?_
        replace H := jx0 H hK313
        replace H := ej1 H; subst H
        exact ⟨rfl, h.se 9 []⟩
      ·
       replace H := ifF c317 H
       refine offl (show (!(true == (r2 != 0))) = true from (by rw [show (true == (r2 != 0)) = false from (beq_eq_false_iff_ne.mpr c317)]; rfl)) [59, 60, 61, 62, 63] hr fun a hr => ?_
       refine opv (wn rfl) hr (vB true) (rp_t (b := (!(true == (r2 != 0)))) rfl (by kernel_rfl) (by rw [show (true == (r2 != 0)) = false from (beq_eq_false_iff_ne.mpr c317)]; rfl) (by kernel_rfl)) fun a hr => ?_
       refine ln ?_
       refine cond_tt hr (b := true) rfl ?_
       refine sr ?_
       refine o1 hr (vB false) fun a hr => ?_
       refine ln ?_
       refine wp_ret ?_
       refine then_ret ?_
       refine end_ret1 (v := vB false) rfl hr (by kernel_rfl) ?_
       replace H := jx0 H hK313
       replace H := ej1 H; subst H
       exact ⟨rfl, h.se 9 []⟩
     ·
      replace H := ifF c316 H
      refine offl (bne_iff_ne.mpr c316) [52, 53, 54, 55, 56] hr fun a hr => ?_
      refine opv (wn rfl) hr (vB true) (rp_t (b := (r305 != r10)) rfl (by kernel_rfl) (bne_iff_ne.mpr c316) (by kernel_rfl)) fun a hr => ?_
      refine o1 hr (vB true) fun a hr => ?_
      refine offl (rfl : true = true) [59, 60, 61, 62, 63] hr fun a hr => ?_
      refine o1 hr (vB true) fun a hr => ?_
      refine ln ?_
      refine cond_tt hr (b := true) rfl ?_
      refine sr ?_
      refine o1 hr (vB false) fun a hr => ?_
      refine ln ?_
      refine wp_ret ?_
      refine then_ret ?_
      refine end_ret1 (v := vB false) rfl hr (by kernel_rfl) ?_
      replace H := jx0 H hK313
      replace H := ej1 H; subst H
      exact ⟨rfl, h.se 9 []⟩
    ·
     replace H := ifF c315 H
     refine offl (bne_iff_ne.mpr c315) [47, 48, 49] hr fun a hr => ?_
     refine opv (wn rfl) hr (vB true) (rp_t (b := (r18 != r2)) rfl (by kernel_rfl) (bne_iff_ne.mpr c315) (by kernel_rfl)) fun a hr => ?_
     refine o1 hr (vB true) fun a hr => ?_
     refine offl (rfl : true = true) [52, 53, 54, 55, 56] hr fun a hr => ?_
     refine oo [57, 58] [vB true, vB true] hr fun a hr => ?_
     refine offl (rfl : true = true) [59, 60, 61, 62, 63] hr fun a hr => ?_
     refine o1 hr (vB true) fun a hr => ?_
     refine ln ?_
     refine cond_tt hr (b := true) rfl ?_
     refine sr ?_
     refine o1 hr (vB false) fun a hr => ?_
     refine ln ?_
     refine wp_ret ?_
     refine then_ret ?_
     refine end_ret1 (v := vB false) rfl hr (by kernel_rfl) ?_
     replace H := jx0 H hK313
     replace H := ej1 H; subst H
     exact ⟨rfl, h.se 9 []⟩
   clear h hr a; rintro _ a w ⟨rfl, j, hr, h⟩
   replace H := jk0 hK313
   refine sr ?_
   refine o1 hr (.agg #[.slice none 0 0, .slice none 0 0, vI 0]) fun a hr => ?_
   refine onew (wn rfl) hr h nb (#[.slice none 0 0, .slice none 0 0, vI 0]) 78 fun b319 w a h hr => ?_
   refine o1 hr (pA b319 0) fun a hr => ?_
   refine ln ?_
   obtain ⟨o336, H, hK335⟩ := jd3 H
   refine cut_rule (β := Unit) (fun _ a w => ∃ ca321 : Option Addr, ∃ cc322 : Nat, ∃ ca323 : Option Addr, ∃ cc324 : Nat, ∃ ca326 : Option Addr, ∃ cc327 : Nat, ∃ ca328 : Option Addr, ∃ cc329 : Nat, ∃ ca331 : Option Addr, ∃ cc332 : Nat, ∃ ca333 : Option Addr, ∃ cc334 : Nat, ∃ S320 : T_plunderref2_Arena, ∃ S325 : T_plunderref2_Arena, ∃ S330 : T_cells_Arena, .inl (S320, S325, S330) = o336 ∧ ∃ j, Rep 141 (lk [(11, pA Bn4 0), (13, pA Bn12 0), (15, pN), (17, pA Bn308 0)] j) a ∧ Fit z (sepL (ob62 Bn4 S320 ca321 cc322 ca323 cc324 :: ro2 ca321 cc322 S320.Held :: ro90 ca323 cc324 S320.Book :: ob62 Bn12 S325 ca326 cc327 ca328 cc329 :: ro2 ca326 cc327 S325.Held :: ro90 ca328 cc329 S325.Book :: ob96 Bn308 S330 ca331 cc332 ca333 cc334 :: ro2 ca331 cc332 S330.cell :: ro90 ca333 cc334 S330.log :: L)) w) ?_ ?_
   ·
    refine sr ?_
    refine o1 hr (vI 0) fun a hr => ?_
    refine ln ?_
    refine wp_block ?_
    replace h := h.rowN_nil (e := 139) (sz := 5) (own := own_T_plunderlaw2_kept)
    replace h := h.rowN_nil (e := 142) (sz := 5) (own := own_T_plunderlaw2_noted)
    refine loop_rule (β := Nat) id (fun m a w => ∃ ca338 : Option Addr, ∃ cc339 : Nat, ∃ ca340 : Option Addr, ∃ cc341 : Nat, ∃ ca343 : Option Addr, ∃ cc344 : Nat, ∃ ca345 : Option Addr, ∃ cc346 : Nat, ∃ ca348 : Option Addr, ∃ cc349 : Nat, ∃ ca350 : Option Addr, ∃ cc351 : Nat, ∃ ca353 : Option Addr, ∃ cc354 : Nat, ∃ ca355 : Option Addr, ∃ cc356 : Nat, ∃ S337 : T_plunderref2_Arena, ∃ S342 : T_plunderref2_Arena, ∃ S347 : T_cells_Arena, ∃ S352 : T_plunderlaw2_book, ∃ g357 : Int, (plunderlaw2_walk_l3 K p2 p3 p4 m S337 S342 S347 S352 g357) = some o336 ∧ ∃ j, Rep 141 (lk [(2, .slice va2 p2.length vc2), (3, vB p3), (4, vB p4), (11, pA Bn4 0), (13, pA Bn12 0), (15, pN), (17, pA Bn308 0), (19, pA b319 0), (20, vI g357)] j) a ∧ Fit z (sepL (ob62 Bn4 S337 ca338 cc339 ca340 cc341 :: ro2 ca338 cc339 S337.Held :: ro90 ca340 cc341 S337.Book :: ob62 Bn12 S342 ca343 cc344 ca345 cc346 :: ro2 ca343 cc344 S342.Held :: ro90 ca345 cc346 S342.Book :: ob96 Bn308 S347 ca348 cc349 ca350 cc351 :: ro2 ca348 cc349 S347.cell :: ro90 ca350 cc351 S347.log :: ob78 b319 S352 ca353 cc354 ca355 cc356 :: rn139 ca353 cc354 S352.numberLists :: rn142 ca355 cc356 S352.accessLists :: L)) w) K ⟨car5, ccr6, car7, ccr8, car13, ccr14, car15, ccr16, car309, ccr310, car311, ccr312, none, 0, none, 0, r1, r9, S307, (⟨([] : List T_plunderlaw2_kept), ([] : List T_plunderlaw2_noted), 0⟩ : T_plunderlaw2_book), 0, H, hr.fj (h.se 12 [3, 4, 5, 6, 7, 8, 9, 10, 11, 2, 1, 0])⟩ ?_
    clear h hr a H; rintro k3 a w ⟨ca338, cc339, ca340, cc341, ca343, cc344, ca345, cc346, ca348, cc349, ca350, cc351, ca353, cc354, ca355, cc356, S337, S342, S347, S352, g357, H, j, hr, h⟩
    cases k3 with
    | zero => exact absurd H (by simp [plunderlaw2_walk_l3])
    | succ k3 =>
     rw [plunderlaw2_walk_l3] at H
     refine wp_seq ?_
     refine sr ?_
     refine oo [67, 68, 69, 70] [vI g357, .slice va2 p2.length vc2, vI ((p2.length : Nat) : Int), vB (decide (g357 < ((p2.length : Nat) : Int)))] hr fun a hr => ?_
     refine ln ?_
     refine cD hr H (fun c358 H => ?_) fun c358 H => ?_
     ·
      refine wp_skip ?_
      refine then_normal ?_
      refine wp_seq ?_
      refine wp_block ?_
      refine sr ?_
      obtain ⟨c359, H⟩ := gd H
      refine oo [73, 74] [.slice va2 p2.length vc2, vI g357] hr fun a hr => ?_
      refine opv (wn rfl) hr (pA (blk va2) (offs va2 + g357.toNat * 5)) (ri_rd (k := .i64) (E := 30) (cc := vc2) rfl (by kernel_rfl) (by kernel_rfl) rfl (by kernel_rfl) (by kernel_rfl) hv2 c359) fun a hr => ?_
      refine ldm (wn rfl) hr (ag_T_plunderlaw2_Move (at_ p2 g357.toNat)) (cs := cl_T_plunderlaw2_Move (at_ p2 g357.toNat)) ⟨hv2.cell c359 (h.dn 12) 0 rfl, hv2.cell c359 (h.dn 12) 1 rfl, hv2.cell c359 (h.dn 12) 2 rfl, hv2.cell c359 (h.dn 12) 3 rfl, hv2.cell c359 (h.dn 12) 4 rfl, trivial⟩ fun a hr => ?_
      refine onew (wn rfl) hr h nb (#[vI 0, vI 0, vI 0, vI 0, vI 0]) 30 fun b360 w a h hr => ?_
      refine stm (wn rfl) hr h 0 (cl_T_plunderlaw2_Move (at_ p2 g357.toNat)) (ob30 b360 (at_ p2 g357.toNat)) fun w h => ?_
      refine ln ?_
      refine sr ?_
      refine o1 hr (vB false) fun a hr => ?_
      refine ln ?_
      obtain ⟨o383, H, hK382⟩ := kd5 H
      refine cut_rule (β := Unit) (fun _ a w => ∃ ca362 : Option Addr, ∃ cc363 : Nat, ∃ ca364 : Option Addr, ∃ cc365 : Nat, ∃ ca367 : Option Addr, ∃ cc368 : Nat, ∃ ca369 : Option Addr, ∃ cc370 : Nat, ∃ ca372 : Option Addr, ∃ cc373 : Nat, ∃ ca374 : Option Addr, ∃ cc375 : Nat, ∃ ca377 : Option Addr, ∃ cc378 : Nat, ∃ ca379 : Option Addr, ∃ cc380 : Nat, ∃ S361 : T_plunderref2_Arena, ∃ S366 : T_plunderref2_Arena, ∃ S371 : T_cells_Arena, ∃ S376 : T_plunderlaw2_book, ∃ g381 : Bool, (S361, S366, S371, S376, g381) = o383 ∧ ∃ j, Rep 141 (lk [(2, .slice va2 p2.length vc2), (3, vB p3), (4, vB p4), (11, pA Bn4 0), (13, pA Bn12 0), (15, pN), (17, pA Bn308 0), (19, pA b319 0), (20, vI g357), (22, vB g381)] j) a ∧ Fit z (sepL (ob62 Bn4 S361 ca362 cc363 ca364 cc365 :: ro2 ca362 cc363 S361.Held :: ro90 ca364 cc365 S361.Book :: ob62 Bn12 S366 ca367 cc368 ca369 cc370 :: ro2 ca367 cc368 S366.Held :: ro90 ca369 cc370 S366.Book :: ob96 Bn308 S371 ca372 cc373 ca374 cc375 :: ro2 ca372 cc373 S371.cell :: ro90 ca374 cc375 S371.log :: ob78 b319 S376 ca377 cc378 ca379 cc380 :: rn139 ca377 cc378 S376.numberLists :: rn142 ca379 cc380 S376.accessLists :: L)) w) ?_ ?_
      ·
       obtain ⟨o386, H, hK385⟩ := kd1 H
       refine cut_rule (β := Unit) (fun _ a w => ∃ g384 : Bool, g384 = o386 ∧ ∃ j, Rep 141 (lk [(2, .slice va2 p2.length vc2), (3, vB p3), (4, vB p4), (11, pA Bn4 0), (13, pA Bn12 0), (15, pN), (17, pA Bn308 0), (19, pA b319 0), (20, vI g357), (21, pA b360 0), (83, vB g384)] j) a ∧ Fit z (sepL (ob62 Bn4 S337 ca338 cc339 ca340 cc341 :: ro2 ca338 cc339 S337.Held :: ro90 ca340 cc341 S337.Book :: ob62 Bn12 S342 ca343 cc344 ca345 cc346 :: ro2 ca343 cc344 S342.Held :: ro90 ca345 cc346 S342.Book :: ob96 Bn308 S347 ca348 cc349 ca350 cc351 :: ro2 ca348 cc349 S347.cell :: ro90 ca350 cc351 S347.log :: ob78 b319 S352 ca353 cc354 ca355 cc356 :: rn139 ca353 cc354 S352.numberLists :: rn142 ca355 cc356 S352.accessLists :: ob30 b360 (at_ p2 g357.toNat) :: L)) w) ?_ ?_
       ·
        refine wp_region_lit ?_
        refine oo [77, 78] [vB p3, vB p3] hr fun a hr => ?_
        by_cases c387 : p3 = true
        ·
         replace H := ifT c387 H
         refine offl (c387) [79, 80, 81, 82] hr fun a hr => ?_
         refine opv (wn rfl) hr (vB true) (rp_t (b := p3) rfl (by kernel_rfl) (c387) (by kernel_rfl)) fun a hr => ?_
         refine ln ?_
         exact ⟨(), true, sinj H, hr.fj (h.se 13 [1, 2, 3, 4, 5, 6, 7, 8, 9, 10, 11, 12, 0])⟩
        ·
         replace H := ifF c387 H
         refine onl (bF c387) [79] [pA b360 0] hr fun a hr => ?_
         refine ld (wgt hr (bF c387)) hr (vI (at_ p2 g357.toNat).Side) (h.cell 0 rfl) fun a hr => ?_
         obtain ⟨r388, e389, H⟩ := bd1 H
         have hc := plunderlaw2_mod_ok (H := e389) (h := h)
         refine cl (wgt hr (bF c387)) hr hc ?_; clear hc h
         rintro _ w ⟨rfl, h⟩; refine ⟨_, rfl, fun a hr => ?_⟩
         refine onl (bF c387) [82] [vB (r388 == 0)] hr fun a hr => ?_
         refine opv (wn rfl) hr (vB (r388 == 0)) (rp_f (b := p3) rfl (by kernel_rfl) (bF c387) (by kernel_rfl)) fun a hr => ?_
         refine ln ?_
         exact ⟨(), (r388 == 0), sinj H, hr.fj (h.se 13 [1, 2, 3, 4, 5, 6, 7, 8, 9, 10, 11, 12, 0])⟩
       clear h hr a; rintro _ a w ⟨g384, rfl, j, hr, h⟩
       replace H := kk1 hK385
       refine cV hr H (fun c390 H => ?_) fun c390 H => ?_
       ·
        refine wp_region_lit ?_
        refine oo [84, 85] [pN, pA Bn4 0] hr fun a hr => ?_
        refine ldm (wn rfl) hr (ag_T_plunderlaw2_Move (at_ p2 g357.toNat)) (cs := cl_T_plunderlaw2_Move (at_ p2 g357.toNat)) ((h.pick 12).held 0 rfl) fun a hr => ?_
        obtain ⟨r391, S392, S393, e394, H⟩ := bd3 H
        refine o1 hr (pA b319 0) fun a hr => ?_
        replace h := h.m11.m11.m11.m5.m5.m5
        have hc := plunderlaw2_plays_nil_ok (H := e394) (h := h)
        refine cl (wn rfl) hr hc ?_; clear hc h
        rintro _ w ⟨caq395, ccq396, caq397, ccq398, caq399, ccq400, caq401, ccq402, rfl, h⟩; refine ⟨_, rfl, fun a hr => ?_⟩
        refine o1 hr (vB r391) fun a hr => ?_
        refine ln ?_
        exact ⟨(), caq395, ccq396, caq397, ccq398, ca343, cc344, ca345, cc346, ca348, cc349, ca350, cc351, caq399, ccq400, caq401, ccq402, S392, S342, S347, S393, r391, sinj H, hr.fj (h.se 13 [0, 1, 2, 6, 7, 8, 9, 10, 11, 3, 4, 5])⟩
       ·
        refine wp_region_lit ?_
        refine oo [89, 90] [pA Bn308 0, pA Bn12 0] hr fun a hr => ?_
        refine ldm (wn rfl) hr (ag_T_plunderlaw2_Move (at_ p2 g357.toNat)) (cs := cl_T_plunderlaw2_Move (at_ p2 g357.toNat)) ((h.pick 12).held 0 rfl) fun a hr => ?_
        obtain ⟨r403, S404, S405, S406, e407, H⟩ := bd4 H
        refine o1 hr (pA b319 0) fun a hr => ?_
        replace h := h.m11.m11.m11.m8.m8.m8.m11.m11.m11
        have hc := plunderlaw2_plays_ok (H := e407) (h := h)
        refine cl (wn rfl) hr hc ?_; clear hc h
        rintro _ w ⟨caq408, ccq409, caq410, ccq411, caq412, ccq413, caq414, ccq415, caq416, ccq417, caq418, ccq419, rfl, h⟩; refine ⟨_, rfl, fun a hr => ?_⟩
        refine o1 hr (vB r403) fun a hr => ?_
        refine ln ?_
        exact ⟨(), ca338, cc339, ca340, cc341, caq412, ccq413, caq414, ccq415, caq408, ccq409, caq410, ccq411, caq416, ccq417, caq418, ccq419, S337, S405, S404, S406, r403, sinj H, hr.fj (h.se 13 [9, 10, 11, 3, 4, 5, 0, 1, 2, 6, 7, 8])⟩
      clear h hr a; rintro _ a w ⟨ca362, cc363, ca364, cc365, ca367, cc368, ca369, cc370, ca372, cc373, ca374, cc375, ca377, cc378, ca379, cc380, S361, S366, S371, S376, g381, rfl, j, hr, h⟩
      replace H := kk5 hK382
      refine wp_seq ?_
      refine sr ?_
      refine oo [94, 95] [vB g381, vB (!g381)] hr fun a hr => ?_
      refine ln ?_
      refine cM hr H (fun c420 H => ?_) fun c420 H => ?_
      ·
       refine wp_skip ?_
       refine then_normal ?_
       refine sr ?_
       refine o1 hr (vB p4) fun a hr => ?_
       refine ln ?_
       refine cV hr H (fun c421 H => ?_) fun c421 H => ?_
       ·
        refine sr ?_
        obtain ⟨r422, e423, H⟩ := bd1 H
        refine o1 hr (pA b319 0) fun a hr => ?_
        replace h := h.m11.m11.m11
        have hc := plunderlaw2_book_stands_ok (H := e423) (h := h)
        refine cl (wn rfl) hr hc ?_; clear hc h
        rintro _ w ⟨rfl, h⟩; refine ⟨_, rfl, fun a hr => ?_⟩
        refine o1 hr (vB r422) fun a hr => ?_
        refine ln ?_
        refine sr ?_
        refine oo [99, 100] [vB r422, vB (!r422)] hr fun a hr => ?_
        refine ln ?_
        refine cM hr H (fun c424 H => ?_) fun c424 H => ?_
        ·
         refine wp_skip ?_
         refine blk_normal ?_
         refine then_normal ?_
         refine wp_region_lit ?_
         refine oo [71, 72, 20] [vI g357, vI (wi (g357 + 1)), vI (wi (g357 + 1))] hr fun a hr => ?_
         refine ln ?_
         exact ⟨_, ⟨ca362, cc363, ca364, cc365, ca367, cc368, ca369, cc370, ca372, cc373, ca374, cc375, ca377, cc378, ca379, cc380, S361, S366, S371, S376, (wi (g357 + 1)), H, hr.fj (h.se 12 [3, 4, 5, 6, 7, 8, 9, 10, 11, 0, 1, 2])⟩, Nat.lt_succ_self _⟩
        ·
         refine sr ?_
         refine o1 hr (vB false) fun a hr => ?_
         refine ln ?_
         refine wp_ret ?_
         refine blk_ret ?_
         refine then_ret ?_
         refine then_ret ?_
         refine blk_ret ?_
         refine then_ret ?_
         refine end_ret1 (v := vB false) rfl hr (by kernel_rfl) ?_
         replace H := jx3 H hK335
         replace H := ej1 H; subst H
         exact ⟨rfl, h.se 12 []⟩
       ·
        refine wp_skip ?_
        refine blk_normal ?_
        refine then_normal ?_
        refine wp_region_lit ?_
        refine oo [71, 72, 20] [vI g357, vI (wi (g357 + 1)), vI (wi (g357 + 1))] hr fun a hr => ?_
        refine ln ?_
        exact ⟨_, ⟨ca362, cc363, ca364, cc365, ca367, cc368, ca369, cc370, ca372, cc373, ca374, cc375, ca377, cc378, ca379, cc380, S361, S366, S371, S376, (wi (g357 + 1)), H, hr.fj h⟩, Nat.lt_succ_self _⟩
      ·
       refine sr ?_
       refine o1 hr (vB false) fun a hr => ?_
       refine ln ?_
       refine wp_ret ?_
       refine then_ret ?_
       refine blk_ret ?_
       refine then_ret ?_
       refine then_ret ?_
       refine blk_ret ?_
       refine then_ret ?_
       refine end_ret1 (v := vB false) rfl hr (by kernel_rfl) ?_
       replace H := jx3 H hK335
       replace H := ej1 H; subst H
       exact ⟨rfl, h.se 12 []⟩
     ·
      refine wp_exit ?_
      refine then_exit ?_
      refine then_exit ?_
      refine blk_here ?_
      refine then_normal ?_
      exact ⟨(), ca338, cc339, ca340, cc341, ca343, cc344, ca345, cc346, ca348, cc349, ca350, cc351, S337, S342, S347, sinj H, hr.fj (h.se 12 [0, 1, 2, 3, 4, 5, 6, 7, 8])⟩
   clear h hr a; rintro _ a w ⟨ca321, cc322, ca323, cc324, ca326, cc327, ca328, cc329, ca331, cc332, ca333, cc334, S320, S325, S330, rfl, j, hr, h⟩
   replace H := jk3 hK335
   refine wp_seq ?_
   refine sr ?_
   refine oo [101, 102, 103] [pN, vB true, vB true] hr fun a hr => ?_
   refine offl (rfl : true = true) [104, 105] hr fun a hr => ?_
   refine o1 hr (vB true) fun a hr => ?_
   refine ln ?_
   refine cond_tt hr (b := true) rfl ?_
   refine sr ?_
   refine o1 hr (vB true) fun a hr => ?_
   refine ln ?_
   refine wp_ret ?_
   refine then_ret ?_
   refine end_ret1 (v := vB true) rfl hr (by kernel_rfl) ?_
   replace H := ej1 H; subst H
   exact ⟨rfl, h.se 9 []⟩
  | none =>
   have hc := cells_New_ok1 (H := e306) (h := h)
   refine cl (wn rfl) hr hc ?_; clear hc h
   rintro _ w ⟨rfl, h⟩; refine ⟨_, rfl, fun a hr => ?_⟩
   refine oo [38, 41, 42, 17, 18] [.tuple #[pN, vI r305], pN, vI r305, pN, vI r305] hr fun a hr => ?_
   refine ln ?_
   obtain ⟨o426, H, hK425⟩ := jd0 H
   refine cut_rule (β := Unit) (fun _ a w => .inl () = o426 ∧ ∃ j, Rep 141 (lk [(2, .slice va2 p2.length vc2), (3, vB p3), (4, vB p4), (11, pA Bn4 0), (13, pA Bn12 0), (15, pN), (17, pN)] j) a ∧ Fit z (sepL (ob62 Bn4 r1 car5 ccr6 car7 ccr8 :: ro2 car5 ccr6 r1.Held :: ro90 car7 ccr8 r1.Book :: ob62 Bn12 r9 car13 ccr14 car15 ccr16 :: ro2 car13 ccr14 r9.Held :: ro90 car15 ccr16 r9.Book :: L)) w) ?_ ?_
   ·
    refine sr ?_
    refine oo [43, 44, 45, 46] [vI r18, vI r2, vB (r18 != r2), vB (r18 != r2)] hr fun a hr => ?_
    by_cases c427 : r18 = r2
    ·
     replace H := ifT c427 H
     refine onl (bne_eq_false_iff_eq.mpr c427) [47, 48, 49] [vI r305, vI r10, vB (r305 != r10)] hr fun a hr => ?_
     refine opv (wn rfl) hr (vB (r305 != r10)) (rp_f (b := (r18 != r2)) rfl (by kernel_rfl) (bne_eq_false_iff_eq.mpr c427) (by kernel_rfl)) fun a hr => ?_
     refine o1 hr (vB (r305 != r10)) fun a hr => ?_
     by_cases c428 : r305 = r10
     ·
      replace H := ifT c428 H
      refine onl (bne_eq_false_iff_eq.mpr c428) [52, 53, 54, 55, 56] [pN, vB true, vI r2, vB (r2 != 0), vB (!(true == (r2 != 0)))] hr fun a hr => ?_
      refine opv (wn rfl) hr (vB (!(true == (r2 != 0)))) (rp_f (b := (r305 != r10)) rfl (by kernel_rfl) (bne_eq_false_iff_eq.mpr c428) (by kernel_rfl)) fun a hr => ?_
      refine o1 hr (vB (!(true == (r2 != 0)))) fun a hr => ?_
      by_cases c429 : true = (r2 != 0)
      ·
       replace H := ifT c429 H
       refine onl (show (!(true == (r2 != 0))) = false from (by rw [show (true == (r2 != 0)) = true from (beq_iff_eq.mpr c429)]; rfl)) [59, 60, 61, 62, 63] [pN, vB true, vI r10, vB (r10 != 0), vB (!(true == (r10 != 0)))] hr fun a hr => ?_
       refine opv (wn rfl) hr (vB (!(true == (r10 != 0)))) (rp_f (b := (!(true == (r2 != 0)))) rfl (by kernel_rfl) (by rw [show (true == (r2 != 0)) = true from (beq_iff_eq.mpr c429)]; rfl) (by kernel_rfl)) fun a hr => ?_
       refine ln ?_
       by_cases c430 : true = (r10 != 0)
       ·
        replace H := ifT c430 H
        refine cond_ff hr (b := (!(true == (r10 != 0)))) (by rw [show (true == (r10 != 0)) = true from (beq_iff_eq.mpr c430)]; rfl) ?_
        refine wp_skip ?_
        refine then_normal ?_
        exact ⟨(), sinj H, hr.fj (h.se 6 [3, 4, 5, 0, 1, 2])⟩
       ·
        replace H := ifF c430 H
        refine cond_tt hr (b := (!(true == (r10 != 0)))) (by rw [show (true == (r10 != 0)) = false from (beq_eq_false_iff_ne.mpr c430)]; rfl) ?_
        refine sr ?_
        refine o1 hr (vB false) fun a hr => ?_
        refine ln ?_
        refine wp_ret ?_
        refine then_ret ?_
        refine end_ret1 (v := vB false) rfl hr (by kernel_rfl) ?_
        replace H := jx0 H hK425
        replace H := ej1 H; subst H
        exact ⟨rfl, h.se 6 []⟩
      ·
       replace H := ifF c429 H
       refine offl (show (!(true == (r2 != 0))) = true from (by rw [show (true == (r2 != 0)) = false from (beq_eq_false_iff_ne.mpr c429)]; rfl)) [59, 60, 61, 62, 63] hr fun a hr => ?_
       refine opv (wn rfl) hr (vB true) (rp_t (b := (!(true == (r2 != 0)))) rfl (by kernel_rfl) (by rw [show (true == (r2 != 0)) = false from (beq_eq_false_iff_ne.mpr c429)]; rfl) (by kernel_rfl)) fun a hr => ?_
       refine ln ?_
       refine cond_tt hr (b := true) rfl ?_
       refine sr ?_
       refine o1 hr (vB false) fun a hr => ?_
       refine ln ?_
       refine wp_ret ?_
       refine then_ret ?_
       refine end_ret1 (v := vB false) rfl hr (by kernel_rfl) ?_
       replace H := jx0 H hK425
       replace H := ej1 H; subst H
       exact ⟨rfl, h.se 6 []⟩
     ·
      replace H := ifF c428 H
      refine offl (bne_iff_ne.mpr c428) [52, 53, 54, 55, 56] hr fun a hr => ?_
      refine opv (wn rfl) hr (vB true) (rp_t (b := (r305 != r10)) rfl (by kernel_rfl) (bne_iff_ne.mpr c428) (by kernel_rfl)) fun a hr => ?_
      refine o1 hr (vB true) fun a hr => ?_
      refine offl (rfl : true = true) [59, 60, 61, 62, 63] hr fun a hr => ?_
      refine o1 hr (vB true) fun a hr => ?_
      refine ln ?_
      refine cond_tt hr (b := true) rfl ?_
      refine sr ?_
      refine o1 hr (vB false) fun a hr => ?_
      refine ln ?_
      refine wp_ret ?_
      refine then_ret ?_
      refine end_ret1 (v := vB false) rfl hr (by kernel_rfl) ?_
      replace H := jx0 H hK425
      replace H := ej1 H; subst H
      exact ⟨rfl, h.se 6 []⟩
    ·
     replace H := ifF c427 H
     refine offl (bne_iff_ne.mpr c427) [47, 48, 49] hr fun a hr => ?_
     refine opv (wn rfl) hr (vB true) (rp_t (b := (r18 != r2)) rfl (by kernel_rfl) (bne_iff_ne.mpr c427) (by kernel_rfl)) fun a hr => ?_
     refine o1 hr (vB true) fun a hr => ?_
     refine offl (rfl : true = true) [52, 53, 54, 55, 56] hr fun a hr => ?_
     refine oo [57, 58] [vB true, vB true] hr fun a hr => ?_
     refine offl (rfl : true = true) [59, 60, 61, 62, 63] hr fun a hr => ?_
     refine o1 hr (vB true) fun a hr => ?_
     refine ln ?_
     refine cond_tt hr (b := true) rfl ?_
     refine sr ?_
     refine o1 hr (vB false) fun a hr => ?_
     refine ln ?_
     refine wp_ret ?_
     refine then_ret ?_
     refine end_ret1 (v := vB false) rfl hr (by kernel_rfl) ?_
     replace H := jx0 H hK425
     replace H := ej1 H; subst H
     exact ⟨rfl, h.se 6 []⟩
   clear h hr a; rintro _ a w ⟨rfl, j, hr, h⟩
   replace H := jk0 hK425
   refine sr ?_
   refine o1 hr (.agg #[.slice none 0 0, .slice none 0 0, vI 0]) fun a hr => ?_
   refine onew (wn rfl) hr h nb (#[.slice none 0 0, .slice none 0 0, vI 0]) 78 fun b431 w a h hr => ?_
   refine o1 hr (pA b431 0) fun a hr => ?_
   refine ln ?_
   obtain ⟨o443, H, hK442⟩ := jd2 H
   refine cut_rule (β := Unit) (fun _ a w => ∃ ca433 : Option Addr, ∃ cc434 : Nat, ∃ ca435 : Option Addr, ∃ cc436 : Nat, ∃ ca438 : Option Addr, ∃ cc439 : Nat, ∃ ca440 : Option Addr, ∃ cc441 : Nat, ∃ S432 : T_plunderref2_Arena, ∃ S437 : T_plunderref2_Arena, .inl (S432, S437) = o443 ∧ ∃ j, Rep 141 (lk [(11, pA Bn4 0), (13, pA Bn12 0), (15, pN), (17, pN)] j) a ∧ Fit z (sepL (ob62 Bn4 S432 ca433 cc434 ca435 cc436 :: ro2 ca433 cc434 S432.Held :: ro90 ca435 cc436 S432.Book :: ob62 Bn12 S437 ca438 cc439 ca440 cc441 :: ro2 ca438 cc439 S437.Held :: ro90 ca440 cc441 S437.Book :: L)) w) ?_ ?_
   ·
    refine sr ?_
    refine o1 hr (vI 0) fun a hr => ?_
    refine ln ?_
    refine wp_block ?_
    replace h := h.rowN_nil (e := 139) (sz := 5) (own := own_T_plunderlaw2_kept)
    replace h := h.rowN_nil (e := 142) (sz := 5) (own := own_T_plunderlaw2_noted)
    refine loop_rule (β := Nat) id (fun m a w => ∃ ca445 : Option Addr, ∃ cc446 : Nat, ∃ ca447 : Option Addr, ∃ cc448 : Nat, ∃ ca450 : Option Addr, ∃ cc451 : Nat, ∃ ca452 : Option Addr, ∃ cc453 : Nat, ∃ ca455 : Option Addr, ∃ cc456 : Nat, ∃ ca457 : Option Addr, ∃ cc458 : Nat, ∃ S444 : T_plunderref2_Arena, ∃ S449 : T_plunderref2_Arena, ∃ S454 : T_plunderlaw2_book, ∃ g459 : Int, (plunderlaw2_walk_l4 K p2 p3 p4 m S444 S449 S454 g459) = some o443 ∧ ∃ j, Rep 141 (lk [(2, .slice va2 p2.length vc2), (3, vB p3), (4, vB p4), (11, pA Bn4 0), (13, pA Bn12 0), (15, pN), (17, pN), (19, pA b431 0), (20, vI g459)] j) a ∧ Fit z (sepL (ob62 Bn4 S444 ca445 cc446 ca447 cc448 :: ro2 ca445 cc446 S444.Held :: ro90 ca447 cc448 S444.Book :: ob62 Bn12 S449 ca450 cc451 ca452 cc453 :: ro2 ca450 cc451 S449.Held :: ro90 ca452 cc453 S449.Book :: ob78 b431 S454 ca455 cc456 ca457 cc458 :: rn139 ca455 cc456 S454.numberLists :: rn142 ca457 cc458 S454.accessLists :: L)) w) K ⟨car5, ccr6, car7, ccr8, car13, ccr14, car15, ccr16, none, 0, none, 0, r1, r9, (⟨([] : List T_plunderlaw2_kept), ([] : List T_plunderlaw2_noted), 0⟩ : T_plunderlaw2_book), 0, H, hr.fj (h.se 9 [3, 4, 5, 6, 7, 8, 2, 1, 0])⟩ ?_
    clear h hr a H; rintro k4 a w ⟨ca445, cc446, ca447, cc448, ca450, cc451, ca452, cc453, ca455, cc456, ca457, cc458, S444, S449, S454, g459, H, j, hr, h⟩
    cases k4 with
    | zero => exact absurd H (by simp [plunderlaw2_walk_l4])
    | succ k4 =>
     rw [plunderlaw2_walk_l4] at H
     refine wp_seq ?_
     refine sr ?_
     refine oo [67, 68, 69, 70] [vI g459, .slice va2 p2.length vc2, vI ((p2.length : Nat) : Int), vB (decide (g459 < ((p2.length : Nat) : Int)))] hr fun a hr => ?_
     refine ln ?_
     refine cD hr H (fun c460 H => ?_) fun c460 H => ?_
     ·
      refine wp_skip ?_
      refine then_normal ?_
      refine wp_seq ?_
      refine wp_block ?_
      refine sr ?_
      obtain ⟨c461, H⟩ := gd H
      refine oo [73, 74] [.slice va2 p2.length vc2, vI g459] hr fun a hr => ?_
      refine opv (wn rfl) hr (pA (blk va2) (offs va2 + g459.toNat * 5)) (ri_rd (k := .i64) (E := 30) (cc := vc2) rfl (by kernel_rfl) (by kernel_rfl) rfl (by kernel_rfl) (by kernel_rfl) hv2 c461) fun a hr => ?_
      refine ldm (wn rfl) hr (ag_T_plunderlaw2_Move (at_ p2 g459.toNat)) (cs := cl_T_plunderlaw2_Move (at_ p2 g459.toNat)) ⟨hv2.cell c461 (h.dn 9) 0 rfl, hv2.cell c461 (h.dn 9) 1 rfl, hv2.cell c461 (h.dn 9) 2 rfl, hv2.cell c461 (h.dn 9) 3 rfl, hv2.cell c461 (h.dn 9) 4 rfl, trivial⟩ fun a hr => ?_
      refine onew (wn rfl) hr h nb (#[vI 0, vI 0, vI 0, vI 0, vI 0]) 30 fun b462 w a h hr => ?_
      refine stm (wn rfl) hr h 0 (cl_T_plunderlaw2_Move (at_ p2 g459.toNat)) (ob30 b462 (at_ p2 g459.toNat)) fun w h => ?_
      refine ln ?_
      refine sr ?_
      refine o1 hr (vB false) fun a hr => ?_
      refine ln ?_
      obtain ⟨o480, H, hK479⟩ := kd4 H
      refine cut_rule (β := Unit) (fun _ a w => ∃ ca464 : Option Addr, ∃ cc465 : Nat, ∃ ca466 : Option Addr, ∃ cc467 : Nat, ∃ ca469 : Option Addr, ∃ cc470 : Nat, ∃ ca471 : Option Addr, ∃ cc472 : Nat, ∃ ca474 : Option Addr, ∃ cc475 : Nat, ∃ ca476 : Option Addr, ∃ cc477 : Nat, ∃ S463 : T_plunderref2_Arena, ∃ S468 : T_plunderref2_Arena, ∃ S473 : T_plunderlaw2_book, ∃ g478 : Bool, (S463, S468, S473, g478) = o480 ∧ ∃ j, Rep 141 (lk [(2, .slice va2 p2.length vc2), (3, vB p3), (4, vB p4), (11, pA Bn4 0), (13, pA Bn12 0), (15, pN), (17, pN), (19, pA b431 0), (20, vI g459), (22, vB g478)] j) a ∧ Fit z (sepL (ob62 Bn4 S463 ca464 cc465 ca466 cc467 :: ro2 ca464 cc465 S463.Held :: ro90 ca466 cc467 S463.Book :: ob62 Bn12 S468 ca469 cc470 ca471 cc472 :: ro2 ca469 cc470 S468.Held :: ro90 ca471 cc472 S468.Book :: ob78 b431 S473 ca474 cc475 ca476 cc477 :: rn139 ca474 cc475 S473.numberLists :: rn142 ca476 cc477 S473.accessLists :: L)) w) ?_ ?_
      ·
       obtain ⟨o483, H, hK482⟩ := kd1 H
       refine cut_rule (β := Unit) (fun _ a w => ∃ g481 : Bool, g481 = o483 ∧ ∃ j, Rep 141 (lk [(2, .slice va2 p2.length vc2), (3, vB p3), (4, vB p4), (11, pA Bn4 0), (13, pA Bn12 0), (15, pN), (17, pN), (19, pA b431 0), (20, vI g459), (21, pA b462 0), (83, vB g481)] j) a ∧ Fit z (sepL (ob62 Bn4 S444 ca445 cc446 ca447 cc448 :: ro2 ca445 cc446 S444.Held :: ro90 ca447 cc448 S444.Book :: ob62 Bn12 S449 ca450 cc451 ca452 cc453 :: ro2 ca450 cc451 S449.Held :: ro90 ca452 cc453 S449.Book :: ob78 b431 S454 ca455 cc456 ca457 cc458 :: rn139 ca455 cc456 S454.numberLists :: rn142 ca457 cc458 S454.accessLists :: ob30 b462 (at_ p2 g459.toNat) :: L)) w) ?_ ?_
       ·
        refine wp_region_lit ?_
        refine oo [77, 78] [vB p3, vB p3] hr fun a hr => ?_
        by_cases c484 : p3 = true
        ·
         replace H := ifT c484 H
         refine offl (c484) [79, 80, 81, 82] hr fun a hr => ?_
         refine opv (wn rfl) hr (vB true) (rp_t (b := p3) rfl (by kernel_rfl) (c484) (by kernel_rfl)) fun a hr => ?_
         refine ln ?_
         exact ⟨(), true, sinj H, hr.fj (h.se 10 [1, 2, 3, 4, 5, 6, 7, 8, 9, 0])⟩
        ·
         replace H := ifF c484 H
         refine onl (bF c484) [79] [pA b462 0] hr fun a hr => ?_
         refine ld (wgt hr (bF c484)) hr (vI (at_ p2 g459.toNat).Side) (h.cell 0 rfl) fun a hr => ?_
         obtain ⟨r485, e486, H⟩ := bd1 H
         have hc := plunderlaw2_mod_ok (H := e486) (h := h)
         refine cl (wgt hr (bF c484)) hr hc ?_; clear hc h
         rintro _ w ⟨rfl, h⟩; refine ⟨_, rfl, fun a hr => ?_⟩
         refine onl (bF c484) [82] [vB (r485 == 0)] hr fun a hr => ?_
         refine opv (wn rfl) hr (vB (r485 == 0)) (rp_f (b := p3) rfl (by kernel_rfl) (bF c484) (by kernel_rfl)) fun a hr => ?_
         refine ln ?_
         exact ⟨(), (r485 == 0), sinj H, hr.fj (h.se 10 [1, 2, 3, 4, 5, 6, 7, 8, 9, 0])⟩
       clear h hr a; rintro _ a w ⟨g481, rfl, j, hr, h⟩
       replace H := kk1 hK482
       refine cV hr H (fun c487 H => ?_) fun c487 H => ?_
       ·
        refine wp_region_lit ?_
        refine oo [84, 85] [pN, pA Bn4 0] hr fun a hr => ?_
        refine ldm (wn rfl) hr (ag_T_plunderlaw2_Move (at_ p2 g459.toNat)) (cs := cl_T_plunderlaw2_Move (at_ p2 g459.toNat)) ((h.pick 9).held 0 rfl) fun a hr => ?_
        obtain ⟨r488, S489, S490, e491, H⟩ := bd3 H
        refine o1 hr (pA b431 0) fun a hr => ?_
        replace h := h.m8.m8.m8.m5.m5.m5
        have hc := plunderlaw2_plays_nil_ok (H := e491) (h := h)
        refine cl (wn rfl) hr hc ?_; clear hc h
        rintro _ w ⟨caq492, ccq493, caq494, ccq495, caq496, ccq497, caq498, ccq499, rfl, h⟩; refine ⟨_, rfl, fun a hr => ?_⟩
        refine o1 hr (vB r488) fun a hr => ?_
        refine ln ?_
        exact ⟨(), caq492, ccq493, caq494, ccq495, ca450, cc451, ca452, cc453, caq496, ccq497, caq498, ccq499, S489, S449, S490, r488, sinj H, hr.fj (h.se 10 [0, 1, 2, 6, 7, 8, 3, 4, 5])⟩
       ·
        refine wp_region_lit ?_
        refine oo [89, 90] [pN, pA Bn12 0] hr fun a hr => ?_
        refine ldm (wn rfl) hr (ag_T_plunderlaw2_Move (at_ p2 g459.toNat)) (cs := cl_T_plunderlaw2_Move (at_ p2 g459.toNat)) ((h.pick 9).held 0 rfl) fun a hr => ?_
        obtain ⟨r500, S501, S502, e503, H⟩ := bd3 H
        refine o1 hr (pA b431 0) fun a hr => ?_
        replace h := h.m8.m8.m8.m8.m8.m8
        have hc := plunderlaw2_plays_nil_ok (H := e503) (h := h)
        refine cl (wn rfl) hr hc ?_; clear hc h
        rintro _ w ⟨caq504, ccq505, caq506, ccq507, caq508, ccq509, caq510, ccq511, rfl, h⟩; refine ⟨_, rfl, fun a hr => ?_⟩
        refine o1 hr (vB r500) fun a hr => ?_
        refine ln ?_
        exact ⟨(), ca445, cc446, ca447, cc448, caq504, ccq505, caq506, ccq507, caq508, ccq509, caq510, ccq511, S444, S501, S502, r500, sinj H, hr.fj (h.se 10 [6, 7, 8, 0, 1, 2, 3, 4, 5])⟩
      clear h hr a; rintro _ a w ⟨ca464, cc465, ca466, cc467, ca469, cc470, ca471, cc472, ca474, cc475, ca476, cc477, S463, S468, S473, g478, rfl, j, hr, h⟩
      replace H := kk4 hK479
      refine wp_seq ?_
      refine sr ?_
      refine oo [94, 95] [vB g478, vB (!g478)] hr fun a hr => ?_
      refine ln ?_
      refine cM hr H (fun c512 H => ?_) fun c512 H => ?_
      ·
       refine wp_skip ?_
       refine then_normal ?_
       refine sr ?_
       refine o1 hr (vB p4) fun a hr => ?_
       refine ln ?_
       refine cV hr H (fun c513 H => ?_) fun c513 H => ?_
       ·
        refine sr ?_
        obtain ⟨r514, e515, H⟩ := bd1 H
        refine o1 hr (pA b431 0) fun a hr => ?_
        replace h := h.m8.m8.m8
        have hc := plunderlaw2_book_stands_ok (H := e515) (h := h)
        refine cl (wn rfl) hr hc ?_; clear hc h
        rintro _ w ⟨rfl, h⟩; refine ⟨_, rfl, fun a hr => ?_⟩
        refine o1 hr (vB r514) fun a hr => ?_
        refine ln ?_
        refine sr ?_
        refine oo [99, 100] [vB r514, vB (!r514)] hr fun a hr => ?_
        refine ln ?_
        refine cM hr H (fun c516 H => ?_) fun c516 H => ?_
        ·
         refine wp_skip ?_
         refine blk_normal ?_
         refine then_normal ?_
         refine wp_region_lit ?_
         refine oo [71, 72, 20] [vI g459, vI (wi (g459 + 1)), vI (wi (g459 + 1))] hr fun a hr => ?_
         refine ln ?_
         exact ⟨_, ⟨ca464, cc465, ca466, cc467, ca469, cc470, ca471, cc472, ca474, cc475, ca476, cc477, S463, S468, S473, (wi (g459 + 1)), H, hr.fj (h.se 9 [3, 4, 5, 6, 7, 8, 0, 1, 2])⟩, Nat.lt_succ_self _⟩
        ·
         refine sr ?_
         refine o1 hr (vB false) fun a hr => ?_
         refine ln ?_
         refine wp_ret ?_
         refine blk_ret ?_
         refine then_ret ?_
         refine then_ret ?_
         refine blk_ret ?_
         refine then_ret ?_
         refine end_ret1 (v := vB false) rfl hr (by kernel_rfl) ?_
         replace H := jx2 H hK442
         replace H := ej1 H; subst H
         exact ⟨rfl, h.se 9 []⟩
       ·
        refine wp_skip ?_
        refine blk_normal ?_
        refine then_normal ?_
        refine wp_region_lit ?_
        refine oo [71, 72, 20] [vI g459, vI (wi (g459 + 1)), vI (wi (g459 + 1))] hr fun a hr => ?_
        refine ln ?_
        exact ⟨_, ⟨ca464, cc465, ca466, cc467, ca469, cc470, ca471, cc472, ca474, cc475, ca476, cc477, S463, S468, S473, (wi (g459 + 1)), H, hr.fj h⟩, Nat.lt_succ_self _⟩
      ·
       refine sr ?_
       refine o1 hr (vB false) fun a hr => ?_
       refine ln ?_
       refine wp_ret ?_
       refine then_ret ?_
       refine blk_ret ?_
       refine then_ret ?_
       refine then_ret ?_
       refine blk_ret ?_
       refine then_ret ?_
       refine end_ret1 (v := vB false) rfl hr (by kernel_rfl) ?_
       replace H := jx2 H hK442
       replace H := ej1 H; subst H
       exact ⟨rfl, h.se 9 []⟩
     ·
      refine wp_exit ?_
      refine then_exit ?_
      refine then_exit ?_
      refine blk_here ?_
      refine then_normal ?_
      exact ⟨(), ca445, cc446, ca447, cc448, ca450, cc451, ca452, cc453, S444, S449, sinj H, hr.fj (h.se 9 [0, 1, 2, 3, 4, 5])⟩
   clear h hr a; rintro _ a w ⟨ca433, cc434, ca435, cc436, ca438, cc439, ca440, cc441, S432, S437, rfl, j, hr, h⟩
   replace H := jk2 hK442
   refine wp_seq ?_
   refine sr ?_
   refine oo [101, 102, 103] [pN, vB true, vB true] hr fun a hr => ?_
   refine offl (rfl : true = true) [104, 105] hr fun a hr => ?_
   refine o1 hr (vB true) fun a hr => ?_
   refine ln ?_
   refine cond_tt hr (b := true) rfl ?_
   refine sr ?_
   refine o1 hr (vB true) fun a hr => ?_
   refine ln ?_
   refine wp_ret ?_
   refine then_ret ?_
   refine end_ret1 (v := vB true) rfl hr (by kernel_rfl) ?_
   replace H := ej1 H; subst H
   exact ⟨rfl, h.se 6 []⟩

/-- (*plunder/plunderlaw2.Kept).numbers -/
def plunderlaw2_Kept_numbers (K : Nat) (p0 : T_plunderlaw2_Kept) (p1 : List Int) (p2 : List Int) : Option (Bool × T_plunderlaw2_Kept) :=
  if (([] : List Int).length + p2.length) * 8 ≤ 140737488355328 then if (p0.N.length + 1) * 24 ≤ 140737488355328 then if (p0.WantN.length + 1) * 24 ≤ 140737488355328 then ob1 (plunderlaw2_sameNumbers K p1 p2) (fun r21 => some (r21, (⟨p0.N ++ [p1], p0.WantN ++ [([] : List Int) ++ p2], p0.L, p0.WantL, wi (p0.Sum + ((p1.length : Nat) : Int))⟩ : T_plunderlaw2_Kept))) else none else none else none

theorem plunderlaw2_Kept_numbers_ok {z w : World} {L : List HProp} {K : Nat} {p0 q0 : T_plunderlaw2_Kept} {p1 p2 : List Int} {B0 cc2 cc4 cc6 cc8 vc2 : Nat} {ca1 ca3 ca5 ca7 ca9 va2 : Option Addr} {r0 : Bool} (H : plunderlaw2_Kept_numbers K p0 p1 p2 = some (r0, q0)) (h : Fit z (sepL (ob128 B0 p0 ca1 cc2 ca3 cc4 ca5 cc6 ca7 cc8 :: rn28F ca1 cc2 p0.N :: rn28 ca3 cc4 p0.WantN :: rn60F ca5 cc6 p0.L :: rn60 ca7 cc8 p0.WantL :: ro2 ca9 p1.length p1 :: L)) w) (hv2 : RdRow L 1 encZ_i64 va2 p2) :
    Calls Try.prog 101 #[pA B0 0, .slice ca9 p1.length p1.length, .slice va2 p2.length vc2] w fun e w => ∃ caq0_1 ccq0_2 caq0_3 ccq0_4 caq0_5 ccq0_6 caq0_7 ccq0_8, e = .returned (vB r0) ∧ Fit z (sepL (ob128 B0 q0 caq0_1 ccq0_2 caq0_3 ccq0_4 caq0_5 ccq0_6 caq0_7 ccq0_8 :: rn28F caq0_1 ccq0_2 q0.N :: rn28 caq0_3 ccq0_4 q0.WantN :: rn60F caq0_5 ccq0_6 q0.L :: rn60 caq0_7 ccq0_8 q0.WantL :: L)) w := by
 unfold plunderlaw2_Kept_numbers at H
 refine enter Try.func101 rfl 44 rfl rfl [(0, pA B0 0), (1, .slice ca9 p1.length p1.length), (2, .slice va2 p2.length vc2)] ⟨rfl, rfl, rfl, trivial⟩ ?_
 intro j a hr
 refine sr ?_
 refine o1 hr (vB false) fun a hr => ?_
 refine ln ?_
 refine sr ?_
 refine o1 hr (.slice none 0 0) fun a hr => ?_
 refine ln ?_
 refine sr ?_
 refine oo [8, 9] [.slice none 0 0, .slice va2 p2.length vc2] hr fun a hr => ?_
 replace h := h.row_nil (e := 2) (sz := 1) (enc := encZ_i64)
 obtain ⟨c12, H⟩ := gd H
 refine op_append_rd (m0 := 0) (n0 := 0) (va := va2) (c := vc2) (bytes := 8) (wn rfl) rfl rfl hr rfl (by kernel_rfl) (by kernel_rfl) encZ_i64_ok (E := 2) (xs := ([] : List Int)) (by kernel_rfl) (by kernel_rfl) h (news := p2) (RdRow.up 6 hv2) c12 rfl fun ca10 cc11 w a h hr => ?_
 refine o1 hr (.slice ca10 (([] : List Int) ++ p2).length cc11) fun a hr => ?_
 refine ln ?_
 refine sr ?_
 refine oo [11, 12, 13, 14] [pA B0 0, pA B0 0, pA B0 0, pA B0 4] hr fun a hr => ?_
 refine ld (wn rfl) hr (vI p0.Sum) ((h.pick 1).cell 4 rfl) fun a hr => ?_
 refine oo [16, 17, 18, 19, 20] [.slice ca9 p1.length p1.length, vI ((p1.length : Nat) : Int), vI (wi (p0.Sum + ((p1.length : Nat) : Int))), pA B0 0, pA B0 4] hr fun a hr => ?_
 replace h := h.m1
 refine st1 (wn rfl) hr h 4 (vI (wi (p0.Sum + ((p1.length : Nat) : Int)))) (pts B0 (.cells #[.slice ca1 p0.N.length cc2, .slice ca3 p0.WantN.length cc4, .slice ca5 p0.L.length cc6, .slice ca7 p0.WantL.length cc8, vI (wi (p0.Sum + ((p1.length : Nat) : Int)))] 128)) fun w h => ?_
 refine ln ?_
 refine sr ?_
 refine oo [21, 22, 23, 24] [pA B0 0, pA B0 0, pA B0 0, pA B0 0] hr fun a hr => ?_
 refine ld (wn rfl) hr (.slice ca1 p0.N.length cc2) (h.cell 0 rfl) fun a hr => ?_
 refine o1 hr (.slice ca9 p1.length p1.length) fun a hr => ?_
 refine onew (wn rfl) hr h (fun b => .slice (some ⟨b, 0, none⟩) 1 1) (#[.slice ca9 p1.length p1.length]) 28 fun b13 w a h hr => ?_
 obtain ⟨c14, H⟩ := gd H
 replace h := h.m3
 refine op_append_O (n0 := p0.N.length) (c := 1) (bytes := 24) (sz := 1) (E := 28) (wn rfl) hr p1 h (cs := [.slice ca9 p1.length p1.length]) ((h.pick 1).news rfl) c14 fun ca15 cc16 w a h hr => ?_
 refine oo [29, 30] [pA B0 0, pA B0 0] hr fun a hr => ?_
 replace h := h.m2
 refine st1 (wn rfl) hr h 0 (.slice ca15 (p0.N ++ [p1]).length cc16) (pts B0 (.cells #[.slice ca15 (p0.N ++ [p1]).length cc16, .slice ca3 p0.WantN.length cc4, .slice ca5 p0.L.length cc6, .slice ca7 p0.WantL.length cc8, vI (wi (p0.Sum + ((p1.length : Nat) : Int)))] 128)) fun w h => ?_
 refine ln ?_
 refine sr ?_
 refine oo [31, 32, 33, 34] [pA B0 0, pA B0 0, pA B0 0, pA B0 1] hr fun a hr => ?_
 refine ld (wn rfl) hr (.slice ca3 p0.WantN.length cc4) (h.cell 1 rfl) fun a hr => ?_
 refine o1 hr (.slice ca10 (([] : List Int) ++ p2).length cc11) fun a hr => ?_
 refine onew (wn rfl) hr h (fun b => .slice (some ⟨b, 0, none⟩) 1 1) (#[.slice ca10 (([] : List Int) ++ p2).length cc11]) 28 fun b17 w a h hr => ?_
 replace h := h.m4
 replace h := own_sl28_sh (x := (([] : List Int) ++ p2)) h
 obtain ⟨c18, H⟩ := gd H
 replace h := h.m5
 refine op_append_N (n0 := p0.WantN.length) (c := 1) (bytes := 24) (sz := 1) (wn rfl) rfl rfl hr rfl (by kernel_rfl) (by kernel_rfl) (E := 28) (xs := p0.WantN) (by kernel_rfl) (by kernel_rfl) rfl rfl rfl h ((h.pick 2).news rfl) c18 rfl fun ca19 cc20 w a h hr => ?_
 refine oo [39, 40] [pA B0 0, pA B0 1] hr fun a hr => ?_
 replace h := h.m2
 refine st1 (wn rfl) hr h 1 (.slice ca19 (p0.WantN ++ [([] : List Int) ++ p2]).length cc20) (pts B0 (.cells #[.slice ca15 (p0.N ++ [p1]).length cc16, .slice ca19 (p0.WantN ++ [([] : List Int) ++ p2]).length cc20, .slice ca5 p0.L.length cc6, .slice ca7 p0.WantL.length cc8, vI (wi (p0.Sum + ((p1.length : Nat) : Int)))] 128)) fun w h => ?_
 refine ln ?_
 refine sr ?_
 obtain ⟨r21, e22, H⟩ := bd1 H
 refine oo [41, 42] [.slice ca9 p1.length p1.length, .slice va2 p2.length vc2] hr fun a hr => ?_
 have hc := plunderlaw2_sameNumbers_ok (va0 := ca9) (vc0 := p1.length) (va1 := va2) (vc1 := vc2) (hv0 := (RdRow.of_row encZ_i64_ok (h.pick 7) (fun h => (h.pick 7)))) (hv1 := (RdRow.up 8 hv2)) (H := e22) (h := h)
 refine cl (wn rfl) hr hc ?_; clear hc h
 rintro _ w ⟨rfl, h⟩; refine ⟨_, rfl, fun a hr => ?_⟩
 refine o1 hr (vB r21) fun a hr => ?_
 refine ln ?_
 refine wp_ret ?_
 refine end_ret1 (v := vB r21) rfl hr (by kernel_rfl) ?_
 replace h := h.m3.m7
 replace h := own_sl28F_sh (x := p1) h
 replace h := (h.m1).rowH_last
 obtain ⟨rfl, rfl⟩ := ej2 H
 exact ⟨ca15, cc16, ca19, cc20, ca5, cc6, ca7, cc8, rfl, h.se 7 [1, 0, 2, 5, 6]⟩

/-- (*plunder/plunderlaw2.Kept).accesses -/
def plunderlaw2_Kept_accesses (K : Nat) (p0 : T_plunderlaw2_Kept) (p1 : List T_api_Access) (p2 : List T_api_Access) : Option (Bool × T_plunderlaw2_Kept) :=
  if (([] : List T_api_Access).length + p2.length) * 48 ≤ 140737488355328 then if (p0.L.length + 1) * 24 ≤ 140737488355328 then if (p0.WantL.length + 1) * 24 ≤ 140737488355328 then ob1 (plunderlaw2_sameLog K p1 p2) (fun r21 => some (r21, (⟨p0.N, p0.WantN, p0.L ++ [p1], p0.WantL ++ [([] : List T_api_Access) ++ p2], wi (p0.Sum + ((p1.length : Nat) : Int))⟩ : T_plunderlaw2_Kept))) else none else none else none

theorem plunderlaw2_Kept_accesses_ok {z w : World} {L : List HProp} {K : Nat} {p0 q0 : T_plunderlaw2_Kept} {p1 p2 : List T_api_Access} {B0 cc2 cc4 cc6 cc8 vc2 : Nat} {ca1 ca3 ca5 ca7 ca9 va2 : Option Addr} {r0 : Bool} (H : plunderlaw2_Kept_accesses K p0 p1 p2 = some (r0, q0)) (h : Fit z (sepL (ob128 B0 p0 ca1 cc2 ca3 cc4 ca5 cc6 ca7 cc8 :: rn28F ca1 cc2 p0.N :: rn28 ca3 cc4 p0.WantN :: rn60F ca5 cc6 p0.L :: rn60 ca7 cc8 p0.WantL :: ro90 ca9 p1.length p1 :: L)) w) (hv2 : RdRow L 6 enc_T_api_Access va2 p2) :
    Calls Try.prog 102 #[pA B0 0, .slice ca9 p1.length p1.length, .slice va2 p2.length vc2] w fun e w => ∃ caq0_1 ccq0_2 caq0_3 ccq0_4 caq0_5 ccq0_6 caq0_7 ccq0_8, e = .returned (vB r0) ∧ Fit z (sepL (ob128 B0 q0 caq0_1 ccq0_2 caq0_3 ccq0_4 caq0_5 ccq0_6 caq0_7 ccq0_8 :: rn28F caq0_1 ccq0_2 q0.N :: rn28 caq0_3 ccq0_4 q0.WantN :: rn60F caq0_5 ccq0_6 q0.L :: rn60 caq0_7 ccq0_8 q0.WantL :: L)) w := by
 unfold plunderlaw2_Kept_accesses at H
 refine enter Try.func102 rfl 44 rfl rfl [(0, pA B0 0), (1, .slice ca9 p1.length p1.length), (2, .slice va2 p2.length vc2)] ⟨rfl, rfl, rfl, trivial⟩ ?_
 intro j a hr
 refine sr ?_
 refine o1 hr (vB false) fun a hr => ?_
 refine ln ?_
 refine sr ?_
 refine o1 hr (.slice none 0 0) fun a hr => ?_
 refine ln ?_
 refine sr ?_
 refine oo [8, 9] [.slice none 0 0, .slice va2 p2.length vc2] hr fun a hr => ?_
 replace h := h.row_nil (e := 90) (sz := 6) (enc := enc_T_api_Access)
 obtain ⟨c12, H⟩ := gd H
 refine op_append_rd (m0 := 0) (n0 := 0) (va := va2) (c := vc2) (bytes := 48) (wn rfl) rfl rfl hr rfl (by kernel_rfl) (by kernel_rfl) enc_T_api_Access_ok (E := 90) (xs := ([] : List T_api_Access)) (by kernel_rfl) (by kernel_rfl) h (news := p2) (RdRow.up 6 hv2) c12 rfl fun ca10 cc11 w a h hr => ?_
 refine o1 hr (.slice ca10 (([] : List T_api_Access) ++ p2).length cc11) fun a hr => ?_
 refine ln ?_
 refine sr ?_
 refine oo [11, 12, 13, 14] [pA B0 0, pA B0 0, pA B0 0, pA B0 4] hr fun a hr => ?_
 refine ld (wn rfl) hr (vI p0.Sum) ((h.pick 1).cell 4 rfl) fun a hr => ?_
 refine oo [16, 17, 18, 19, 20] [.slice ca9 p1.length p1.length, vI ((p1.length : Nat) : Int), vI (wi (p0.Sum + ((p1.length : Nat) : Int))), pA B0 0, pA B0 4] hr fun a hr => ?_
 replace h := h.m1
 refine st1 (wn rfl) hr h 4 (vI (wi (p0.Sum + ((p1.length : Nat) : Int)))) (pts B0 (.cells #[.slice ca1 p0.N.length cc2, .slice ca3 p0.WantN.length cc4, .slice ca5 p0.L.length cc6, .slice ca7 p0.WantL.length cc8, vI (wi (p0.Sum + ((p1.length : Nat) : Int)))] 128)) fun w h => ?_
 refine ln ?_
 refine sr ?_
 refine oo [21, 22, 23, 24] [pA B0 0, pA B0 0, pA B0 0, pA B0 2] hr fun a hr => ?_
 refine ld (wn rfl) hr (.slice ca5 p0.L.length cc6) (h.cell 2 rfl) fun a hr => ?_
 refine o1 hr (.slice ca9 p1.length p1.length) fun a hr => ?_
 refine onew (wn rfl) hr h (fun b => .slice (some ⟨b, 0, none⟩) 1 1) (#[.slice ca9 p1.length p1.length]) 60 fun b13 w a h hr => ?_
 obtain ⟨c14, H⟩ := gd H
 replace h := h.m5
 refine op_append_O (n0 := p0.L.length) (c := 1) (bytes := 24) (sz := 1) (E := 60) (wn rfl) hr p1 h (cs := [.slice ca9 p1.length p1.length]) ((h.pick 1).news rfl) c14 fun ca15 cc16 w a h hr => ?_
 refine oo [29, 30] [pA B0 0, pA B0 2] hr fun a hr => ?_
 replace h := h.m2
 refine st1 (wn rfl) hr h 2 (.slice ca15 (p0.L ++ [p1]).length cc16) (pts B0 (.cells #[.slice ca1 p0.N.length cc2, .slice ca3 p0.WantN.length cc4, .slice ca15 (p0.L ++ [p1]).length cc16, .slice ca7 p0.WantL.length cc8, vI (wi (p0.Sum + ((p1.length : Nat) : Int)))] 128)) fun w h => ?_
 refine ln ?_
 refine sr ?_
 refine oo [31, 32, 33, 34] [pA B0 0, pA B0 0, pA B0 0, pA B0 3] hr fun a hr => ?_
 refine ld (wn rfl) hr (.slice ca7 p0.WantL.length cc8) (h.cell 3 rfl) fun a hr => ?_
 refine o1 hr (.slice ca10 (([] : List T_api_Access) ++ p2).length cc11) fun a hr => ?_
 refine onew (wn rfl) hr h (fun b => .slice (some ⟨b, 0, none⟩) 1 1) (#[.slice ca10 (([] : List T_api_Access) ++ p2).length cc11]) 60 fun b17 w a h hr => ?_
 replace h := h.m4
 replace h := own_sl60_sh (x := (([] : List T_api_Access) ++ p2)) h
 obtain ⟨c18, H⟩ := gd H
 replace h := h.m7
 refine op_append_N (n0 := p0.WantL.length) (c := 1) (bytes := 24) (sz := 1) (wn rfl) rfl rfl hr rfl (by kernel_rfl) (by kernel_rfl) (E := 60) (xs := p0.WantL) (by kernel_rfl) (by kernel_rfl) rfl rfl rfl h ((h.pick 2).news rfl) c18 rfl fun ca19 cc20 w a h hr => ?_
 refine oo [39, 40] [pA B0 0, pA B0 3] hr fun a hr => ?_
 replace h := h.m2
 refine st1 (wn rfl) hr h 3 (.slice ca19 (p0.WantL ++ [([] : List T_api_Access) ++ p2]).length cc20) (pts B0 (.cells #[.slice ca1 p0.N.length cc2, .slice ca3 p0.WantN.length cc4, .slice ca15 (p0.L ++ [p1]).length cc16, .slice ca19 (p0.WantL ++ [([] : List T_api_Access) ++ p2]).length cc20, vI (wi (p0.Sum + ((p1.length : Nat) : Int)))] 128)) fun w h => ?_
 refine ln ?_
 refine sr ?_
 obtain ⟨r21, e22, H⟩ := bd1 H
 refine oo [41, 42] [.slice ca9 p1.length p1.length, .slice va2 p2.length vc2] hr fun a hr => ?_
 have hc := plunderlaw2_sameLog_ok (va0 := ca9) (vc0 := p1.length) (va1 := va2) (vc1 := vc2) (hv0 := (RdRow.of_row enc_T_api_Access_ok (h.pick 7) (fun h => (h.pick 7)))) (hv1 := (RdRow.up 8 hv2)) (H := e22) (h := h)
 refine cl (wn rfl) hr hc ?_; clear hc h
 rintro _ w ⟨rfl, h⟩; refine ⟨_, rfl, fun a hr => ?_⟩
 refine o1 hr (vB r21) fun a hr => ?_
 refine ln ?_
 refine wp_ret ?_
 refine end_ret1 (v := vB r21) rfl hr (by kernel_rfl) ?_
 replace h := h.m3.m7
 replace h := own_sl60F_sh (x := p1) h
 replace h := (h.m1).rowH_last
 obtain ⟨rfl, rfl⟩ := ej2 H
 exact ⟨ca1, cc2, ca3, cc4, ca15, cc16, ca19, cc20, rfl, h.se 7 [1, 5, 6, 0, 2]⟩

/-- (*plunder/plunderlaw2.Kept).asked -/
def plunderlaw2_Kept_asked (K : Nat) (p0 : T_plunderlaw2_Kept) (p1 : T_cells_Arena) (p2 : T_plunderref2_Arena) : Option (Bool × T_plunderlaw2_Kept) :=
  ob1 (cells_Arena_Cells p1) (fun r17 => ob1 (cells_Arena_Log p1) (fun r20 => ob1 (cells_Arena_Cells p1) (fun r23 => ob1 (cells_Arena_Log p1) (fun r26 => ob2 (plunderlaw2_Kept_numbers K p0 r17 p2.Held) (fun r29 S30 => ob2 (plunderlaw2_Kept_accesses K S30 r20 p2.Book) (fun r40 S41 => ob2 (plunderlaw2_Kept_numbers K S41 r23 p2.Held) (fun r51 S52 => ob2 (plunderlaw2_Kept_accesses K S52 r26 p2.Book) (fun r62 S63 => (if r29 = true then (if r40 = true then (if r51 = true then some (r62, S63) else some (false, S63)) else some (false, S63)) else some (false, S63))))))))))

theorem plunderlaw2_Kept_asked_ok {z w : World} {L : List HProp} {K : Nat} {p0 q0 : T_plunderlaw2_Kept} {p1 : T_cells_Arena} {p2 : T_plunderref2_Arena} {B0 cc2 cc4 cc6 cc8 B1 cc10 cc12 B2 cc14 cc16 : Nat} {ca1 ca3 ca5 ca7 ca9 ca11 ca13 ca15 : Option Addr} {r0 : Bool} (H : plunderlaw2_Kept_asked K p0 p1 p2 = some (r0, q0)) (h : Fit z (sepL (ob128 B0 p0 ca1 cc2 ca3 cc4 ca5 cc6 ca7 cc8 :: rn28F ca1 cc2 p0.N :: rn28 ca3 cc4 p0.WantN :: rn60F ca5 cc6 p0.L :: rn60 ca7 cc8 p0.WantL :: ob96 B1 p1 ca9 cc10 ca11 cc12 :: ro2 ca9 cc10 p1.cell :: ro90 ca11 cc12 p1.log :: ob62 B2 p2 ca13 cc14 ca15 cc16 :: ro2 ca13 cc14 p2.Held :: ro90 ca15 cc16 p2.Book :: L)) w)  :
    Calls Try.prog 71 #[pA B0 0, pA B1 0, pA B2 0] w fun e w => ∃ caq0_1 ccq0_2 caq0_3 ccq0_4 caq0_5 ccq0_6 caq0_7 ccq0_8, e = .returned (vB r0) ∧ Fit z (sepL (ob128 B0 q0 caq0_1 ccq0_2 caq0_3 ccq0_4 caq0_5 ccq0_6 caq0_7 ccq0_8 :: rn28F caq0_1 ccq0_2 q0.N :: rn28 caq0_3 ccq0_4 q0.WantN :: rn60F caq0_5 ccq0_6 q0.L :: rn60 caq0_7 ccq0_8 q0.WantL :: ob96 B1 p1 ca9 cc10 ca11 cc12 :: ro2 ca9 cc10 p1.cell :: ro90 ca11 cc12 p1.log :: ob62 B2 p2 ca13 cc14 ca15 cc16 :: ro2 ca13 cc14 p2.Held :: ro90 ca15 cc16 p2.Book :: L)) w := by
 unfold plunderlaw2_Kept_asked at H
 refine enter Try.func71 rfl 61 rfl rfl [(0, pA B0 0), (1, pA B1 0), (2, pA B2 0)] ⟨rfl, rfl, rfl, trivial⟩ ?_
 intro j a hr
 refine sr ?_
 refine o1 hr (vB false) fun a hr => ?_
 refine ln ?_
 refine sr ?_
 obtain ⟨r17, e18, H⟩ := bd1 H
 refine o1 hr (pA B1 0) fun a hr => ?_
 replace h := h.m7.m7.m7
 have hc := cells_Arena_Cells_ok (H := e18) (h := h)
 refine cl (wn rfl) hr hc ?_; clear hc h
 rintro _ w ⟨car19, rfl, h⟩; refine ⟨_, rfl, fun a hr => ?_⟩
 refine o1 hr (.slice car19 r17.length r17.length) fun a hr => ?_
 refine ln ?_
 refine sr ?_
 obtain ⟨r20, e21, H⟩ := bd1 H
 refine o1 hr (pA B1 0) fun a hr => ?_
 have hc := cells_Arena_Log_ok (H := e21) (h := h)
 refine cl (wn rfl) hr hc ?_; clear hc h
 rintro _ w ⟨car22, rfl, h⟩; refine ⟨_, rfl, fun a hr => ?_⟩
 refine o1 hr (.slice car22 r20.length r20.length) fun a hr => ?_
 refine ln ?_
 refine sr ?_
 obtain ⟨r23, e24, H⟩ := bd1 H
 refine o1 hr (pA B1 0) fun a hr => ?_
 have hc := cells_Arena_Cells_ok (H := e24) (h := h)
 refine cl (wn rfl) hr hc ?_; clear hc h
 rintro _ w ⟨car25, rfl, h⟩; refine ⟨_, rfl, fun a hr => ?_⟩
 refine o1 hr (.slice car25 r23.length r23.length) fun a hr => ?_
 refine ln ?_
 refine sr ?_
 obtain ⟨r26, e27, H⟩ := bd1 H
 refine o1 hr (pA B1 0) fun a hr => ?_
 have hc := cells_Arena_Log_ok (H := e27) (h := h)
 refine cl (wn rfl) hr hc ?_; clear hc h
 rintro _ w ⟨car28, rfl, h⟩; refine ⟨_, rfl, fun a hr => ?_⟩
 refine o1 hr (.slice car28 r26.length r26.length) fun a hr => ?_
 refine ln ?_
 refine sr ?_
 refine oo [23, 24, 25, 26, 27] [pA B0 0, .slice car19 r17.length r17.length, pA B2 0, pA B2 0, pA B2 1] hr fun a hr => ?_
 refine ld (wn rfl) hr (.slice ca13 p2.Held.length cc14) ((h.pick 12).cell 1 rfl) fun a hr => ?_
 obtain ⟨r29, S30, e31, H⟩ := bd2 H
 replace h := h.m6.m11.m11.m11.m11.m11
 have hc := plunderlaw2_Kept_numbers_ok (va2 := ca13) (vc2 := cc14) (hv2 := (RdRow.of_row encZ_i64_ok (h.pick 13) (fun h => (h.pick 7)))) (H := e31) (h := h)
 refine cl (wn rfl) hr hc ?_; clear hc h
 rintro _ w ⟨caq32, ccq33, caq34, ccq35, caq36, ccq37, caq38, ccq39, rfl, h⟩; refine ⟨_, rfl, fun a hr => ?_⟩
 refine o1 hr (vB r29) fun a hr => ?_
 refine ln ?_
 refine sr ?_
 refine oo [30, 31, 32, 33, 34] [pA B0 0, .slice car22 r20.length r20.length, pA B2 0, pA B2 0, pA B2 4] hr fun a hr => ?_
 refine ld (wn rfl) hr (.slice ca15 p2.Book.length cc16) ((h.pick 11).cell 4 rfl) fun a hr => ?_
 obtain ⟨r40, S41, e42, H⟩ := bd2 H
 replace h := h.m10.m5.m5.m5.m5.m5
 have hc := plunderlaw2_Kept_accesses_ok (va2 := ca15) (vc2 := cc16) (hv2 := (RdRow.of_row enc_T_api_Access_ok (h.pick 13) (fun h => (h.pick 7)))) (H := e42) (h := h)
 refine cl (wn rfl) hr hc ?_; clear hc h
 rintro _ w ⟨caq43, ccq44, caq45, ccq46, caq47, ccq48, caq49, ccq50, rfl, h⟩; refine ⟨_, rfl, fun a hr => ?_⟩
 refine o1 hr (vB r40) fun a hr => ?_
 refine ln ?_
 refine sr ?_
 refine oo [37, 38, 39, 40, 41] [pA B0 0, .slice car25 r23.length r23.length, pA B2 0, pA B2 0, pA B2 1] hr fun a hr => ?_
 refine ld (wn rfl) hr (.slice ca13 p2.Held.length cc14) ((h.pick 10).cell 1 rfl) fun a hr => ?_
 obtain ⟨r51, S52, e53, H⟩ := bd2 H
 replace h := h.m9.m5.m5.m5.m5.m5
 have hc := plunderlaw2_Kept_numbers_ok (va2 := ca13) (vc2 := cc14) (hv2 := (RdRow.of_row encZ_i64_ok (h.pick 11) (fun h => (h.pick 5)))) (H := e53) (h := h)
 refine cl (wn rfl) hr hc ?_; clear hc h
 rintro _ w ⟨caq54, ccq55, caq56, ccq57, caq58, ccq59, caq60, ccq61, rfl, h⟩; refine ⟨_, rfl, fun a hr => ?_⟩
 refine o1 hr (vB r51) fun a hr => ?_
 refine ln ?_
 refine sr ?_
 refine oo [44, 45, 46, 47, 48] [pA B0 0, .slice car28 r26.length r26.length, pA B2 0, pA B2 0, pA B2 4] hr fun a hr => ?_
 refine ld (wn rfl) hr (.slice ca15 p2.Book.length cc16) ((h.pick 9).cell 4 rfl) fun a hr => ?_
 obtain ⟨r62, S63, e64, H⟩ := bd2 H
 replace h := h.m8.m5.m5.m5.m5.m5
 have hc := plunderlaw2_Kept_accesses_ok (va2 := ca15) (vc2 := cc16) (hv2 := (RdRow.of_row enc_T_api_Access_ok (h.pick 11) (fun h => (h.pick 5)))) (H := e64) (h := h)
 refine cl (wn rfl) hr hc ?_; clear hc h
 rintro _ w ⟨caq65, ccq66, caq67, ccq68, caq69, ccq70, caq71, ccq72, rfl, h⟩; refine ⟨_, rfl, fun a hr => ?_⟩
 refine o1 hr (vB r62) fun a hr => ?_
 refine ln ?_
 refine sr ?_
 refine oo [51, 52] [vB r29, vB r29] hr fun a hr => ?_
 by_cases c73 : r29 = true
 ·
  replace H := ifT c73 H
  refine onl (c73) [53] [vB r40] hr fun a hr => ?_
  refine opv (wn rfl) hr (vB r40) (rp_t (b := r29) rfl (by kernel_rfl) (c73) (by kernel_rfl)) fun a hr => ?_
  refine o1 hr (vB r40) fun a hr => ?_
  by_cases c74 : r40 = true
  ·
   replace H := ifT c74 H
   refine onl (c74) [56] [vB r51] hr fun a hr => ?_
   refine opv (wn rfl) hr (vB r51) (rp_t (b := r40) rfl (by kernel_rfl) (c74) (by kernel_rfl)) fun a hr => ?_
   refine o1 hr (vB r51) fun a hr => ?_
   by_cases c75 : r51 = true
   ·
    replace H := ifT c75 H
    refine onl (c75) [59] [vB r62] hr fun a hr => ?_
    refine opv (wn rfl) hr (vB r62) (rp_t (b := r51) rfl (by kernel_rfl) (c75) (by kernel_rfl)) fun a hr => ?_
    refine o1 hr (vB r62) fun a hr => ?_
    refine ln ?_
    refine wp_ret ?_
    refine end_ret1 (v := vB r62) rfl hr (by kernel_rfl) ?_
    obtain ⟨rfl, rfl⟩ := ej2 H
    exact ⟨caq65, ccq66, caq67, ccq68, caq69, ccq70, caq71, ccq72, rfl, h⟩
   ·
    replace H := ifF c75 H
    refine offl (bF c75) [59] hr fun a hr => ?_
    refine opv (wn rfl) hr (vB false) (rp_f (b := r51) rfl (by kernel_rfl) (bF c75) (by kernel_rfl)) fun a hr => ?_
    refine o1 hr (vB false) fun a hr => ?_
    refine ln ?_
    refine wp_ret ?_
    refine end_ret1 (v := vB false) rfl hr (by kernel_rfl) ?_
    obtain ⟨rfl, rfl⟩ := ej2 H
    exact ⟨caq65, ccq66, caq67, ccq68, caq69, ccq70, caq71, ccq72, rfl, h⟩
  ·
   replace H := ifF c74 H
   refine offl (bF c74) [56] hr fun a hr => ?_
   refine opv (wn rfl) hr (vB false) (rp_f (b := r40) rfl (by kernel_rfl) (bF c74) (by kernel_rfl)) fun a hr => ?_
   refine o1 hr (vB false) fun a hr => ?_
   refine offl (rfl : false = false) [59] hr fun a hr => ?_
   refine oo [60, 6] [vB false, vB false] hr fun a hr => ?_
   refine ln ?_
   refine wp_ret ?_
   refine end_ret1 (v := vB false) rfl hr (by kernel_rfl) ?_
   obtain ⟨rfl, rfl⟩ := ej2 H
   exact ⟨caq65, ccq66, caq67, ccq68, caq69, ccq70, caq71, ccq72, rfl, h⟩
 ·
  replace H := ifF c73 H
  refine offl (bF c73) [53] hr fun a hr => ?_
  refine opv (wn rfl) hr (vB false) (rp_f (b := r29) rfl (by kernel_rfl) (bF c73) (by kernel_rfl)) fun a hr => ?_
  refine o1 hr (vB false) fun a hr => ?_
  refine offl (rfl : false = false) [56] hr fun a hr => ?_
  refine oo [57, 58] [vB false, vB false] hr fun a hr => ?_
  refine offl (rfl : false = false) [59] hr fun a hr => ?_
  refine oo [60, 6] [vB false, vB false] hr fun a hr => ?_
  refine ln ?_
  refine wp_ret ?_
  refine end_ret1 (v := vB false) rfl hr (by kernel_rfl) ?_
  obtain ⟨rfl, rfl⟩ := ej2 H
  exact ⟨caq65, ccq66, caq67, ccq68, caq69, ccq70, caq71, ccq72, rfl, h⟩

def plunderlaw2_Kept_alone_l1 (K : Nat) (p0 : T_plunderlaw2_Kept) : Nat → Int → Option ((Unit) ⊕ (Bool))
  | 0, _ => none
  | k1 + 1, g11 => (if g11 < ((p0.N.length : Nat) : Int) then if inr_ g11 p0.N.length then if inr_ g11 p0.WantN.length then ob1 (plunderlaw2_sameNumbers K (at_ p0.N g11.toNat) (at_ p0.WantN g11.toNat)) (fun r22 => (if r22 = true then (plunderlaw2_Kept_alone_l1 K p0 k1 (wi (g11 + 1))) else some (.inr false))) else none else none else some (.inl ()))
def plunderlaw2_Kept_alone_l2 (K : Nat) (p0 : T_plunderlaw2_Kept) : Nat → Int → Option ((Unit) ⊕ (Bool))
  | 0, _ => none
  | k2 + 1, g27 => (if g27 < ((p0.L.length : Nat) : Int) then if inr_ g27 p0.L.length then if inr_ g27 p0.WantL.length then ob1 (plunderlaw2_sameLog K (at_ p0.L g27.toNat) (at_ p0.WantL g27.toNat)) (fun r38 => (if r38 = true then (plunderlaw2_Kept_alone_l2 K p0 k2 (wi (g27 + 1))) else some (.inr false))) else none else none else some (.inl ()))
def plunderlaw2_Kept_alone_l3 (K : Nat) (p0 : T_plunderlaw2_Kept) : Nat → Nat → T_plunderlaw2_book → Int → Option (Nat × T_plunderlaw2_book)
  | 0, _, _, _ => none
  | k3 + 1, n50, S51, g56 => (if g56 < ((p0.N.length : Nat) : Int) then if inr_ g56 p0.N.length then if g56.toNat = n50 then ob1 (plunderlaw2_book_numbers K S51 (at_ p0.N g56.toNat)) (fun S63 => (plunderlaw2_Kept_alone_l3 K p0 k3 (g56.toNat + 1) S63 (wi (g56 + 1)))) else none else none else some (n50, S51))
def plunderlaw2_Kept_alone_l4 (K : Nat) (p0 : T_plunderlaw2_Kept) : Nat → Nat → T_plunderlaw2_book → Int → Option (Bool)
  | 0, _, _, _ => none
  | k4 + 1, n69, S70, g75 => (if g75 < ((p0.L.length : Nat) : Int) then if inr_ g75 p0.L.length then if g75.toNat = n69 then ob1 (plunderlaw2_book_accesses K S70 (at_ p0.L g75.toNat)) (fun S82 => (plunderlaw2_Kept_alone_l4 K p0 k4 (g75.toNat + 1) S82 (wi (g75 + 1)))) else none else none else ob1 (plunderlaw2_book_stands K S70) (fun r88 => some r88))
/-- (*plunder/plunderlaw2.Kept).alone -/
def plunderlaw2_Kept_alone (K : Nat) (p0 : T_plunderlaw2_Kept) : Option (Bool) :=
  jn0 ((plunderlaw2_Kept_alone_l1 K p0 K 0)) (jn0 ((plunderlaw2_Kept_alone_l2 K p0 K 0)) (ob2 ((plunderlaw2_Kept_alone_l3 K p0 K 0 (⟨([] : List T_plunderlaw2_kept), ([] : List T_plunderlaw2_noted), 0⟩ : T_plunderlaw2_book) 0)) (fun n42 S43 => (plunderlaw2_Kept_alone_l4 K p0 K 0 S43 0))))

theorem plunderlaw2_Kept_alone_ok {z w : World} {L : List HProp} {K : Nat} {p0 : T_plunderlaw2_Kept} {B0 cc2 cc4 cc6 cc8 : Nat} {ca1 ca3 ca5 ca7 : Option Addr} {r0 : Bool} (H : plunderlaw2_Kept_alone K p0 = some r0) (h : Fit z (sepL (ob128 B0 p0 ca1 cc2 ca3 cc4 ca5 cc6 ca7 cc8 :: rn28F ca1 cc2 p0.N :: rn28 ca3 cc4 p0.WantN :: rn60F ca5 cc6 p0.L :: rn60 ca7 cc8 p0.WantL :: L)) w)  :
    Calls Try.prog 72 #[pA B0 0] w fun e w => e = .returned (vB r0) ∧ Fit z (sepL (L)) w := by
 unfold plunderlaw2_Kept_alone at H
 refine enter Try.func72 rfl 98 rfl rfl [(0, pA B0 0)] ⟨rfl, trivial⟩ ?_
 intro j a hr
 refine sr ?_
 refine o1 hr (vB false) fun a hr => ?_
 refine ln ?_
 obtain ⟨o10, H, hK9⟩ := jd0 H
 refine cut_rule (β := Unit) (fun _ a w => .inl () = o10 ∧ ∃ j, Rep 98 (lk [(0, pA B0 0)] j) a ∧ Fit z (sepL (ob128 B0 p0 ca1 cc2 ca3 cc4 ca5 cc6 ca7 cc8 :: rn28F ca1 cc2 p0.N :: rn28 ca3 cc4 p0.WantN :: rn60F ca5 cc6 p0.L :: rn60 ca7 cc8 p0.WantL :: L)) w) ?_ ?_
 ·
  refine sr ?_
  refine o1 hr (vI 0) fun a hr => ?_
  refine ln ?_
  refine wp_block ?_
  refine loop_rule (β := Nat) id (fun m a w => ∃ g11 : Int, (plunderlaw2_Kept_alone_l1 K p0 m g11) = some o10 ∧ ∃ j, Rep 98 (lk [(0, pA B0 0), (3, vI g11)] j) a ∧ Fit z (sepL (ob128 B0 p0 ca1 cc2 ca3 cc4 ca5 cc6 ca7 cc8 :: rn28F ca1 cc2 p0.N :: rn28 ca3 cc4 p0.WantN :: rn60F ca5 cc6 p0.L :: rn60 ca7 cc8 p0.WantL :: L)) w) K ⟨0, H, hr.fj h⟩ ?_
  clear h hr a H; rintro k1 a w ⟨g11, H, j, hr, h⟩
  cases k1 with
  | zero => exact absurd H (by simp [plunderlaw2_Kept_alone_l1])
  | succ k1 =>
   rw [plunderlaw2_Kept_alone_l1] at H
   refine wp_seq ?_
   refine sr ?_
   refine oo [8, 9, 10, 11] [vI g11, pA B0 0, pA B0 0, pA B0 0] hr fun a hr => ?_
   refine ld (wn rfl) hr (.slice ca1 p0.N.length cc2) (h.cell 0 rfl) fun a hr => ?_
   refine oo [13, 14] [vI ((p0.N.length : Nat) : Int), vB (decide (g11 < ((p0.N.length : Nat) : Int)))] hr fun a hr => ?_
   refine ln ?_
   refine cD hr H (fun c12 H => ?_) fun c12 H => ?_
   ·
    refine wp_skip ?_
    refine then_normal ?_
    refine wp_seq ?_
    refine wp_block ?_
    refine wp_seq ?_
    obtain ⟨c13, H⟩ := gd H
    obtain ⟨cs16, h⟩ := h.m1.rowN_take (at_ok c13)
    obtain ⟨ca14, e15, h⟩ := own_sl28F_op (h.m1); subst e15
    obtain ⟨c17, H⟩ := gd H
    obtain ⟨cs21, h⟩ := h.m3.rowN_take (at_ok c17)
    obtain ⟨ca18, cc19, e20, h⟩ := own_sl28_op (h.m1); subst e20
    obtain ⟨r22, e23, H⟩ := bd1 H
    refine regL [(B0, 0, [.slice ca1 p0.N.length cc2]), (blk ca1, g11.toNat * 1, [.slice ca14 (at_ p0.N g11.toNat).length (at_ p0.N g11.toNat).length]), (B0, 1, [.slice ca3 p0.WantN.length cc4]), (blk ca3, g11.toNat * 1, [.slice ca18 (at_ p0.WantN g11.toNat).length cc19])] [1, 2, 5, 8, 9, 12] 16 h (fun h => ⟨⟨(h.pick 4).cell 0 rfl, trivial⟩, ⟨(h.pick 3).rowH_cell (by decide) (f := 0) rfl, trivial⟩, ⟨(h.pick 4).cell 1 rfl, trivial⟩, ⟨(h.pick 1).rowH_cell (by decide) (f := 0) rfl, trivial⟩, trivial⟩) fun w h hd => ?_
    refine evs' hd 8 [(0, 17, pA B0 0), (1, 18, pA B0 0), (2, 19, pA B0 0), (4, 21, vI g11), (7, 24, pA B0 0), (8, 25, pA B0 0), (9, 26, pA B0 1), (11, 28, vI g11)] hr fun a hr => ?_
    refine elx hd 0 7 3 hr (wn rfl) rfl rfl fun a hr => ?_
    refine eon hd 6 5 rfl (wn rfl) hr (pA (blk ca1) (g11.toNat * 1)) (hrun := fun w => ri_rowH (k := .i64) (E := 28) rfl (by kernel_rfl) (by kernel_rfl) (by kernel_rfl) (by kernel_rfl) (h.pick 3) c13) fun a hr => ?_
    refine elx hd 1 5 6 hr (wn rfl) rfl rfl fun a hr => ?_
    refine elx hd 2 4 10 hr (wn rfl) rfl rfl fun a hr => ?_
    refine eon hd 3 12 rfl (wn rfl) hr (pA (blk ca3) (g11.toNat * 1)) (hrun := fun w => ri_rowH (k := .i64) (E := 28) rfl (by kernel_rfl) (by kernel_rfl) (by kernel_rfl) (by kernel_rfl) (h.pick 1) c17) fun a hr => ?_
    refine elx hd 3 2 13 hr (wn rfl) rfl rfl fun a hr => ?_
    refine eo1 14 rfl ?_
    have hc := plunderlaw2_sameNumbers_ok (va0 := ca14) (vc0 := (at_ p0.N g11.toNat).length) (va1 := ca18) (vc1 := cc19) (hv0 := (RdRow.of_row encZ_i64_ok (h.pick 2) (fun h => (h.pick 2)))) (hv1 := (RdRow.of_row encZ_i64_ok h (fun h => h))) (H := e23) (h := h)
    refine cl (wn rfl) hr hc ?_; clear hc h
    rintro _ w ⟨rfl, h⟩; refine ⟨_, rfl, fun a hr => ?_⟩
    refine ln ?_
    refine xE ?_
    refine evs 0 15 rfl (wn rfl) hr (vB (!r22)) fun a hr => ?_
    refine een ?_
    refine then_normal ?_
    refine cM hr H (fun c24 H => ?_) fun c24 H => ?_
    ·
     refine wp_skip ?_
     refine blk_normal ?_
     refine then_normal ?_
     refine wp_region_lit ?_
     refine oo [15, 16, 3] [vI g11, vI (wi (g11 + 1)), vI (wi (g11 + 1))] hr fun a hr => ?_
     refine ln ?_
     replace h := own_sl28_sh (x := (at_ p0.WantN g11.toNat)) h
     replace h := (h.m1).rowH_same
     replace h := h.m2.m2
     replace h := own_sl28F_sh (x := (at_ p0.N g11.toNat)) h
     replace h := (h.m1).rowH_same
     exact ⟨_, ⟨(wi (g11 + 1)), H, hr.fj (h.se 5 [2, 0, 1, 3, 4])⟩, Nat.lt_succ_self _⟩
    ·
     refine sr ?_
     refine o1 hr (vB false) fun a hr => ?_
     refine ln ?_
     refine wp_ret ?_
     refine blk_ret ?_
     refine then_ret ?_
     refine then_ret ?_
     refine blk_ret ?_
     refine then_ret ?_
     refine end_ret1 (v := vB false) rfl hr (by kernel_rfl) ?_
     replace h := own_sl28_sh (x := (at_ p0.WantN g11.toNat)) h
     replace h := (h.m1).rowH_same
     replace h := h.m2.m2
     replace h := own_sl28F_sh (x := (at_ p0.N g11.toNat)) h
     replace h := (h.m1).rowH_same
     replace H := jx0 H hK9
     replace H := ej1 H; subst H
     exact ⟨rfl, h.se 5 []⟩
   ·
    refine wp_exit ?_
    refine then_exit ?_
    refine then_exit ?_
    refine blk_here ?_
    refine then_normal ?_
    exact ⟨(), sinj H, hr.fj h⟩
 clear h hr a; rintro _ a w ⟨rfl, j, hr, h⟩
 replace H := jk0 hK9
 obtain ⟨o26, H, hK25⟩ := jd0 H
 refine cut_rule (β := Unit) (fun _ a w => .inl () = o26 ∧ ∃ j, Rep 98 (lk [(0, pA B0 0)] j) a ∧ Fit z (sepL (ob128 B0 p0 ca1 cc2 ca3 cc4 ca5 cc6 ca7 cc8 :: rn28F ca1 cc2 p0.N :: rn28 ca3 cc4 p0.WantN :: rn60F ca5 cc6 p0.L :: rn60 ca7 cc8 p0.WantL :: L)) w) ?_ ?_
 ·
  refine sr ?_
  refine o1 hr (vI 0) fun a hr => ?_
  refine ln ?_
  refine wp_block ?_
  refine loop_rule (β := Nat) id (fun m a w => ∃ g27 : Int, (plunderlaw2_Kept_alone_l2 K p0 m g27) = some o26 ∧ ∃ j, Rep 98 (lk [(0, pA B0 0), (4, vI g27)] j) a ∧ Fit z (sepL (ob128 B0 p0 ca1 cc2 ca3 cc4 ca5 cc6 ca7 cc8 :: rn28F ca1 cc2 p0.N :: rn28 ca3 cc4 p0.WantN :: rn60F ca5 cc6 p0.L :: rn60 ca7 cc8 p0.WantL :: L)) w) K ⟨0, H, hr.fj h⟩ ?_
  clear h hr a H; rintro k2 a w ⟨g27, H, j, hr, h⟩
  cases k2 with
  | zero => exact absurd H (by simp [plunderlaw2_Kept_alone_l2])
  | succ k2 =>
   rw [plunderlaw2_Kept_alone_l2] at H
   refine wp_seq ?_
   refine sr ?_
   refine oo [33, 34, 35, 36] [vI g27, pA B0 0, pA B0 0, pA B0 2] hr fun a hr => ?_
   refine ld (wn rfl) hr (.slice ca5 p0.L.length cc6) (h.cell 2 rfl) fun a hr => ?_
   refine oo [38, 39] [vI ((p0.L.length : Nat) : Int), vB (decide (g27 < ((p0.L.length : Nat) : Int)))] hr fun a hr => ?_
   refine ln ?_
   refine cD hr H (fun c28 H => ?_) fun c28 H => ?_
   ·
    refine wp_skip ?_
    refine then_normal ?_
    refine wp_seq ?_
    refine wp_block ?_
    refine wp_seq ?_
    obtain ⟨c29, H⟩ := gd H
    obtain ⟨cs32, h⟩ := h.m3.rowN_take (at_ok c29)
    obtain ⟨ca30, e31, h⟩ := own_sl60F_op (h.m1); subst e31
    obtain ⟨c33, H⟩ := gd H
    obtain ⟨cs37, h⟩ := h.m5.rowN_take (at_ok c33)
    obtain ⟨ca34, cc35, e36, h⟩ := own_sl60_op (h.m1); subst e36
    obtain ⟨r38, e39, H⟩ := bd1 H
    refine regL [(B0, 2, [.slice ca5 p0.L.length cc6]), (blk ca5, g27.toNat * 1, [.slice ca30 (at_ p0.L g27.toNat).length (at_ p0.L g27.toNat).length]), (B0, 3, [.slice ca7 p0.WantL.length cc8]), (blk ca7, g27.toNat * 1, [.slice ca34 (at_ p0.WantL g27.toNat).length cc35])] [1, 2, 5, 8, 9, 12] 16 h (fun h => ⟨⟨(h.pick 4).cell 2 rfl, trivial⟩, ⟨(h.pick 3).rowH_cell (by decide) (f := 0) rfl, trivial⟩, ⟨(h.pick 4).cell 3 rfl, trivial⟩, ⟨(h.pick 1).rowH_cell (by decide) (f := 0) rfl, trivial⟩, trivial⟩) fun w h hd => ?_
    refine evs' hd 8 [(0, 42, pA B0 0), (1, 43, pA B0 0), (2, 44, pA B0 2), (4, 46, vI g27), (7, 49, pA B0 0), (8, 50, pA B0 0), (9, 51, pA B0 3), (11, 53, vI g27)] hr fun a hr => ?_
    refine elx hd 0 7 3 hr (wn rfl) rfl rfl fun a hr => ?_
    refine eon hd 6 5 rfl (wn rfl) hr (pA (blk ca5) (g27.toNat * 1)) (hrun := fun w => ri_rowH (k := .i64) (E := 60) rfl (by kernel_rfl) (by kernel_rfl) (by kernel_rfl) (by kernel_rfl) (h.pick 3) c29) fun a hr => ?_
    refine elx hd 1 5 6 hr (wn rfl) rfl rfl fun a hr => ?_
    refine elx hd 2 4 10 hr (wn rfl) rfl rfl fun a hr => ?_
    refine eon hd 3 12 rfl (wn rfl) hr (pA (blk ca7) (g27.toNat * 1)) (hrun := fun w => ri_rowH (k := .i64) (E := 60) rfl (by kernel_rfl) (by kernel_rfl) (by kernel_rfl) (by kernel_rfl) (h.pick 1) c33) fun a hr => ?_
    refine elx hd 3 2 13 hr (wn rfl) rfl rfl fun a hr => ?_
    refine eo1 14 rfl ?_
    have hc := plunderlaw2_sameLog_ok (va0 := ca30) (vc0 := (at_ p0.L g27.toNat).length) (va1 := ca34) (vc1 := cc35) (hv0 := (RdRow.of_row enc_T_api_Access_ok (h.pick 2) (fun h => (h.pick 2)))) (hv1 := (RdRow.of_row enc_T_api_Access_ok h (fun h => h))) (H := e39) (h := h)
    refine cl (wn rfl) hr hc ?_; clear hc h
    rintro _ w ⟨rfl, h⟩; refine ⟨_, rfl, fun a hr => ?_⟩
    refine ln ?_
    refine xE ?_
    refine evs 0 15 rfl (wn rfl) hr (vB (!r38)) fun a hr => ?_
    refine een ?_
    refine then_normal ?_
    refine cM hr H (fun c40 H => ?_) fun c40 H => ?_
    ·
     refine wp_skip ?_
     refine blk_normal ?_
     refine then_normal ?_
     refine wp_region_lit ?_
     refine oo [40, 41, 4] [vI g27, vI (wi (g27 + 1)), vI (wi (g27 + 1))] hr fun a hr => ?_
     refine ln ?_
     replace h := own_sl60_sh (x := (at_ p0.WantL g27.toNat)) h
     replace h := (h.m1).rowH_same
     replace h := h.m2.m2
     replace h := own_sl60F_sh (x := (at_ p0.L g27.toNat)) h
     replace h := (h.m1).rowH_same
     exact ⟨_, ⟨(wi (g27 + 1)), H, hr.fj (h.se 5 [2, 3, 4, 0, 1])⟩, Nat.lt_succ_self _⟩
    ·
     refine sr ?_
     refine o1 hr (vB false) fun a hr => ?_
     refine ln ?_
     refine wp_ret ?_
     refine blk_ret ?_
     refine then_ret ?_
     refine then_ret ?_
     refine blk_ret ?_
     refine then_ret ?_
     refine end_ret1 (v := vB false) rfl hr (by kernel_rfl) ?_
     replace h := own_sl60_sh (x := (at_ p0.WantL g27.toNat)) h
     replace h := (h.m1).rowH_same
     replace h := h.m2.m2
     replace h := own_sl60F_sh (x := (at_ p0.L g27.toNat)) h
     replace h := (h.m1).rowH_same
     replace H := jx0 H hK25
     replace H := ej1 H; subst H
     exact ⟨rfl, h.se 5 []⟩
   ·
    refine wp_exit ?_
    refine then_exit ?_
    refine then_exit ?_
    refine blk_here ?_
    refine then_normal ?_
    exact ⟨(), sinj H, hr.fj h⟩
 clear h hr a; rintro _ a w ⟨rfl, j, hr, h⟩
 replace H := jk0 hK25
 refine sr ?_
 refine o1 hr (.agg #[.slice none 0 0, .slice none 0 0, vI 0]) fun a hr => ?_
 refine onew (wn rfl) hr h nb (#[.slice none 0 0, .slice none 0 0, vI 0]) 78 fun b41 w a h hr => ?_
 refine o1 hr (pA b41 0) fun a hr => ?_
 refine ln ?_
 obtain ⟨o49, H, hK48⟩ := kd2 H
 refine cut_rule (β := Unit) (fun _ a w => ∃ ca44 : Option Addr, ∃ cc45 : Nat, ∃ ca46 : Option Addr, ∃ cc47 : Nat, ∃ n42 : Nat, ∃ S43 : T_plunderlaw2_book, (n42, S43) = o49 ∧ ∃ j, Rep 98 (lk [(0, pA B0 0), (5, pA b41 0)] j) a ∧ Fit z (sepL (ob128 B0 p0 ca1 cc2 ca3 cc4 ca5 cc6 ca7 cc8 :: rowG 28 1 own_sl28F (.slice ca1 p0.N.length cc2) p0.N n42 :: rn28 ca3 cc4 p0.WantN :: rn60F ca5 cc6 p0.L :: rn60 ca7 cc8 p0.WantL :: ob78 b41 S43 ca44 cc45 ca46 cc47 :: rn139 ca44 cc45 S43.numberLists :: rn142 ca46 cc47 S43.accessLists :: L)) w) ?_ ?_
 ·
  refine sr ?_
  refine o1 hr (vI 0) fun a hr => ?_
  refine ln ?_
  refine wp_block ?_
  replace h := h.m2
  replace h := h.rowG_in
  replace h := h.rowN_nil (e := 139) (sz := 5) (own := own_T_plunderlaw2_kept)
  replace h := h.rowN_nil (e := 142) (sz := 5) (own := own_T_plunderlaw2_noted)
  refine loop_rule (β := Nat) id (fun m a w => ∃ ca52 : Option Addr, ∃ cc53 : Nat, ∃ ca54 : Option Addr, ∃ cc55 : Nat, ∃ n50 : Nat, ∃ S51 : T_plunderlaw2_book, ∃ g56 : Int, (plunderlaw2_Kept_alone_l3 K p0 m n50 S51 g56) = some o49 ∧ ∃ j, Rep 98 (lk [(0, pA B0 0), (5, pA b41 0), (6, vI g56)] j) a ∧ Fit z (sepL (ob128 B0 p0 ca1 cc2 ca3 cc4 ca5 cc6 ca7 cc8 :: rowG 28 1 own_sl28F (.slice ca1 p0.N.length cc2) p0.N n50 :: rn28 ca3 cc4 p0.WantN :: rn60F ca5 cc6 p0.L :: rn60 ca7 cc8 p0.WantL :: ob78 b41 S51 ca52 cc53 ca54 cc55 :: rn139 ca52 cc53 S51.numberLists :: rn142 ca54 cc55 S51.accessLists :: L)) w) K ⟨none, 0, none, 0, 0, (⟨([] : List T_plunderlaw2_kept), ([] : List T_plunderlaw2_noted), 0⟩ : T_plunderlaw2_book), 0, H, hr.fj (h.se 8 [4, 2, 5, 6, 7, 3, 1, 0])⟩ ?_
  clear h hr a H; rintro k3 a w ⟨ca52, cc53, ca54, cc55, n50, S51, g56, H, j, hr, h⟩
  cases k3 with
  | zero => exact absurd H (by simp [plunderlaw2_Kept_alone_l3])
  | succ k3 =>
   rw [plunderlaw2_Kept_alone_l3] at H
   refine wp_seq ?_
   refine sr ?_
   refine oo [60, 61, 62, 63] [vI g56, pA B0 0, pA B0 0, pA B0 0] hr fun a hr => ?_
   refine ld (wn rfl) hr (.slice ca1 p0.N.length cc2) (h.cell 0 rfl) fun a hr => ?_
   refine oo [65, 66] [vI ((p0.N.length : Nat) : Int), vB (decide (g56 < ((p0.N.length : Nat) : Int)))] hr fun a hr => ?_
   refine ln ?_
   refine cD hr H (fun c57 H => ?_) fun c57 H => ?_
   ·
    refine wp_skip ?_
    refine then_normal ?_
    refine wp_seq ?_
    refine wp_block ?_
    refine wp_region_lit ?_
    refine oo [69, 70, 71, 72] [pA b41 0, pA B0 0, pA B0 0, pA B0 0] hr fun a hr => ?_
    refine ld (wn rfl) hr (.slice ca1 p0.N.length cc2) (h.cell 0 rfl) fun a hr => ?_
    obtain ⟨c58, H⟩ := gd H
    refine o1 hr (vI g56) fun a hr => ?_
    refine opv (wn rfl) hr (pA (blk ca1) (g56.toNat * 1)) (ri_rowG (k := .i64) (E := 28) rfl (by kernel_rfl) (by kernel_rfl) (by kernel_rfl) (by kernel_rfl) (h.pick 1) c58) fun a hr => ?_
    obtain ⟨c59, H⟩ := gd H
    obtain ⟨cs62, h⟩ := Fit.rowG_take c59 (at_ok c58) h.m1
    obtain ⟨ca60, e61, h⟩ := own_sl28F_op (h.m1); subst e61
    refine ld (wn rfl) hr (.slice ca60 (at_ p0.N g56.toNat).length (at_ p0.N g56.toNat).length) ((h.pick 1).rowK_cell (by decide) (f := 0) rfl) fun a hr => ?_
    obtain ⟨S63, e64, H⟩ := bd1 H
    replace h := h.m8.m8.m8
    have hc := plunderlaw2_book_numbers_ok (H := e64) (h := h)
    refine cl (wn rfl) hr hc ?_; clear hc h
    rintro _ w ⟨caq65, ccq66, caq67, ccq68, rfl, h⟩; refine ⟨_, rfl, fun a hr => ?_⟩
    refine wpList_nil ?_
    refine blk_normal ?_
    refine then_normal ?_
    refine wp_region_lit ?_
    refine oo [67, 68, 6] [vI g56, vI (wi (g56 + 1)), vI (wi (g56 + 1))] hr fun a hr => ?_
    refine ln ?_
    replace h := h.m3
    replace h := h.rowK_next
    exact ⟨_, ⟨caq65, ccq66, caq67, ccq68, (g56.toNat + 1), S63, (wi (g56 + 1)), H, hr.fj (h.se 8 [4, 0, 5, 6, 7, 1, 2, 3])⟩, Nat.lt_succ_self _⟩
   ·
    refine wp_exit ?_
    refine then_exit ?_
    refine then_exit ?_
    refine blk_here ?_
    refine then_normal ?_
    exact ⟨(), ca52, cc53, ca54, cc55, n50, S51, sinj H, hr.fj h⟩
 clear h hr a; rintro _ a w ⟨ca44, cc45, ca46, cc47, n42, S43, rfl, j, hr, h⟩
 replace H := kk2 hK48
 refine wp_seq ?_
 refine sr ?_
 refine o1 hr (vI 0) fun a hr => ?_
 refine ln ?_
 refine wp_block ?_
 replace h := h.m3
 replace h := h.rowG_in
 refine loop_rule (β := Nat) id (fun m a w => ∃ ca71 : Option Addr, ∃ cc72 : Nat, ∃ ca73 : Option Addr, ∃ cc74 : Nat, ∃ n69 : Nat, ∃ S70 : T_plunderlaw2_book, ∃ g75 : Int, (plunderlaw2_Kept_alone_l4 K p0 m n69 S70 g75) = some r0 ∧ ∃ j, Rep 98 (lk [(0, pA B0 0), (5, pA b41 0), (7, vI g75)] j) a ∧ Fit z (sepL (ob128 B0 p0 ca1 cc2 ca3 cc4 ca5 cc6 ca7 cc8 :: rowG 28 1 own_sl28F (.slice ca1 p0.N.length cc2) p0.N n42 :: rn28 ca3 cc4 p0.WantN :: rowG 60 1 own_sl60F (.slice ca5 p0.L.length cc6) p0.L n69 :: rn60 ca7 cc8 p0.WantL :: ob78 b41 S70 ca71 cc72 ca73 cc74 :: rn139 ca71 cc72 S70.numberLists :: rn142 ca73 cc74 S70.accessLists :: L)) w) K ⟨ca44, cc45, ca46, cc47, 0, S43, 0, H, hr.fj (h.se 8 [1, 2, 3, 0, 4, 5, 6, 7])⟩ ?_
 clear h hr a H; rintro k4 a w ⟨ca71, cc72, ca73, cc74, n69, S70, g75, H, j, hr, h⟩
 cases k4 with
 | zero => exact absurd H (by simp [plunderlaw2_Kept_alone_l4])
 | succ k4 =>
  rw [plunderlaw2_Kept_alone_l4] at H
  refine wp_seq ?_
  refine sr ?_
  refine oo [78, 79, 80, 81] [vI g75, pA B0 0, pA B0 0, pA B0 2] hr fun a hr => ?_
  refine ld (wn rfl) hr (.slice ca5 p0.L.length cc6) (h.cell 2 rfl) fun a hr => ?_
  refine oo [83, 84] [vI ((p0.L.length : Nat) : Int), vB (decide (g75 < ((p0.L.length : Nat) : Int)))] hr fun a hr => ?_
  refine ln ?_
  refine cD hr H (fun c76 H => ?_) fun c76 H => ?_
  ·
   refine wp_skip ?_
   refine then_normal ?_
   refine wp_seq ?_
   refine wp_block ?_
   refine wp_region_lit ?_
   refine oo [87, 88, 89, 90] [pA b41 0, pA B0 0, pA B0 0, pA B0 2] hr fun a hr => ?_
   refine ld (wn rfl) hr (.slice ca5 p0.L.length cc6) (h.cell 2 rfl) fun a hr => ?_
   obtain ⟨c77, H⟩ := gd H
   refine o1 hr (vI g75) fun a hr => ?_
   refine opv (wn rfl) hr (pA (blk ca5) (g75.toNat * 1)) (ri_rowG (k := .i64) (E := 60) rfl (by kernel_rfl) (by kernel_rfl) (by kernel_rfl) (by kernel_rfl) (h.pick 3) c77) fun a hr => ?_
   obtain ⟨c78, H⟩ := gd H
   obtain ⟨cs81, h⟩ := Fit.rowG_take c78 (at_ok c77) h.m3
   obtain ⟨ca79, e80, h⟩ := own_sl60F_op (h.m1); subst e80
   refine ld (wn rfl) hr (.slice ca79 (at_ p0.L g75.toNat).length (at_ p0.L g75.toNat).length) ((h.pick 1).rowK_cell (by decide) (f := 0) rfl) fun a hr => ?_
   obtain ⟨S82, e83, H⟩ := bd1 H
   replace h := h.m8.m8.m8
   have hc := plunderlaw2_book_accesses_ok (H := e83) (h := h)
   refine cl (wn rfl) hr hc ?_; clear hc h
   rintro _ w ⟨caq84, ccq85, caq86, ccq87, rfl, h⟩; refine ⟨_, rfl, fun a hr => ?_⟩
   refine wpList_nil ?_
   refine blk_normal ?_
   refine then_normal ?_
   refine wp_region_lit ?_
   refine oo [85, 86, 7] [vI g75, vI (wi (g75 + 1)), vI (wi (g75 + 1))] hr fun a hr => ?_
   refine ln ?_
   replace h := h.m3
   replace h := h.rowK_next
   exact ⟨_, ⟨caq84, ccq85, caq86, ccq87, (g75.toNat + 1), S82, (wi (g75 + 1)), H, hr.fj (h.se 8 [4, 5, 6, 0, 7, 1, 2, 3])⟩, Nat.lt_succ_self _⟩
  ·
   refine wp_exit ?_
   refine then_exit ?_
   refine then_exit ?_
   refine blk_here ?_
   refine then_normal ?_
   refine sr ?_
   obtain ⟨r88, e89, H⟩ := bd1 H
   refine o1 hr (pA b41 0) fun a hr => ?_
   replace h := h.m7.m7.m7
   have hc := plunderlaw2_book_stands_ok (H := e89) (h := h)
   refine cl (wn rfl) hr hc ?_; clear hc h
   rintro _ w ⟨rfl, h⟩; refine ⟨_, rfl, fun a hr => ?_⟩
   refine o1 hr (vB r88) fun a hr => ?_
   refine ln ?_
   refine wp_ret ?_
   refine end_ret1 (v := vB r88) rfl hr (by kernel_rfl) ?_
   replace H := ej1 H; subst H
   exact ⟨rfl, h.se 8 []⟩

/-- (*plunder/plunderlaw2.Kept).asked -/
def plunderlaw2_Kept_asked_nil (K : Nat) (p0 : T_plunderlaw2_Kept) (p2 : T_plunderref2_Arena) : Option (Bool × T_plunderlaw2_Kept) :=
  ob1 (cells_Arena_Cells_nil) (fun r13 => ob1 (cells_Arena_Log_nil) (fun r16 => ob1 (cells_Arena_Cells_nil) (fun r19 => ob1 (cells_Arena_Log_nil) (fun r22 => ob2 (plunderlaw2_Kept_numbers K p0 r13 p2.Held) (fun r25 S26 => ob2 (plunderlaw2_Kept_accesses K S26 r16 p2.Book) (fun r36 S37 => ob2 (plunderlaw2_Kept_numbers K S37 r19 p2.Held) (fun r47 S48 => ob2 (plunderlaw2_Kept_accesses K S48 r22 p2.Book) (fun r58 S59 => (if r25 = true then (if r36 = true then (if r47 = true then some (r58, S59) else some (false, S59)) else some (false, S59)) else some (false, S59))))))))))

theorem plunderlaw2_Kept_asked_nil_ok {z w : World} {L : List HProp} {K : Nat} {p0 q0 : T_plunderlaw2_Kept} {p2 : T_plunderref2_Arena} {B0 cc2 cc4 cc6 cc8 B2 cc10 cc12 : Nat} {ca1 ca3 ca5 ca7 ca9 ca11 : Option Addr} {r0 : Bool} (H : plunderlaw2_Kept_asked_nil K p0 p2 = some (r0, q0)) (h : Fit z (sepL (ob128 B0 p0 ca1 cc2 ca3 cc4 ca5 cc6 ca7 cc8 :: rn28F ca1 cc2 p0.N :: rn28 ca3 cc4 p0.WantN :: rn60F ca5 cc6 p0.L :: rn60 ca7 cc8 p0.WantL :: ob62 B2 p2 ca9 cc10 ca11 cc12 :: ro2 ca9 cc10 p2.Held :: ro90 ca11 cc12 p2.Book :: L)) w)  :
    Calls Try.prog 71 #[pA B0 0, pN, pA B2 0] w fun e w => ∃ caq0_1 ccq0_2 caq0_3 ccq0_4 caq0_5 ccq0_6 caq0_7 ccq0_8, e = .returned (vB r0) ∧ Fit z (sepL (ob128 B0 q0 caq0_1 ccq0_2 caq0_3 ccq0_4 caq0_5 ccq0_6 caq0_7 ccq0_8 :: rn28F caq0_1 ccq0_2 q0.N :: rn28 caq0_3 ccq0_4 q0.WantN :: rn60F caq0_5 ccq0_6 q0.L :: rn60 caq0_7 ccq0_8 q0.WantL :: ob62 B2 p2 ca9 cc10 ca11 cc12 :: ro2 ca9 cc10 p2.Held :: ro90 ca11 cc12 p2.Book :: L)) w := by
 unfold plunderlaw2_Kept_asked_nil at H
 refine enter Try.func71 rfl 61 rfl rfl [(0, pA B0 0), (1, pN), (2, pA B2 0)] ⟨rfl, rfl, rfl, trivial⟩ ?_
 intro j a hr
 refine sr ?_
 refine o1 hr (vB false) fun a hr => ?_
 refine ln ?_
 refine sr ?_
 obtain ⟨r13, e14, H⟩ := bd1 H
 refine o1 hr (pN) fun a hr => ?_
 have hc := cells_Arena_Cells_nil_ok (H := e14) (h := h)
 refine cl (wn rfl) hr hc ?_; clear hc h
 rintro _ w ⟨car15, rfl, h⟩; refine ⟨_, rfl, fun a hr => ?_⟩
 refine o1 hr (.slice car15 r13.length r13.length) fun a hr => ?_
 refine ln ?_
 refine sr ?_
 obtain ⟨r16, e17, H⟩ := bd1 H
 refine o1 hr (pN) fun a hr => ?_
 have hc := cells_Arena_Log_nil_ok (H := e17) (h := h)
 refine cl (wn rfl) hr hc ?_; clear hc h
 rintro _ w ⟨car18, rfl, h⟩; refine ⟨_, rfl, fun a hr => ?_⟩
 refine o1 hr (.slice car18 r16.length r16.length) fun a hr => ?_
 refine ln ?_
 refine sr ?_
 obtain ⟨r19, e20, H⟩ := bd1 H
 refine o1 hr (pN) fun a hr => ?_
 have hc := cells_Arena_Cells_nil_ok (H := e20) (h := h)
 refine cl (wn rfl) hr hc ?_; clear hc h
 rintro _ w ⟨car21, rfl, h⟩; refine ⟨_, rfl, fun a hr => ?_⟩
 refine o1 hr (.slice car21 r19.length r19.length) fun a hr => ?_
 refine ln ?_
 refine sr ?_
 obtain ⟨r22, e23, H⟩ := bd1 H
 refine o1 hr (pN) fun a hr => ?_
 have hc := cells_Arena_Log_nil_ok (H := e23) (h := h)
 refine cl (wn rfl) hr hc ?_; clear hc h
 rintro _ w ⟨car24, rfl, h⟩; refine ⟨_, rfl, fun a hr => ?_⟩
 refine o1 hr (.slice car24 r22.length r22.length) fun a hr => ?_
 refine ln ?_
 refine sr ?_
 refine oo [23, 24, 25, 26, 27] [pA B0 0, .slice car15 r13.length r13.length, pA B2 0, pA B2 0, pA B2 1] hr fun a hr => ?_
 refine ld (wn rfl) hr (.slice ca9 p2.Held.length cc10) ((h.pick 9).cell 1 rfl) fun a hr => ?_
 obtain ⟨r25, S26, e27, H⟩ := bd2 H
 replace h := h.m3.m8.m8.m8.m8.m8
 have hc := plunderlaw2_Kept_numbers_ok (va2 := ca9) (vc2 := cc10) (hv2 := (RdRow.of_row encZ_i64_ok (h.pick 10) (fun h => (h.pick 4)))) (H := e27) (h := h)
 refine cl (wn rfl) hr hc ?_; clear hc h
 rintro _ w ⟨caq28, ccq29, caq30, ccq31, caq32, ccq33, caq34, ccq35, rfl, h⟩; refine ⟨_, rfl, fun a hr => ?_⟩
 refine o1 hr (vB r25) fun a hr => ?_
 refine ln ?_
 refine sr ?_
 refine oo [30, 31, 32, 33, 34] [pA B0 0, .slice car18 r16.length r16.length, pA B2 0, pA B2 0, pA B2 4] hr fun a hr => ?_
 refine ld (wn rfl) hr (.slice ca11 p2.Book.length cc12) ((h.pick 8).cell 4 rfl) fun a hr => ?_
 obtain ⟨r36, S37, e38, H⟩ := bd2 H
 replace h := h.m7.m5.m5.m5.m5.m5
 have hc := plunderlaw2_Kept_accesses_ok (va2 := ca11) (vc2 := cc12) (hv2 := (RdRow.of_row enc_T_api_Access_ok (h.pick 10) (fun h => (h.pick 4)))) (H := e38) (h := h)
 refine cl (wn rfl) hr hc ?_; clear hc h
 rintro _ w ⟨caq39, ccq40, caq41, ccq42, caq43, ccq44, caq45, ccq46, rfl, h⟩; refine ⟨_, rfl, fun a hr => ?_⟩
 refine o1 hr (vB r36) fun a hr => ?_
 refine ln ?_
 refine sr ?_
 refine oo [37, 38, 39, 40, 41] [pA B0 0, .slice car21 r19.length r19.length, pA B2 0, pA B2 0, pA B2 1] hr fun a hr => ?_
 refine ld (wn rfl) hr (.slice ca9 p2.Held.length cc10) ((h.pick 7).cell 1 rfl) fun a hr => ?_
 obtain ⟨r47, S48, e49, H⟩ := bd2 H
 replace h := h.m6.m5.m5.m5.m5.m5
 have hc := plunderlaw2_Kept_numbers_ok (va2 := ca9) (vc2 := cc10) (hv2 := (RdRow.of_row encZ_i64_ok (h.pick 8) (fun h => (h.pick 2)))) (H := e49) (h := h)
 refine cl (wn rfl) hr hc ?_; clear hc h
 rintro _ w ⟨caq50, ccq51, caq52, ccq53, caq54, ccq55, caq56, ccq57, rfl, h⟩; refine ⟨_, rfl, fun a hr => ?_⟩
 refine o1 hr (vB r47) fun a hr => ?_
 refine ln ?_
 refine sr ?_
 refine oo [44, 45, 46, 47, 48] [pA B0 0, .slice car24 r22.length r22.length, pA B2 0, pA B2 0, pA B2 4] hr fun a hr => ?_
 refine ld (wn rfl) hr (.slice ca11 p2.Book.length cc12) ((h.pick 6).cell 4 rfl) fun a hr => ?_
 obtain ⟨r58, S59, e60, H⟩ := bd2 H
 have hc := plunderlaw2_Kept_accesses_ok (va2 := ca11) (vc2 := cc12) (hv2 := (RdRow.of_row enc_T_api_Access_ok (h.pick 8) (fun h => (h.pick 2)))) (H := e60) (h := h)
 refine cl (wn rfl) hr hc ?_; clear hc h
 rintro _ w ⟨caq61, ccq62, caq63, ccq64, caq65, ccq66, caq67, ccq68, rfl, h⟩; refine ⟨_, rfl, fun a hr => ?_⟩
 refine o1 hr (vB r58) fun a hr => ?_
 refine ln ?_
 refine sr ?_
 refine oo [51, 52] [vB r25, vB r25] hr fun a hr => ?_
 by_cases c69 : r25 = true
 ·
  replace H := ifT c69 H
  refine onl (c69) [53] [vB r36] hr fun a hr => ?_
  refine opv (wn rfl) hr (vB r36) (rp_t (b := r25) rfl (by kernel_rfl) (c69) (by kernel_rfl)) fun a hr => ?_
  refine o1 hr (vB r36) fun a hr => ?_
  by_cases c70 : r36 = true
  ·
   replace H := ifT c70 H
   refine onl (c70) [56] [vB r47] hr fun a hr => ?_
   refine opv (wn rfl) hr (vB r47) (rp_t (b := r36) rfl (by kernel_rfl) (c70) (by kernel_rfl)) fun a hr => ?_
   refine o1 hr (vB r47) fun a hr => ?_
   by_cases c71 : r47 = true
   ·
    replace H := ifT c71 H
    refine onl (c71) [59] [vB r58] hr fun a hr => ?_
    refine opv (wn rfl) hr (vB r58) (rp_t (b := r47) rfl (by kernel_rfl) (c71) (by kernel_rfl)) fun a hr => ?_
    refine o1 hr (vB r58) fun a hr => ?_
    refine ln ?_
    refine wp_ret ?_
    refine end_ret1 (v := vB r58) rfl hr (by kernel_rfl) ?_
    obtain ⟨rfl, rfl⟩ := ej2 H
    exact ⟨caq61, ccq62, caq63, ccq64, caq65, ccq66, caq67, ccq68, rfl, h⟩
   ·
    replace H := ifF c71 H
    refine offl (bF c71) [59] hr fun a hr => ?_
    refine opv (wn rfl) hr (vB false) (rp_f (b := r47) rfl (by kernel_rfl) (bF c71) (by kernel_rfl)) fun a hr => ?_
    refine o1 hr (vB false) fun a hr => ?_
    refine ln ?_
    refine wp_ret ?_
    refine end_ret1 (v := vB false) rfl hr (by kernel_rfl) ?_
    obtain ⟨rfl, rfl⟩ := ej2 H
    exact ⟨caq61, ccq62, caq63, ccq64, caq65, ccq66, caq67, ccq68, rfl, h⟩
  ·
   replace H := ifF c70 H
   refine offl (bF c70) [56] hr fun a hr => ?_
   refine opv (wn rfl) hr (vB false) (rp_f (b := r36) rfl (by kernel_rfl) (bF c70) (by kernel_rfl)) fun a hr => ?_
   refine o1 hr (vB false) fun a hr => ?_
   refine offl (rfl : false = false) [59] hr fun a hr => ?_
   refine oo [60, 6] [vB false, vB false] hr fun a hr => ?_
   refine ln ?_
   refine wp_ret ?_
   refine end_ret1 (v := vB false) rfl hr (by kernel_rfl) ?_
   obtain ⟨rfl, rfl⟩ := ej2 H
   exact ⟨caq61, ccq62, caq63, ccq64, caq65, ccq66, caq67, ccq68, rfl, h⟩
 ·
  replace H := ifF c69 H
  refine offl (bF c69) [53] hr fun a hr => ?_
  refine opv (wn rfl) hr (vB false) (rp_f (b := r25) rfl (by kernel_rfl) (bF c69) (by kernel_rfl)) fun a hr => ?_
  refine o1 hr (vB false) fun a hr => ?_
  refine offl (rfl : false = false) [56] hr fun a hr => ?_
  refine oo [57, 58] [vB false, vB false] hr fun a hr => ?_
  refine offl (rfl : false = false) [59] hr fun a hr => ?_
  refine oo [60, 6] [vB false, vB false] hr fun a hr => ?_
  refine ln ?_
  refine wp_ret ?_
  refine end_ret1 (v := vB false) rfl hr (by kernel_rfl) ?_
  obtain ⟨rfl, rfl⟩ := ej2 H
  exact ⟨caq61, ccq62, caq63, ccq64, caq65, ccq66, caq67, ccq68, rfl, h⟩

def plunderlaw2_untold_l1 (K : Nat) (p2 : List T_plunderlaw2_Move) : Nat → T_plunderref2_Arena → T_plunderref2_Arena → T_cells_Arena → T_cells_Arena → T_plunderlaw2_Kept → Int → Option ((T_plunderref2_Arena × T_plunderref2_Arena × T_cells_Arena × T_cells_Arena × T_plunderlaw2_Kept) ⊕ (Bool))
  | 0, _, _, _, _, _, _ => none
  | k1 + 1, S73, S78, S83, S88, S93, g102 => (if g102 < ((p2.length : Nat) : Int) then if inr_ g102 p2.length then ob1 ((if (at_ p2 g102.toNat).Kind = 9 then some true else some ((at_ p2 g102.toNat).Kind == 10))) (fun g106 => (if g106 = true then ob1 ((if ((S93.N.length : Nat) : Int) < 400 then some (decide (S93.Sum < 100000)) else some false)) (fun g111 => (if g111 = true then ob2 (plunderlaw2_Kept_asked K S93 S83 S73) (fun r116 S117 => (if r116 = true then ob2 (plunderlaw2_Kept_asked K S117 S88 S78) (fun r128 S129 => (if r128 = true then (plunderlaw2_untold_l1 K p2 k1 S73 S78 S83 S88 S129 (wi (g102 + 1))) else some (.inr false))) else some (.inr false))) else (plunderlaw2_untold_l1 K p2 k1 S73 S78 S83 S88 S93 (wi (g102 + 1))))) else ob1 (plunderlaw2_mod (at_ p2 g102.toNat).Side 2) (fun r140 => (if r140 = 0 then ob4 (plunderlaw2_plays K S83 S73 (at_ p2 g102.toNat) (⟨([] : List T_plunderlaw2_kept), ([] : List T_plunderlaw2_noted), 0⟩ : T_plunderlaw2_book)) (fun r144 S145 S146 S147 => (if r144 = true then (plunderlaw2_untold_l1 K p2 k1 S146 S78 S145 S88 S93 (wi (g102 + 1))) else some (.inr false))) else ob4 (plunderlaw2_plays K S88 S78 (at_ p2 g102.toNat) (⟨([] : List T_plunderlaw2_kept), ([] : List T_plunderlaw2_noted), 0⟩ : T_plunderlaw2_book)) (fun r163 S164 S165 S166 => (if r163 = true then (plunderlaw2_untold_l1 K p2 k1 S73 S165 S83 S164 S93 (wi (g102 + 1))) else some (.inr false))))))) else none else some (.inl (S73, S78, S83, S88, S93)))
def plunderlaw2_untold_l2 (K : Nat) (p2 : List T_plunderlaw2_Move) : Nat → T_plunderref2_Arena → T_plunderref2_Arena → T_cells_Arena → T_plunderlaw2_Kept → Int → Option ((T_plunderref2_Arena × T_plunderref2_Arena × T_cells_Arena × T_plunderlaw2_Kept) ⊕ (Bool))
  | 0, _, _, _, _, _ => none
  | k2 + 1, S240, S245, S250, S255, g264 => (if g264 < ((p2.length : Nat) : Int) then if inr_ g264 p2.length then ob1 ((if (at_ p2 g264.toNat).Kind = 9 then some true else some ((at_ p2 g264.toNat).Kind == 10))) (fun g268 => (if g268 = true then ob1 ((if ((S255.N.length : Nat) : Int) < 400 then some (decide (S255.Sum < 100000)) else some false)) (fun g273 => (if g273 = true then ob2 (plunderlaw2_Kept_asked K S255 S250 S240) (fun r278 S279 => (if r278 = true then ob2 (plunderlaw2_Kept_asked_nil K S279 S245) (fun r290 S291 => (if r290 = true then (plunderlaw2_untold_l2 K p2 k2 S240 S245 S250 S291 (wi (g264 + 1))) else some (.inr false))) else some (.inr false))) else (plunderlaw2_untold_l2 K p2 k2 S240 S245 S250 S255 (wi (g264 + 1))))) else ob1 (plunderlaw2_mod (at_ p2 g264.toNat).Side 2) (fun r302 => (if r302 = 0 then ob4 (plunderlaw2_plays K S250 S240 (at_ p2 g264.toNat) (⟨([] : List T_plunderlaw2_kept), ([] : List T_plunderlaw2_noted), 0⟩ : T_plunderlaw2_book)) (fun r306 S307 S308 S309 => (if r306 = true then (plunderlaw2_untold_l2 K p2 k2 S308 S245 S307 S255 (wi (g264 + 1))) else some (.inr false))) else ob3 (plunderlaw2_plays_nil K S245 (at_ p2 g264.toNat) (⟨([] : List T_plunderlaw2_kept), ([] : List T_plunderlaw2_noted), 0⟩ : T_plunderlaw2_book)) (fun r325 S326 S327 => (if r325 = true then (plunderlaw2_untold_l2 K p2 k2 S240 S326 S250 S255 (wi (g264 + 1))) else some (.inr false))))))) else none else some (.inl (S240, S245, S250, S255)))
def plunderlaw2_untold_l3 (K : Nat) (p2 : List T_plunderlaw2_Move) : Nat → T_plunderref2_Arena → T_plunderref2_Arena → T_cells_Arena → T_plunderlaw2_Kept → Int → Option ((T_plunderref2_Arena × T_plunderref2_Arena × T_cells_Arena × T_plunderlaw2_Kept) ⊕ (Bool))
  | 0, _, _, _, _, _ => none
  | k3 + 1, S406, S411, S416, S421, g430 => (if g430 < ((p2.length : Nat) : Int) then if inr_ g430 p2.length then ob1 ((if (at_ p2 g430.toNat).Kind = 9 then some true else some ((at_ p2 g430.toNat).Kind == 10))) (fun g434 => (if g434 = true then ob1 ((if ((S421.N.length : Nat) : Int) < 400 then some (decide (S421.Sum < 100000)) else some false)) (fun g439 => (if g439 = true then ob2 (plunderlaw2_Kept_asked_nil K S421 S406) (fun r444 S445 => (if r444 = true then ob2 (plunderlaw2_Kept_asked K S445 S416 S411) (fun r456 S457 => (if r456 = true then (plunderlaw2_untold_l3 K p2 k3 S406 S411 S416 S457 (wi (g430 + 1))) else some (.inr false))) else some (.inr false))) else (plunderlaw2_untold_l3 K p2 k3 S406 S411 S416 S421 (wi (g430 + 1))))) else ob1 (plunderlaw2_mod (at_ p2 g430.toNat).Side 2) (fun r468 => (if r468 = 0 then ob3 (plunderlaw2_plays_nil K S406 (at_ p2 g430.toNat) (⟨([] : List T_plunderlaw2_kept), ([] : List T_plunderlaw2_noted), 0⟩ : T_plunderlaw2_book)) (fun r472 S473 S474 => (if r472 = true then (plunderlaw2_untold_l3 K p2 k3 S473 S411 S416 S421 (wi (g430 + 1))) else some (.inr false))) else ob4 (plunderlaw2_plays K S416 S411 (at_ p2 g430.toNat) (⟨([] : List T_plunderlaw2_kept), ([] : List T_plunderlaw2_noted), 0⟩ : T_plunderlaw2_book)) (fun r486 S487 S488 S489 => (if r486 = true then (plunderlaw2_untold_l3 K p2 k3 S406 S488 S487 S421 (wi (g430 + 1))) else some (.inr false))))))) else none else some (.inl (S406, S411, S416, S421)))
def plunderlaw2_untold_l4 (K : Nat) (p2 : List T_plunderlaw2_Move) : Nat → T_plunderref2_Arena → T_plunderref2_Arena → T_plunderlaw2_Kept → Int → Option ((T_plunderref2_Arena × T_plunderref2_Arena × T_plunderlaw2_Kept) ⊕ (Bool))
  | 0, _, _, _, _ => none
  | k4 + 1, S558, S563, S568, g577 => (if g577 < ((p2.length : Nat) : Int) then if inr_ g577 p2.length then ob1 ((if (at_ p2 g577.toNat).Kind = 9 then some true else some ((at_ p2 g577.toNat).Kind == 10))) (fun g581 => (if g581 = true then ob1 ((if ((S568.N.length : Nat) : Int) < 400 then some (decide (S568.Sum < 100000)) else some false)) (fun g586 => (if g586 = true then ob2 (plunderlaw2_Kept_asked_nil K S568 S558) (fun r591 S592 => (if r591 = true then ob2 (plunderlaw2_Kept_asked_nil K S592 S563) (fun r603 S604 => (if r603 = true then (plunderlaw2_untold_l4 K p2 k4 S558 S563 S604 (wi (g577 + 1))) else some (.inr false))) else some (.inr false))) else (plunderlaw2_untold_l4 K p2 k4 S558 S563 S568 (wi (g577 + 1))))) else ob1 (plunderlaw2_mod (at_ p2 g577.toNat).Side 2) (fun r615 => (if r615 = 0 then ob3 (plunderlaw2_plays_nil K S558 (at_ p2 g577.toNat) (⟨([] : List T_plunderlaw2_kept), ([] : List T_plunderlaw2_noted), 0⟩ : T_plunderlaw2_book)) (fun r619 S620 S621 => (if r619 = true then (plunderlaw2_untold_l4 K p2 k4 S620 S563 S568 (wi (g577 + 1))) else some (.inr false))) else ob3 (plunderlaw2_plays_nil K S563 (at_ p2 g577.toNat) (⟨([] : List T_plunderlaw2_kept), ([] : List T_plunderlaw2_noted), 0⟩ : T_plunderlaw2_book)) (fun r633 S634 S635 => (if r633 = true then (plunderlaw2_untold_l4 K p2 k4 S558 S634 S568 (wi (g577 + 1))) else some (.inr false))))))) else none else some (.inl (S558, S563, S568)))
/-- plunder/plunderlaw2.untold -/
def plunderlaw2_untold (K : Nat) (p0 : Int) (p1 : Int) (p2 : List T_plunderlaw2_Move) : Option (Bool) :=
  ob2 (plunderref2_New p0) (fun r1 r2 => ob2 (plunderref2_New p1) (fun r9 r10 => ob2 (cells_New p0) (fun r17 r18 => (match r17 with | some S20 => ob2 (cells_New p1) (fun r26 r27 => (match r26 with | some S29 => jn0 ((if r18 = r2 then (if r27 = r10 then (if false = (r2 != 0) then (if false = (r10 != 0) then some (.inl ()) else some (.inr false)) else some (.inr false)) else some (.inr false)) else some (.inr false))) (jn5 ((plunderlaw2_untold_l1 K p2 K r1 r9 S20 S29 (⟨([] : List (List Int)), ([] : List (List Int)), ([] : List (List T_api_Access)), ([] : List (List T_api_Access)), 0⟩ : T_plunderlaw2_Kept) 0)) (fun S42 S47 S52 S57 S62 => ob2 (plunderlaw2_Kept_asked K S62 S52 S42) (fun r181 S182 => (if r181 = true then ob2 (plunderlaw2_Kept_asked K S182 S57 S47) (fun r193 S194 => (if r193 = true then ob1 (plunderlaw2_Kept_alone K S194) (fun r205 => some r205) else some false)) else some false)))) | none => jn0 ((if r18 = r2 then (if r27 = r10 then (if false = (r2 != 0) then (if true = (r10 != 0) then some (.inl ()) else some (.inr false)) else some (.inr false)) else some (.inr false)) else some (.inr false))) (jn4 ((plunderlaw2_untold_l2 K p2 K r1 r9 S20 (⟨([] : List (List Int)), ([] : List (List Int)), ([] : List (List T_api_Access)), ([] : List (List T_api_Access)), 0⟩ : T_plunderlaw2_Kept) 0)) (fun S214 S219 S224 S229 => ob2 (plunderlaw2_Kept_asked K S229 S224 S214) (fun r338 S339 => (if r338 = true then ob2 (plunderlaw2_Kept_asked_nil K S339 S219) (fun r350 S351 => (if r350 = true then ob1 (plunderlaw2_Kept_alone K S351) (fun r362 => some r362) else some false)) else some false)))))) | none => ob2 (cells_New p1) (fun r364 r365 => (match r364 with | some S367 => jn0 ((if r18 = r2 then (if r365 = r10 then (if true = (r2 != 0) then (if false = (r10 != 0) then some (.inl ()) else some (.inr false)) else some (.inr false)) else some (.inr false)) else some (.inr false))) (jn4 ((plunderlaw2_untold_l3 K p2 K r1 r9 S367 (⟨([] : List (List Int)), ([] : List (List Int)), ([] : List (List T_api_Access)), ([] : List (List T_api_Access)), 0⟩ : T_plunderlaw2_Kept) 0)) (fun S380 S385 S390 S395 => ob2 (plunderlaw2_Kept_asked_nil K S395 S380) (fun r504 S505 => (if r504 = true then ob2 (plunderlaw2_Kept_asked K S505 S390 S385) (fun r516 S517 => (if r516 = true then ob1 (plunderlaw2_Kept_alone K S517) (fun r528 => some r528) else some false)) else some false)))) | none => jn0 ((if r18 = r2 then (if r365 = r10 then (if true = (r2 != 0) then (if true = (r10 != 0) then some (.inl ()) else some (.inr false)) else some (.inr false)) else some (.inr false)) else some (.inr false))) (jn3 ((plunderlaw2_untold_l4 K p2 K r1 r9 (⟨([] : List (List Int)), ([] : List (List Int)), ([] : List (List T_api_Access)), ([] : List (List T_api_Access)), 0⟩ : T_plunderlaw2_Kept) 0)) (fun S537 S542 S547 => ob2 (plunderlaw2_Kept_asked_nil K S547 S537) (fun r646 S647 => (if r646 = true then ob2 (plunderlaw2_Kept_asked_nil K S647 S542) (fun r658 S659 => (if r658 = true then ob1 (plunderlaw2_Kept_alone K S659) (fun r670 => some r670) else some false)) else some false))))))))))


end Go.Proofs.Ytacgigkonoegiaa.Mo
