/- what the functions compute, as plain Lean functions, and that they do -/
import Derived.Test.YtacgigkonoegiaaCh2
namespace Go.Proofs.Ytacgigkonoegiaa.Mo
open Go Go.RowKit Go.Proofs.Ytacgigkonoegiaa.SL Go.Proofs.Ytacgigkonoegiaa.GX
set_option linter.unusedVariables false
set_option linter.unusedSimpArgs false

set_option maxRecDepth 100000 in
set_option maxHeartbeats 4000000 in
theorem plunderlaw2_CellsShared_ok {z w : World} {L : List HProp} {K : Nat} {p0 : Int} {p1 : Int} {p2 : List T_plunderlaw2_Move} {va2 : Option Addr} {vc2 : Nat} {r0 : Bool} (H : plunderlaw2_CellsShared K p0 p1 p2 = some r0) (h : Fit z (sepL (L)) w) (hv2 : RdRow L 5 enc_T_plunderlaw2_Move va2 p2) :
    Calls Try.prog 9 #[vI p0, vI p1, .slice va2 p2.length vc2] w fun e w => e = .returned (vB r0) ∧ Fit z (sepL (L)) w := by
 unfold plunderlaw2_CellsShared at H
 refine enter Try.func9 rfl 138 rfl rfl [(0, vI p0), (1, vI p1), (2, .slice va2 p2.length vc2)] ⟨rfl, rfl, rfl, trivial⟩ ?_
 intro j a hr
 refine sr ?_
 refine o1 hr (vB false) fun a hr => ?_
 refine ln ?_
 refine sr ?_
 obtain ⟨r1, r2, e3, H⟩ := bd2 H
 refine o1 hr (vI p0) fun a hr => ?_
 have hc := plunderref2_New_ok (H := e3) (h := h)
 refine cl (wn rfl) hr hc ?_; clear hc h
 rintro _ w ⟨Bn4, car5, ccr6, car7, ccr8, rfl, h⟩; refine ⟨_, rfl, fun a hr => ?_⟩
 refine oo [21, 24, 25, 7, 8] [.tuple #[pA Bn4 0, vI r2], pA Bn4 0, vI r2, pA Bn4 0, vI r2] hr fun a hr => ?_
 refine ln ?_
 refine sr ?_
 obtain ⟨r9, r10, e11, H⟩ := bd2 H
 refine o1 hr (vI p1) fun a hr => ?_
 have hc := plunderref2_New_ok (H := e11) (h := h)
 refine cl (wn rfl) hr hc ?_; clear hc h
 rintro _ w ⟨Bn12, car13, ccr14, car15, ccr16, rfl, h⟩; refine ⟨_, rfl, fun a hr => ?_⟩
 refine oo [26, 29, 30, 9, 10] [.tuple #[pA Bn12 0, vI r10], pA Bn12 0, vI r10, pA Bn12 0, vI r10] hr fun a hr => ?_
 refine ln ?_
 refine sr ?_
 obtain ⟨r17, r18, e19, H⟩ := bd2 H
 refine o1 hr (vI p0) fun a hr => ?_
 cases r17 with
 | some S20 =>
  have hc := cells_NewShared_ok0 (H := e19) (h := h)
  refine cl (wn rfl) hr hc ?_; clear hc h
  rintro _ w ⟨Bn21, car22, ccr23, rfl, h⟩; refine ⟨_, rfl, fun a hr => ?_⟩
  refine oo [31, 34, 35, 11, 12] [.tuple #[pA Bn21 0, vI r18], pA Bn21 0, vI r18, pA Bn21 0, vI r18] hr fun a hr => ?_
  refine ln ?_
  refine sr ?_
  obtain ⟨r24, r25, e26, H⟩ := bd2 H
  refine o1 hr (vI p1) fun a hr => ?_
  cases r24 with
  | some S27 =>
   have hc := cells_NewShared_ok0 (H := e26) (h := h)
   refine cl (wn rfl) hr hc ?_; clear hc h
   rintro _ w ⟨Bn28, car29, ccr30, rfl, h⟩; refine ⟨_, rfl, fun a hr => ?_⟩
   refine oo [36, 39, 40, 13, 14] [.tuple #[pA Bn28 0, vI r25], pA Bn28 0, vI r25, pA Bn28 0, vI r25] hr fun a hr => ?_
   refine ln ?_
   obtain ⟨o32, H, hK31⟩ := jd0 H
   refine cut_rule (β := Unit) (fun _ a w => .inl () = o32 ∧ ∃ j, Rep 138 (lk [(2, .slice va2 p2.length vc2), (7, pA Bn4 0), (9, pA Bn12 0), (11, pA Bn21 0), (13, pA Bn28 0)] j) a ∧ Fit z (sepL (ob62 Bn4 r1 car5 ccr6 car7 ccr8 :: ro2 car5 ccr6 r1.Held :: ro90 car7 ccr8 r1.Book :: ob62 Bn12 r9 car13 ccr14 car15 ccr16 :: ro2 car13 ccr14 r9.Held :: ro90 car15 ccr16 r9.Book :: ob110 Bn21 S20 car22 ccr23 :: ro107 car22 ccr23 S20.cell :: ob110 Bn28 S27 car29 ccr30 :: ro107 car29 ccr30 S27.cell :: L)) w) ?_ ?_
   ·
    refine sr ?_
    refine oo [41, 42, 43, 44] [vI r18, vI r2, vB (r18 != r2), vB (r18 != r2)] hr fun a hr => ?_
    by_cases c33 : r18 = r2
    ·
     replace H := ifT c33 H
     refine opv (wgt hr (bne_eq_false_iff_eq.mpr c33)) hr (vI r25) (by kernel_rfl) fun a hr => ?_
     refine opv (wgt hr (bne_eq_false_iff_eq.mpr c33)) hr (vI r10) (by kernel_rfl) fun a hr => ?_
     refine opv (wgt hr (bne_eq_false_iff_eq.mpr c33)) hr (vB (r25 != r10)) (by kernel_rfl) fun a hr => ?_
     refine opv (wn rfl) hr (vB (r25 != r10)) (rp_f (b := (r18 != r2)) rfl (by kernel_rfl) (bne_eq_false_iff_eq.mpr c33) (by kernel_rfl)) fun a hr => ?_
     refine o1 hr (vB (r25 != r10)) fun a hr => ?_
     by_cases c34 : r25 = r10
     ·
      replace H := ifT c34 H
      refine opv (wgt hr (bne_eq_false_iff_eq.mpr c34)) hr (pA Bn21 0) (by kernel_rfl) fun a hr => ?_
      refine opv (wgt hr (bne_eq_false_iff_eq.mpr c34)) hr (vB false) (by kernel_rfl) fun a hr => ?_
      refine opv (wgt hr (bne_eq_false_iff_eq.mpr c34)) hr (vI r2) (by kernel_rfl) fun a hr => ?_
      refine opv (wgt hr (bne_eq_false_iff_eq.mpr c34)) hr (vB (r2 != 0)) (by kernel_rfl) fun a hr => ?_
      refine opv (wgt hr (bne_eq_false_iff_eq.mpr c34)) hr (vB (!(false == (r2 != 0)))) (by kernel_rfl) fun a hr => ?_
      refine opv (wn rfl) hr (vB (!(false == (r2 != 0)))) (rp_f (b := (r25 != r10)) rfl (by kernel_rfl) (bne_eq_false_iff_eq.mpr c34) (by kernel_rfl)) fun a hr => ?_
      refine o1 hr (vB (!(false == (r2 != 0)))) fun a hr => ?_
      by_cases c35 : false = (r2 != 0)
      ·
       replace H := ifT c35 H
       refine opv (wgt hr (x := !(false == (r2 != 0))) (c := false) (by rw [show (false == (r2 != 0)) = true from (beq_iff_eq.mpr c35)]; rfl)) hr (pA Bn28 0) (by kernel_rfl) fun a hr => ?_
       refine opv (wgt hr (x := !(false == (r2 != 0))) (c := false) (by rw [show (false == (r2 != 0)) = true from (beq_iff_eq.mpr c35)]; rfl)) hr (vB false) (by kernel_rfl) fun a hr => ?_
       refine opv (wgt hr (x := !(false == (r2 != 0))) (c := false) (by rw [show (false == (r2 != 0)) = true from (beq_iff_eq.mpr c35)]; rfl)) hr (vI r10) (by kernel_rfl) fun a hr => ?_
       refine opv (wgt hr (x := !(false == (r2 != 0))) (c := false) (by rw [show (false == (r2 != 0)) = true from (beq_iff_eq.mpr c35)]; rfl)) hr (vB (r10 != 0)) (by kernel_rfl) fun a hr => ?_
       refine opv (wgt hr (x := !(false == (r2 != 0))) (c := false) (by rw [show (false == (r2 != 0)) = true from (beq_iff_eq.mpr c35)]; rfl)) hr (vB (!(false == (r10 != 0)))) (by kernel_rfl) fun a hr => ?_
       refine opv (wn rfl) hr (vB (!(false == (r10 != 0)))) (rp_f (b := (!(false == (r2 != 0)))) rfl (by kernel_rfl) (by rw [show (false == (r2 != 0)) = true from (beq_iff_eq.mpr c35)]; rfl) (by kernel_rfl)) fun a hr => ?_
       refine ln ?_
       by_cases c36 : false = (r10 != 0)
       ·
        replace H := ifT c36 H
        refine cond_ff hr (b := (!(false == (r10 != 0)))) (by rw [show (false == (r10 != 0)) = true from (beq_iff_eq.mpr c36)]; rfl) ?_
        refine wp_skip ?_
        refine then_normal ?_
        replace hr := hr.fold2 [(2, .slice va2 p2.length vc2), (7, pA Bn4 0), (9, pA Bn12 0), (11, pA Bn21 0), (13, pA Bn28 0)] (by kernel_rfl); obtain ⟨j, hr⟩ := hr
        replace h : Fit z (sepL (ob62 Bn4 r1 car5 ccr6 car7 ccr8 :: ro2 car5 ccr6 r1.Held :: ro90 car7 ccr8 r1.Book :: ob62 Bn12 r9 car13 ccr14 car15 ccr16 :: ro2 car13 ccr14 r9.Held :: ro90 car15 ccr16 r9.Book :: ob110 Bn21 S20 car22 ccr23 :: ro107 car22 ccr23 S20.cell :: ob110 Bn28 S27 car29 ccr30 :: ro107 car29 ccr30 S27.cell :: L)) _ := h.sel 10 [7, 8, 9, 4, 5, 6, 2, 3, 0, 1] (by kernel_rfl) (by kernel_rfl)
        exact ⟨(), sinj H, j, hr, h⟩
       ·
        replace H := ifF c36 H
        refine cond_tt hr (b := (!(false == (r10 != 0)))) (by rw [show (false == (r10 != 0)) = false from (beq_eq_false_iff_ne.mpr c36)]; rfl) ?_
        refine sr ?_
        refine o1 hr (vB false) fun a hr => ?_
        refine ln ?_
        refine wp_ret ?_
        refine then_ret ?_
        refine end_ret1 (v := vB false) rfl hr (by kernel_rfl) ?_
        replace H := jx0 H hK31
        replace h : Fit z (sepL (L)) _ := h.sel 10 [] (by kernel_rfl) (by kernel_rfl)
        replace H := ej1 H; subst H
        exact ⟨rfl, h⟩
      ·
       replace H := ifF c35 H
       refine offg (wgt hr (x := !(false == (r2 != 0))) (c := true) (by rw [show (false == (r2 != 0)) = false from (beq_eq_false_iff_ne.mpr c35)]; rfl)) hr fun a hr => ?_
       refine offg (wgt hr (x := !(false == (r2 != 0))) (c := true) (by rw [show (false == (r2 != 0)) = false from (beq_eq_false_iff_ne.mpr c35)]; rfl)) hr fun a hr => ?_
       refine offg (wgt hr (x := !(false == (r2 != 0))) (c := true) (by rw [show (false == (r2 != 0)) = false from (beq_eq_false_iff_ne.mpr c35)]; rfl)) hr fun a hr => ?_
       refine offg (wgt hr (x := !(false == (r2 != 0))) (c := true) (by rw [show (false == (r2 != 0)) = false from (beq_eq_false_iff_ne.mpr c35)]; rfl)) hr fun a hr => ?_
       refine offg (wgt hr (x := !(false == (r2 != 0))) (c := true) (by rw [show (false == (r2 != 0)) = false from (beq_eq_false_iff_ne.mpr c35)]; rfl)) hr fun a hr => ?_
       refine opv (wn rfl) hr (vB true) (rp_t (b := (!(false == (r2 != 0)))) rfl (by kernel_rfl) (by rw [show (false == (r2 != 0)) = false from (beq_eq_false_iff_ne.mpr c35)]; rfl) (by kernel_rfl)) fun a hr => ?_
       refine ln ?_
       refine cond_tt hr (b := true) rfl ?_
       refine sr ?_
       refine o1 hr (vB false) fun a hr => ?_
       refine ln ?_
       refine wp_ret ?_
       refine then_ret ?_
       refine end_ret1 (v := vB false) rfl hr (by kernel_rfl) ?_
       replace H := jx0 H hK31
       replace h : Fit z (sepL (L)) _ := h.sel 10 [] (by kernel_rfl) (by kernel_rfl)
       replace H := ej1 H; subst H
       exact ⟨rfl, h⟩
     ·
      replace H := ifF c34 H
      refine offg (wgt hr (bne_iff_ne.mpr c34)) hr fun a hr => ?_
      refine offg (wgt hr (bne_iff_ne.mpr c34)) hr fun a hr => ?_
      refine offg (wgt hr (bne_iff_ne.mpr c34)) hr fun a hr => ?_
      refine offg (wgt hr (bne_iff_ne.mpr c34)) hr fun a hr => ?_
      refine offg (wgt hr (bne_iff_ne.mpr c34)) hr fun a hr => ?_
      refine opv (wn rfl) hr (vB true) (rp_t (b := (r25 != r10)) rfl (by kernel_rfl) (bne_iff_ne.mpr c34) (by kernel_rfl)) fun a hr => ?_
      refine o1 hr (vB true) fun a hr => ?_
      refine offg (wgt hr (c := true) rfl) hr fun a hr => ?_
      refine offg (wgt hr (c := true) rfl) hr fun a hr => ?_
      refine offg (wgt hr (c := true) rfl) hr fun a hr => ?_
      refine offg (wgt hr (c := true) rfl) hr fun a hr => ?_
      refine offg (wgt hr (c := true) rfl) hr fun a hr => ?_
      refine o1 hr (vB true) fun a hr => ?_
      refine ln ?_
      refine cond_tt hr (b := true) rfl ?_
      refine sr ?_
      refine o1 hr (vB false) fun a hr => ?_
      refine ln ?_
      refine wp_ret ?_
      refine then_ret ?_
      refine end_ret1 (v := vB false) rfl hr (by kernel_rfl) ?_
      replace H := jx0 H hK31
      replace h : Fit z (sepL (L)) _ := h.sel 10 [] (by kernel_rfl) (by kernel_rfl)
      replace H := ej1 H; subst H
      exact ⟨rfl, h⟩
    ·
     replace H := ifF c33 H
     refine offg (wgt hr (bne_iff_ne.mpr c33)) hr fun a hr => ?_
     refine offg (wgt hr (bne_iff_ne.mpr c33)) hr fun a hr => ?_
     refine offg (wgt hr (bne_iff_ne.mpr c33)) hr fun a hr => ?_
     refine opv (wn rfl) hr (vB true) (rp_t (b := (r18 != r2)) rfl (by kernel_rfl) (bne_iff_ne.mpr c33) (by kernel_rfl)) fun a hr => ?_
     refine o1 hr (vB true) fun a hr => ?_
     refine offg (wgt hr (c := true) rfl) hr fun a hr => ?_
     refine offg (wgt hr (c := true) rfl) hr fun a hr => ?_
     refine offg (wgt hr (c := true) rfl) hr fun a hr => ?_
     refine offg (wgt hr (c := true) rfl) hr fun a hr => ?_
     refine offg (wgt hr (c := true) rfl) hr fun a hr => ?_
     refine oo [55, 56] [vB true, vB true] hr fun a hr => ?_
     refine offg (wgt hr (c := true) rfl) hr fun a hr => ?_
     refine offg (wgt hr (c := true) rfl) hr fun a hr => ?_
     refine offg (wgt hr (c := true) rfl) hr fun a hr => ?_
     refine offg (wgt hr (c := true) rfl) hr fun a hr => ?_
     refine offg (wgt hr (c := true) rfl) hr fun a hr => ?_
     refine o1 hr (vB true) fun a hr => ?_
     refine ln ?_
     refine cond_tt hr (b := true) rfl ?_
     refine sr ?_
     refine o1 hr (vB false) fun a hr => ?_
     refine ln ?_
     refine wp_ret ?_
     refine then_ret ?_
     refine end_ret1 (v := vB false) rfl hr (by kernel_rfl) ?_
     replace H := jx0 H hK31
     replace h : Fit z (sepL (L)) _ := h.sel 10 [] (by kernel_rfl) (by kernel_rfl)
     replace H := ej1 H; subst H
     exact ⟨rfl, h⟩
   clear h hr a; rintro _ a w ⟨rfl, j, hr, h⟩
   replace H := jk0 hK31
   obtain ⟨o54, H, hK53⟩ := jd4 H
   refine cut_rule (β := Unit) (fun _ a w => ∃ ca38 : Option Addr, ∃ cc39 : Nat, ∃ ca40 : Option Addr, ∃ cc41 : Nat, ∃ ca43 : Option Addr, ∃ cc44 : Nat, ∃ ca45 : Option Addr, ∃ cc46 : Nat, ∃ ca48 : Option Addr, ∃ cc49 : Nat, ∃ ca51 : Option Addr, ∃ cc52 : Nat, ∃ S37 : T_plunderref2_Arena, ∃ S42 : T_plunderref2_Arena, ∃ S47 : T_cells_Shared, ∃ S50 : T_cells_Shared, .inl (S37, S42, S47, S50) = o54 ∧ ∃ j, Rep 138 (lk [(7, pA Bn4 0), (9, pA Bn12 0), (11, pA Bn21 0), (13, pA Bn28 0)] j) a ∧ Fit z (sepL (ob62 Bn4 S37 ca38 cc39 ca40 cc41 :: ro2 ca38 cc39 S37.Held :: ro90 ca40 cc41 S37.Book :: ob62 Bn12 S42 ca43 cc44 ca45 cc46 :: ro2 ca43 cc44 S42.Held :: ro90 ca45 cc46 S42.Book :: ob110 Bn21 S47 ca48 cc49 :: ro107 ca48 cc49 S47.cell :: ob110 Bn28 S50 ca51 cc52 :: ro107 ca51 cc52 S50.cell :: L)) w) ?_ ?_
   ·
    refine sr ?_
    refine o1 hr (vI 0) fun a hr => ?_
    refine ln ?_
    refine wp_block ?_
    replace hr := hr.fold2 [(2, .slice va2 p2.length vc2), (7, pA Bn4 0), (9, pA Bn12 0), (11, pA Bn21 0), (13, pA Bn28 0), (15, vI 0)] (by kernel_rfl); obtain ⟨j, hr⟩ := hr
    refine loop_rule (β := Nat) id (fun m a w => ∃ ca56 : Option Addr, ∃ cc57 : Nat, ∃ ca58 : Option Addr, ∃ cc59 : Nat, ∃ ca61 : Option Addr, ∃ cc62 : Nat, ∃ ca63 : Option Addr, ∃ cc64 : Nat, ∃ ca66 : Option Addr, ∃ cc67 : Nat, ∃ ca69 : Option Addr, ∃ cc70 : Nat, ∃ S55 : T_plunderref2_Arena, ∃ S60 : T_plunderref2_Arena, ∃ S65 : T_cells_Shared, ∃ S68 : T_cells_Shared, ∃ g71 : Int, (plunderlaw2_CellsShared_l1 K p2 m S55 S60 S65 S68 g71) = some o54 ∧ ∃ j, Rep 138 (lk [(2, .slice va2 p2.length vc2), (7, pA Bn4 0), (9, pA Bn12 0), (11, pA Bn21 0), (13, pA Bn28 0), (15, vI g71)] j) a ∧ Fit z (sepL (ob62 Bn4 S55 ca56 cc57 ca58 cc59 :: ro2 ca56 cc57 S55.Held :: ro90 ca58 cc59 S55.Book :: ob62 Bn12 S60 ca61 cc62 ca63 cc64 :: ro2 ca61 cc62 S60.Held :: ro90 ca63 cc64 S60.Book :: ob110 Bn21 S65 ca66 cc67 :: ro107 ca66 cc67 S65.cell :: ob110 Bn28 S68 ca69 cc70 :: ro107 ca69 cc70 S68.cell :: L)) w) K ⟨car5, ccr6, car7, ccr8, car13, ccr14, car15, ccr16, car22, ccr23, car29, ccr30, r1, r9, S20, S27, 0, H, j, hr, h⟩ ?_
    clear h hr a H; rintro k1 a w ⟨ca56, cc57, ca58, cc59, ca61, cc62, ca63, cc64, ca66, cc67, ca69, cc70, S55, S60, S65, S68, g71, H, j, hr, h⟩
    cases k1 with
    | zero => exact absurd H (by simp [plunderlaw2_CellsShared_l1])
    | succ k1 =>
     rw [plunderlaw2_CellsShared_l1] at H
     refine wp_seq ?_
     refine sr ?_
     refine oo [63, 64, 65, 66] [vI g71, .slice va2 p2.length vc2, vI ((p2.length : Nat) : Int), vB (decide (g71 < ((p2.length : Nat) : Int)))] hr fun a hr => ?_
     refine ln ?_
     by_cases c72 : g71 < ((p2.length : Nat) : Int)
     ·
      replace H := ifT c72 H
      refine cond_tt hr (decide_eq_true c72) ?_
      refine wp_skip ?_
      refine then_normal ?_
      refine wp_seq ?_
      refine wp_block ?_
      refine sr ?_
      obtain ⟨c73, H⟩ := gd H
      refine oo [69, 70] [.slice va2 p2.length vc2, vI g71] hr fun a hr => ?_
      refine opv (wn rfl) hr (pA (blk va2) (offs va2 + g71.toNat * 5)) (ri_rd (k := .i64) (E := 30) (cc := vc2) rfl (by kernel_rfl) (by kernel_rfl) rfl (by kernel_rfl) (by kernel_rfl) hv2 c73) fun a hr => ?_
      refine ldm (wn rfl) hr (ag_T_plunderlaw2_Move (at_ p2 g71.toNat)) (cs := cl_T_plunderlaw2_Move (at_ p2 g71.toNat)) ⟨hv2.cell c73 (h.dn 10) 0 rfl, hv2.cell c73 (h.dn 10) 1 rfl, hv2.cell c73 (h.dn 10) 2 rfl, hv2.cell c73 (h.dn 10) 3 rfl, hv2.cell c73 (h.dn 10) 4 rfl, trivial⟩ fun a hr => ?_
      refine onew (wn rfl) hr h nb (#[vI 0, vI 0, vI 0, vI 0, vI 0]) 30 fun b74 w a h hr => ?_
      refine stos (wn rfl) hr h 0 (cl_T_plunderlaw2_Move (at_ p2 g71.toNat)) (ca_T_plunderlaw2_Move (at_ p2 g71.toNat)) fun w h => ?_
      refine wpList_nil ?_
      replace h : Fit z (sepL (ob30 b74 (at_ p2 g71.toNat) :: ob62 Bn4 S55 ca56 cc57 ca58 cc59 :: ro2 ca56 cc57 S55.Held :: ro90 ca58 cc59 S55.Book :: ob62 Bn12 S60 ca61 cc62 ca63 cc64 :: ro2 ca61 cc62 S60.Held :: ro90 ca63 cc64 S60.Book :: ob110 Bn21 S65 ca66 cc67 :: ro107 ca66 cc67 S65.cell :: ob110 Bn28 S68 ca69 cc70 :: ro107 ca69 cc70 S68.cell :: L)) _ := h
      refine then_normal ?_
      refine sr ?_
      refine oo [73, 17] [pA Bn21 0, pA Bn21 0] hr fun a hr => ?_
      refine ln ?_
      refine sr ?_
      refine oo [74, 18] [pA Bn4 0, pA Bn4 0] hr fun a hr => ?_
      refine ln ?_
      refine wp_seq ?_
      refine sr ?_
      refine o1 hr (pA b74 0) fun a hr => ?_
      refine ld (wn rfl) hr (vI (at_ p2 g71.toNat).Side) (h.cell 0 rfl) fun a hr => ?_
      obtain ⟨r75, e76, H⟩ := bd1 H
      have hc := plunderlaw2_mod_ok (H := e76) (h := h)
      refine cl (wn rfl) hr hc ?_; clear hc h
      rintro _ w ⟨rfl, h⟩; refine ⟨_, rfl, fun a hr => ?_⟩
      refine o1 hr (vB (r75 == 1)) fun a hr => ?_
      refine ln ?_
      by_cases c77 : r75 = 1
      ·
       replace H := ifT c77 H
       refine cond_tt hr (beq_iff_eq.mpr c77) ?_
       refine sr ?_
       refine oo [79, 17] [pA Bn28 0, pA Bn28 0] hr fun a hr => ?_
       refine ln ?_
       refine wp_region_lit ?_
       refine oo [80, 18] [pA Bn12 0, pA Bn12 0] hr fun a hr => ?_
       refine ln ?_
       obtain ⟨o87, H, hK86⟩ := jd2 H
       refine cut_rule (β := Unit) (fun _ a w => ∃ ca79 : Option Addr, ∃ cc80 : Nat, ∃ ca81 : Option Addr, ∃ cc82 : Nat, ∃ ca84 : Option Addr, ∃ cc85 : Nat, ∃ S78 : T_plunderref2_Arena, ∃ S83 : T_cells_Shared, .inl (S78, S83) = o87 ∧ ∃ j, Rep 138 (lk [(2, .slice va2 p2.length vc2), (7, pA Bn4 0), (9, pA Bn12 0), (11, pA Bn21 0), (13, pA Bn28 0), (15, vI g71), (16, pA b74 0), (17, pA Bn28 0), (18, pA Bn12 0)] j) a ∧ Fit z (sepL (ob62 Bn4 S55 ca56 cc57 ca58 cc59 :: ro2 ca56 cc57 S55.Held :: ro90 ca58 cc59 S55.Book :: ob62 Bn12 S78 ca79 cc80 ca81 cc82 :: ro2 ca79 cc80 S78.Held :: ro90 ca81 cc82 S78.Book :: ob110 Bn21 S65 ca66 cc67 :: ro107 ca66 cc67 S65.cell :: ob110 Bn28 S83 ca84 cc85 :: ro107 ca84 cc85 S83.cell :: ob30 b74 (at_ p2 g71.toNat) :: L)) w) ?_ ?_
       ·
        obtain ⟨o90, H, hK89⟩ := kd1 H
        refine cut_rule (β := Unit) (fun _ a w => ∃ g88 : Bool, g88 = o90 ∧ ∃ j, Rep 138 (lk [(2, .slice va2 p2.length vc2), (7, pA Bn4 0), (9, pA Bn12 0), (11, pA Bn21 0), (13, pA Bn28 0), (15, vI g71), (16, pA b74 0), (17, pA Bn28 0), (18, pA Bn12 0), (88, vB g88)] j) a ∧ Fit z (sepL (ob62 Bn4 S55 ca56 cc57 ca58 cc59 :: ro2 ca56 cc57 S55.Held :: ro90 ca58 cc59 S55.Book :: ob62 Bn12 S60 ca61 cc62 ca63 cc64 :: ro2 ca61 cc62 S60.Held :: ro90 ca63 cc64 S60.Book :: ob110 Bn21 S65 ca66 cc67 :: ro107 ca66 cc67 S65.cell :: ob110 Bn28 S68 ca69 cc70 :: ro107 ca69 cc70 S68.cell :: ob30 b74 (at_ p2 g71.toNat) :: L)) w) ?_ ?_
        ·
         refine wp_region_lit ?_
         refine o1 hr (pA b74 1) fun a hr => ?_
         refine ld (wn rfl) hr (vI (at_ p2 g71.toNat).Kind) (h.cell 1 rfl) fun a hr => ?_
         refine oo [83, 84] [vB (decide ((at_ p2 g71.toNat).Kind ≥ 0)), vB (decide ((at_ p2 g71.toNat).Kind ≥ 0))] hr fun a hr => ?_
         by_cases c91 : (at_ p2 g71.toNat).Kind ≥ 0
         ·
          replace H := ifT c91 H
          refine opv (wgt hr (decide_eq_true c91)) hr (pA b74 1) (by kernel_rfl) fun a hr => ?_
          refine ld (wgt hr (decide_eq_true c91)) hr (vI (at_ p2 g71.toNat).Kind) (h.cell 1 rfl) fun a hr => ?_
          refine opv (wgt hr (decide_eq_true c91)) hr (vB (decide ((at_ p2 g71.toNat).Kind ≤ 4))) (by kernel_rfl) fun a hr => ?_
          refine opv (wn rfl) hr (vB (decide ((at_ p2 g71.toNat).Kind ≤ 4))) (rp_t (b := (decide ((at_ p2 g71.toNat).Kind ≥ 0))) rfl (by kernel_rfl) (decide_eq_true c91) (by kernel_rfl)) fun a hr => ?_
          refine ln ?_
          replace hr := hr.fold2 [(2, .slice va2 p2.length vc2), (7, pA Bn4 0), (9, pA Bn12 0), (11, pA Bn21 0), (13, pA Bn28 0), (15, vI g71), (16, pA b74 0), (17, pA Bn28 0), (18, pA Bn12 0), (88, vB (decide ((at_ p2 g71.toNat).Kind ≤ 4)))] (by kernel_rfl); obtain ⟨j, hr⟩ := hr
          replace h : Fit z (sepL (ob62 Bn4 S55 ca56 cc57 ca58 cc59 :: ro2 ca56 cc57 S55.Held :: ro90 ca58 cc59 S55.Book :: ob62 Bn12 S60 ca61 cc62 ca63 cc64 :: ro2 ca61 cc62 S60.Held :: ro90 ca63 cc64 S60.Book :: ob110 Bn21 S65 ca66 cc67 :: ro107 ca66 cc67 S65.cell :: ob110 Bn28 S68 ca69 cc70 :: ro107 ca69 cc70 S68.cell :: ob30 b74 (at_ p2 g71.toNat) :: L)) _ := h.sel 11 [1, 2, 3, 4, 5, 6, 7, 8, 9, 10, 0] (by kernel_rfl) (by kernel_rfl)
          exact ⟨(), (decide ((at_ p2 g71.toNat).Kind ≤ 4)), sinj H, j, hr, h⟩
         ·
          replace H := ifF c91 H
          refine offg (wgt hr (decide_eq_false c91)) hr fun a hr => ?_
          refine offg (wgt hr (decide_eq_false c91)) hr fun a hr => ?_
          refine offg (wgt hr (decide_eq_false c91)) hr fun a hr => ?_
          refine opv (wn rfl) hr (vB false) (rp_f (b := (decide ((at_ p2 g71.toNat).Kind ≥ 0))) rfl (by kernel_rfl) (decide_eq_false c91) (by kernel_rfl)) fun a hr => ?_
          refine ln ?_
          replace hr := hr.fold2 [(2, .slice va2 p2.length vc2), (7, pA Bn4 0), (9, pA Bn12 0), (11, pA Bn21 0), (13, pA Bn28 0), (15, vI g71), (16, pA b74 0), (17, pA Bn28 0), (18, pA Bn12 0), (88, vB false)] (by kernel_rfl); obtain ⟨j, hr⟩ := hr
          replace h : Fit z (sepL (ob62 Bn4 S55 ca56 cc57 ca58 cc59 :: ro2 ca56 cc57 S55.Held :: ro90 ca58 cc59 S55.Book :: ob62 Bn12 S60 ca61 cc62 ca63 cc64 :: ro2 ca61 cc62 S60.Held :: ro90 ca63 cc64 S60.Book :: ob110 Bn21 S65 ca66 cc67 :: ro107 ca66 cc67 S65.cell :: ob110 Bn28 S68 ca69 cc70 :: ro107 ca69 cc70 S68.cell :: ob30 b74 (at_ p2 g71.toNat) :: L)) _ := h.sel 11 [1, 2, 3, 4, 5, 6, 7, 8, 9, 10, 0] (by kernel_rfl) (by kernel_rfl)
          exact ⟨(), false, sinj H, j, hr, h⟩
        clear h hr a; rintro _ a w ⟨g88, rfl, j, hr, h⟩
        replace H := kk1 hK89
        by_cases c92 : g88 = true
        ·
         replace H := ifT c92 H
         refine cond_tt hr (c92) ?_
         refine sr ?_
         refine o1 hr (pA Bn28 0) fun a hr => ?_
         refine ldm (wn rfl) hr (ag_T_plunderlaw2_Move (at_ p2 g71.toNat)) (cs := cl_T_plunderlaw2_Move (at_ p2 g71.toNat)) ((h.pick 10).held 0 rfl) fun a hr => ?_
         obtain ⟨r93, S94, e95, H⟩ := bd2 H
         replace h : Fit z (sepL (ob110 Bn28 S68 ca69 cc70 :: ro107 ca69 cc70 S68.cell :: ob62 Bn4 S55 ca56 cc57 ca58 cc59 :: ro2 ca56 cc57 S55.Held :: ro90 ca58 cc59 S55.Book :: ob62 Bn12 S60 ca61 cc62 ca63 cc64 :: ro2 ca61 cc62 S60.Held :: ro90 ca63 cc64 S60.Book :: ob110 Bn21 S65 ca66 cc67 :: ro107 ca66 cc67 S65.cell :: ob30 b74 (at_ p2 g71.toNat) :: L)) _ := h.sel 11 [8, 9, 0, 1, 2, 3, 4, 5, 6, 7, 10] (by kernel_rfl) (by kernel_rfl)
         have hc := plunderlaw2_shared_ok (H := e95) (h := h)
         refine cl (wn rfl) hr hc ?_; clear hc h
         rintro _ w ⟨caq96, ccq97, rfl, h⟩; refine ⟨_, rfl, fun a hr => ?_⟩
         refine onew (wn rfl) hr h nb (#[vI 0, vB false, vI 0]) 39 fun b98 w a h hr => ?_
         refine stos (wn rfl) hr h 0 (cl_T_api_Effect r93) (ca_T_api_Effect r93) fun w h => ?_
         refine wpList_nil ?_
         replace h : Fit z (sepL (ob39 b98 r93 :: ob110 Bn28 S94 caq96 ccq97 :: ro107 caq96 ccq97 S94.cell :: ob62 Bn4 S55 ca56 cc57 ca58 cc59 :: ro2 ca56 cc57 S55.Held :: ro90 ca58 cc59 S55.Book :: ob62 Bn12 S60 ca61 cc62 ca63 cc64 :: ro2 ca61 cc62 S60.Held :: ro90 ca63 cc64 S60.Book :: ob110 Bn21 S65 ca66 cc67 :: ro107 ca66 cc67 S65.cell :: ob30 b74 (at_ p2 g71.toNat) :: L)) _ := h
         refine then_normal ?_
         refine sr ?_
         refine o1 hr (pA Bn12 0) fun a hr => ?_
         refine ldm (wn rfl) hr (ag_T_plunderlaw2_Move (at_ p2 g71.toNat)) (cs := cl_T_plunderlaw2_Move (at_ p2 g71.toNat)) ((h.pick 11).held 0 rfl) fun a hr => ?_
         obtain ⟨r99, e100, H⟩ := bd1 H
         have hc := plunderlaw2_act_ok (H := e100) (h := h)
         refine cl (wn rfl) hr hc ?_; clear hc h
         rintro _ w ⟨rfl, h⟩; refine ⟨_, rfl, fun a hr => ?_⟩
         obtain ⟨r101, S102, e103, H⟩ := bd2 H
         replace h : Fit z (sepL (ob62 Bn12 S60 ca61 cc62 ca63 cc64 :: ro2 ca61 cc62 S60.Held :: ro90 ca63 cc64 S60.Book :: ob39 b98 r93 :: ob110 Bn28 S94 caq96 ccq97 :: ro107 caq96 ccq97 S94.cell :: ob62 Bn4 S55 ca56 cc57 ca58 cc59 :: ro2 ca56 cc57 S55.Held :: ro90 ca58 cc59 S55.Book :: ob110 Bn21 S65 ca66 cc67 :: ro107 ca66 cc67 S65.cell :: ob30 b74 (at_ p2 g71.toNat) :: L)) _ := h.sel 12 [6, 7, 8, 0, 1, 2, 3, 4, 5, 9, 10, 11] (by kernel_rfl) (by kernel_rfl)
         have hc := plunderref2_Arena_Do_ok (H := e103) (h := h)
         refine cl (wn rfl) hr hc ?_; clear hc h
         rintro _ w ⟨caq104, ccq105, caq106, ccq107, rfl, h⟩; refine ⟨_, rfl, fun a hr => ?_⟩
         refine onew (wn rfl) hr h nb (#[vI 0, vB false, vI 0]) 39 fun b108 w a h hr => ?_
         refine stos (wn rfl) hr h 0 (cl_T_api_Effect r101) (ca_T_api_Effect r101) fun w h => ?_
         refine wpList_nil ?_
         replace h : Fit z (sepL (ob39 b108 r101 :: ob62 Bn12 S102 caq104 ccq105 caq106 ccq107 :: ro2 caq104 ccq105 S102.Held :: ro90 caq106 ccq107 S102.Book :: ob39 b98 r93 :: ob110 Bn28 S94 caq96 ccq97 :: ro107 caq96 ccq97 S94.cell :: ob62 Bn4 S55 ca56 cc57 ca58 cc59 :: ro2 ca56 cc57 S55.Held :: ro90 ca58 cc59 S55.Book :: ob110 Bn21 S65 ca66 cc67 :: ro107 ca66 cc67 S65.cell :: ob30 b74 (at_ p2 g71.toNat) :: L)) _ := h
         refine then_normal ?_
         refine sr ?_
         refine ldm (wn rfl) hr (ag_T_api_Effect r93) (cs := cl_T_api_Effect r93) ((h.pick 4).held 0 rfl) fun a hr => ?_
         refine ldm (wn rfl) hr (ag_T_api_Effect r101) (cs := cl_T_api_Effect r101) (h.held 0 rfl) fun a hr => ?_
         refine opv (wn rfl) hr (vB (!(decide (r93 = r101)))) (rb (rne rfl (by kernel_rfl) (by kernel_rfl) (by kernel_rfl) (by kernel_rfl) (by kernel_rfl) (by kernel_rfl)) (congrArg (!·) (eq_T_api_Effect r93 r101))) fun a hr => ?_
         refine ln ?_
         by_cases c109 : r93 = r101
         ·
          replace H := ifT c109 H
          refine cond_ff hr (b := (!(decide (r93 = r101)))) (by rw [show (decide (r93 = r101)) = true from (decide_eq_true c109)]; rfl) ?_
          refine wp_skip ?_
          refine then_normal ?_
          replace hr := hr.fold2 [(2, .slice va2 p2.length vc2), (7, pA Bn4 0), (9, pA Bn12 0), (11, pA Bn21 0), (13, pA Bn28 0), (15, vI g71), (16, pA b74 0), (17, pA Bn28 0), (18, pA Bn12 0)] (by kernel_rfl); obtain ⟨j, hr⟩ := hr
          replace h : Fit z (sepL (ob62 Bn4 S55 ca56 cc57 ca58 cc59 :: ro2 ca56 cc57 S55.Held :: ro90 ca58 cc59 S55.Book :: ob62 Bn12 S102 caq104 ccq105 caq106 ccq107 :: ro2 caq104 ccq105 S102.Held :: ro90 caq106 ccq107 S102.Book :: ob110 Bn21 S65 ca66 cc67 :: ro107 ca66 cc67 S65.cell :: ob110 Bn28 S94 caq96 ccq97 :: ro107 caq96 ccq97 S94.cell :: ob30 b74 (at_ p2 g71.toNat) :: L)) _ := h.sel 13 [7, 8, 9, 1, 2, 3, 10, 11, 5, 6, 12] (by kernel_rfl) (by kernel_rfl)
          exact ⟨(), caq104, ccq105, caq106, ccq107, caq96, ccq97, S102, S94, sinj H, j, hr, h⟩
         ·
          replace H := ifF c109 H
          refine cond_tt hr (b := (!(decide (r93 = r101)))) (by rw [show (decide (r93 = r101)) = false from (decide_eq_false c109)]; rfl) ?_
          refine sr ?_
          refine o1 hr (vB false) fun a hr => ?_
          refine ln ?_
          refine wp_ret ?_
          refine then_ret ?_
          refine blk_ret ?_
          refine then_ret ?_
          refine then_ret ?_
          refine blk_ret ?_
          refine then_ret ?_
          refine end_ret1 (v := vB false) rfl hr (by kernel_rfl) ?_
          replace H := jx2 H hK86
          replace H := jx4 H hK53
          replace h : Fit z (sepL (L)) _ := h.sel 13 [] (by kernel_rfl) (by kernel_rfl)
          replace H := ej1 H; subst H
          exact ⟨rfl, h⟩
        ·
         replace H := ifF c92 H
         refine cond_ff hr (bF c92) ?_
         refine wp_skip ?_
         refine then_normal ?_
         replace hr := hr.fold2 [(2, .slice va2 p2.length vc2), (7, pA Bn4 0), (9, pA Bn12 0), (11, pA Bn21 0), (13, pA Bn28 0), (15, vI g71), (16, pA b74 0), (17, pA Bn28 0), (18, pA Bn12 0)] (by kernel_rfl); obtain ⟨j, hr⟩ := hr
         exact ⟨(), ca61, cc62, ca63, cc64, ca69, cc70, S60, S68, sinj H, j, hr, h⟩
       clear h hr a; rintro _ a w ⟨ca79, cc80, ca81, cc82, ca84, cc85, S78, S83, rfl, j, hr, h⟩
       replace H := jk2 hK86
       obtain ⟨o111, H, hK110⟩ := jd0 H
       refine cut_rule (β := Unit) (fun _ a w => .inl () = o111 ∧ ∃ j, Rep 138 (lk [(2, .slice va2 p2.length vc2), (7, pA Bn4 0), (9, pA Bn12 0), (11, pA Bn21 0), (13, pA Bn28 0), (15, vI g71), (16, pA b74 0), (17, pA Bn28 0), (18, pA Bn12 0)] j) a ∧ Fit z (sepL (ob62 Bn4 S55 ca56 cc57 ca58 cc59 :: ro2 ca56 cc57 S55.Held :: ro90 ca58 cc59 S55.Book :: ob62 Bn12 S78 ca79 cc80 ca81 cc82 :: ro2 ca79 cc80 S78.Held :: ro90 ca81 cc82 S78.Book :: ob110 Bn21 S65 ca66 cc67 :: ro107 ca66 cc67 S65.cell :: ob110 Bn28 S83 ca84 cc85 :: ro107 ca84 cc85 S83.cell :: ob30 b74 (at_ p2 g71.toNat) :: L)) w) ?_ ?_
       ·
        refine wp_seq ?_
        by_cases c112 : (at_ p2 g71.toNat).Kind = 7
        ·
         replace H := ifT c112 H
         obtain ⟨r113, e114, H⟩ := bd1 H
         refine reg_E (fun w => heldC w b74 1 ([vI (at_ p2 g71.toNat).Kind]) ∧ heldC w Bn12 0 ([vI S78.Most]) ∧ True) [0, 2, 5, 7, 8] h (by kernel_rfl) ?_; intro w h
         change wpAnyE _ _ _ _ _ _ 12 (Array.replicate 12 false) a w
         have hgo : ∀ w w', CellsGo w w' → (heldC w b74 1 ([vI (at_ p2 g71.toNat).Kind]) ∧ heldC w Bn12 0 ([vI S78.Most]) ∧ True) → heldC w' b74 1 ([vI (at_ p2 g71.toNat).Kind]) ∧ heldC w' Bn12 0 ([vI S78.Most]) ∧ True := fun w w' g hD => ⟨heldC_go _ _ _ _ _ g hD.1, heldC_go _ _ _ _ _ g hD.2.1, trivial⟩
         refine evDs hgo ⟨⟨(h.pick 10).cell 1 rfl, trivial⟩, ⟨(h.pick 3).cell 0 rfl, trivial⟩, trivial⟩ 11 0 rfl (wn rfl) hr (pA b74 1) fun a hr => ?_
         refine el [0, 2, 5, 7, 8] (b := b74) (off := 1) (cs := [vI (at_ p2 g71.toNat).Kind]) (fun _ hk => ⟨hk, fun w hD => hD.1⟩) 10 1 rfl (by kernel_rfl) (wn rfl) hr (vI (at_ p2 g71.toNat).Kind) ⟨(h.pick 10).cell 1 rfl, trivial⟩ (fun w hc => rl rfl (by kernel_rfl) (by kernel_rfl) hc.1) fun a hr => ?_
         refine evDs hgo ⟨⟨(h.pick 10).cell 1 rfl, trivial⟩, ⟨(h.pick 3).cell 0 rfl, trivial⟩, trivial⟩ 9 2 rfl (wn rfl) hr (vB ((at_ p2 g71.toNat).Kind == 7)) fun a hr => ?_
         refine evs 8 3 rfl (wn rfl) hr (vB ((at_ p2 g71.toNat).Kind == 7)) fun a hr => ?_
         refine evs 7 4 rfl (wgt hr (beq_iff_eq.mpr c112)) hr (pA Bn28 0) fun a hr => ?_
         refine evs 6 6 rfl (wgt hr (beq_iff_eq.mpr c112)) hr (pA Bn12 0) fun a hr => ?_
         refine evDs hgo ⟨⟨(h.pick 10).cell 1 rfl, trivial⟩, ⟨(h.pick 3).cell 0 rfl, trivial⟩, trivial⟩ 5 7 rfl (wgt hr (beq_iff_eq.mpr c112)) hr (pA Bn12 0) fun a hr => ?_
         refine evDs hgo ⟨⟨(h.pick 10).cell 1 rfl, trivial⟩, ⟨(h.pick 3).cell 0 rfl, trivial⟩, trivial⟩ 4 8 rfl (wgt hr (beq_iff_eq.mpr c112)) hr (pA Bn12 0) fun a hr => ?_
         refine el [0, 2, 5, 7, 8] (b := Bn12) (off := 0) (cs := [vI S78.Most]) (fun _ hk => ⟨hk, fun w hD => hD.2.1⟩) 3 9 rfl (by kernel_rfl) (wgt hr (beq_iff_eq.mpr c112)) hr (vI S78.Most) ⟨(h.pick 3).cell 0 rfl, trivial⟩ (fun w hc => rl rfl (by kernel_rfl) (by kernel_rfl) hc.1) fun a hr => ?_
         refine e_one (fuel := 2) (i := 5) (by kernel_rfl) rfl ?_
         replace h : Fit z (sepL (ob110 Bn28 S83 ca84 cc85 :: ro107 ca84 cc85 S83.cell :: ob62 Bn4 S55 ca56 cc57 ca58 cc59 :: ro2 ca56 cc57 S55.Held :: ro90 ca58 cc59 S55.Book :: ob62 Bn12 S78 ca79 cc80 ca81 cc82 :: ro2 ca79 cc80 S78.Held :: ro90 ca81 cc82 S78.Book :: ob110 Bn21 S65 ca66 cc67 :: ro107 ca66 cc67 S65.cell :: ob30 b74 (at_ p2 g71.toNat) :: L)) _ := h.sel 11 [8, 9, 0, 1, 2, 3, 4, 5, 6, 7, 10] (by kernel_rfl) (by kernel_rfl)
         have hc := cells_Shared_Size_ok (H := e114) (h := h)
         refine cl (wgt hr (beq_iff_eq.mpr c112)) hr hc ?_; clear hc h
         rintro _ w ⟨rfl, h⟩; refine ⟨_, rfl, fun a hr => ?_⟩
         refine wpList_nil ?_; refine then_normal ?_
         refine ⟨fun _ => ⟨⟨(h.pick 10).cell 1 rfl, trivial⟩, ⟨(h.pick 5).cell 0 rfl, trivial⟩, trivial⟩, ?_⟩
         refine evs 1 10 rfl (wgt hr (beq_iff_eq.mpr c112)) hr (vB (r113 != S78.Most)) fun a hr => ?_
         refine ev 0 11 rfl (by kernel_rfl) (wn rfl) hr (vB (r113 != S78.Most)) (fun w => rp_t (b := ((at_ p2 g71.toNat).Kind == 7)) rfl (by kernel_rfl) (beq_iff_eq.mpr c112) (by kernel_rfl)) fun a hr => ?_
         refine e_end (by kernel_rfl) ?_
         refine then_normal ?_
         by_cases c115 : r113 = S78.Most
         ·
          replace H := ifT c115 H
          refine cond_ff hr (bne_eq_false_iff_eq.mpr c115) ?_
          refine wp_skip ?_
          refine then_normal ?_
          replace hr := hr.fold2 [(2, .slice va2 p2.length vc2), (7, pA Bn4 0), (9, pA Bn12 0), (11, pA Bn21 0), (13, pA Bn28 0), (15, vI g71), (16, pA b74 0), (17, pA Bn28 0), (18, pA Bn12 0)] (by kernel_rfl); obtain ⟨j, hr⟩ := hr
          replace h : Fit z (sepL (ob62 Bn4 S55 ca56 cc57 ca58 cc59 :: ro2 ca56 cc57 S55.Held :: ro90 ca58 cc59 S55.Book :: ob62 Bn12 S78 ca79 cc80 ca81 cc82 :: ro2 ca79 cc80 S78.Held :: ro90 ca81 cc82 S78.Book :: ob110 Bn21 S65 ca66 cc67 :: ro107 ca66 cc67 S65.cell :: ob110 Bn28 S83 ca84 cc85 :: ro107 ca84 cc85 S83.cell :: ob30 b74 (at_ p2 g71.toNat) :: L)) _ := h.sel 11 [2, 3, 4, 5, 6, 7, 8, 9, 0, 1, 10] (by kernel_rfl) (by kernel_rfl)
          exact ⟨(), sinj H, j, hr, h⟩
         ·
          replace H := ifF c115 H
          refine cond_tt hr (bne_iff_ne.mpr c115) ?_
          refine sr ?_
          refine o1 hr (vB false) fun a hr => ?_
          refine ln ?_
          refine wp_ret ?_
          refine then_ret ?_
          refine blk_ret ?_
          refine then_ret ?_
          refine then_ret ?_
          refine blk_ret ?_
          refine then_ret ?_
          refine end_ret1 (v := vB false) rfl hr (by kernel_rfl) ?_
          replace H := jx0 H hK110
          replace H := jx4 H hK53
          replace h : Fit z (sepL (L)) _ := h.sel 11 [] (by kernel_rfl) (by kernel_rfl)
          replace H := ej1 H; subst H
          exact ⟨rfl, h⟩
        ·
         replace H := ifF c112 H
         refine reg_E (fun w => heldC w b74 1 ([vI (at_ p2 g71.toNat).Kind]) ∧ True) [0] h (by kernel_rfl) ?_; intro w h
         change wpAnyE _ _ _ _ _ _ 12 (Array.replicate 12 false) a w
         have hgo : ∀ w w', CellsGo w w' → (heldC w b74 1 ([vI (at_ p2 g71.toNat).Kind]) ∧ True) → heldC w' b74 1 ([vI (at_ p2 g71.toNat).Kind]) ∧ True := fun w w' g hD => ⟨heldC_go _ _ _ _ _ g hD.1, trivial⟩
         refine evDs hgo ⟨⟨(h.pick 10).cell 1 rfl, trivial⟩, trivial⟩ 11 0 rfl (wn rfl) hr (pA b74 1) fun a hr => ?_
         refine el [0] (b := b74) (off := 1) (cs := [vI (at_ p2 g71.toNat).Kind]) (fun _ hk => ⟨hk, fun w hD => hD.1⟩) 10 1 rfl (by kernel_rfl) (wn rfl) hr (vI (at_ p2 g71.toNat).Kind) ⟨(h.pick 10).cell 1 rfl, trivial⟩ (fun w hc => rl rfl (by kernel_rfl) (by kernel_rfl) hc.1) fun a hr => ?_
         refine evs 9 2 rfl (wn rfl) hr (vB ((at_ p2 g71.toNat).Kind == 7)) fun a hr => ?_
         refine evs 8 3 rfl (wn rfl) hr (vB ((at_ p2 g71.toNat).Kind == 7)) fun a hr => ?_
         refine eos 7 4 rfl (wgt hr (beq_eq_false_iff_ne.mpr c112)) hr fun a hr => ?_
         refine eos 6 6 rfl (wgt hr (beq_eq_false_iff_ne.mpr c112)) hr fun a hr => ?_
         refine eos 5 7 rfl (wgt hr (beq_eq_false_iff_ne.mpr c112)) hr fun a hr => ?_
         refine eos 4 8 rfl (wgt hr (beq_eq_false_iff_ne.mpr c112)) hr fun a hr => ?_
         refine eos 3 9 rfl (wgt hr (beq_eq_false_iff_ne.mpr c112)) hr fun a hr => ?_
         refine e_one (fuel := 2) (i := 5) (by kernel_rfl) rfl ?_
         refine offg (wgt hr (beq_eq_false_iff_ne.mpr c112)) hr fun a hr => ?_
         refine wpList_nil ?_; refine then_normal ?_
         refine ⟨fun hE => absurd hE (by decide), ?_⟩
         refine eos 1 10 rfl (wgt hr (beq_eq_false_iff_ne.mpr c112)) hr fun a hr => ?_
         refine ev 0 11 rfl (by kernel_rfl) (wn rfl) hr (vB false) (fun w => rp_f (b := ((at_ p2 g71.toNat).Kind == 7)) rfl (by kernel_rfl) (beq_eq_false_iff_ne.mpr c112) (by kernel_rfl)) fun a hr => ?_
         refine e_end (by kernel_rfl) ?_
         refine then_normal ?_
         refine cond_ff hr (b := false) rfl ?_
         refine wp_skip ?_
         refine then_normal ?_
         replace hr := hr.fold2 [(2, .slice va2 p2.length vc2), (7, pA Bn4 0), (9, pA Bn12 0), (11, pA Bn21 0), (13, pA Bn28 0), (15, vI g71), (16, pA b74 0), (17, pA Bn28 0), (18, pA Bn12 0)] (by kernel_rfl); obtain ⟨j, hr⟩ := hr
         exact ⟨(), sinj H, j, hr, h⟩
       clear h hr a; rintro _ a w ⟨rfl, j, hr, h⟩
       replace H := jk0 hK110
       refine wp_seq ?_
       by_cases c116 : (at_ p2 g71.toNat).Kind = 8
       ·
        replace H := ifT c116 H
        obtain ⟨r117, S118, e119, H⟩ := bd2 H
        refine reg_E (fun w => heldC w b74 1 ([vI (at_ p2 g71.toNat).Kind]) ∧ heldC w Bn12 1 ([.slice ca79 S78.Held.length cc80]) ∧ True) [0, 2, 5, 7, 8] h (by kernel_rfl) ?_; intro w h
        change wpAnyE _ _ _ _ _ _ 13 (Array.replicate 13 false) a w
        have hgo : ∀ w w', CellsGo w w' → (heldC w b74 1 ([vI (at_ p2 g71.toNat).Kind]) ∧ heldC w Bn12 1 ([.slice ca79 S78.Held.length cc80]) ∧ True) → heldC w' b74 1 ([vI (at_ p2 g71.toNat).Kind]) ∧ heldC w' Bn12 1 ([.slice ca79 S78.Held.length cc80]) ∧ True := fun w w' g hD => ⟨heldC_go _ _ _ _ _ g hD.1, heldC_go _ _ _ _ _ g hD.2.1, trivial⟩
        refine evDs hgo ⟨⟨(h.pick 10).cell 1 rfl, trivial⟩, ⟨(h.pick 3).cell 1 rfl, trivial⟩, trivial⟩ 12 0 rfl (wn rfl) hr (pA b74 1) fun a hr => ?_
        refine el [0, 2, 5, 7, 8] (b := b74) (off := 1) (cs := [vI (at_ p2 g71.toNat).Kind]) (fun _ hk => ⟨hk, fun w hD => hD.1⟩) 11 1 rfl (by kernel_rfl) (wn rfl) hr (vI (at_ p2 g71.toNat).Kind) ⟨(h.pick 10).cell 1 rfl, trivial⟩ (fun w hc => rl rfl (by kernel_rfl) (by kernel_rfl) hc.1) fun a hr => ?_
        refine evDs hgo ⟨⟨(h.pick 10).cell 1 rfl, trivial⟩, ⟨(h.pick 3).cell 1 rfl, trivial⟩, trivial⟩ 10 2 rfl (wn rfl) hr (vB ((at_ p2 g71.toNat).Kind == 8)) fun a hr => ?_
        refine evs 9 3 rfl (wn rfl) hr (vB ((at_ p2 g71.toNat).Kind == 8)) fun a hr => ?_
        refine evs 8 4 rfl (wgt hr (beq_iff_eq.mpr c116)) hr (pA Bn28 0) fun a hr => ?_
        refine evs 7 6 rfl (wgt hr (beq_iff_eq.mpr c116)) hr (pA Bn12 0) fun a hr => ?_
        refine evDs hgo ⟨⟨(h.pick 10).cell 1 rfl, trivial⟩, ⟨(h.pick 3).cell 1 rfl, trivial⟩, trivial⟩ 6 7 rfl (wgt hr (beq_iff_eq.mpr c116)) hr (pA Bn12 0) fun a hr => ?_
        refine evDs hgo ⟨⟨(h.pick 10).cell 1 rfl, trivial⟩, ⟨(h.pick 3).cell 1 rfl, trivial⟩, trivial⟩ 5 8 rfl (wgt hr (beq_iff_eq.mpr c116)) hr (pA Bn12 1) fun a hr => ?_
        refine el [0, 2, 5, 7, 8] (b := Bn12) (off := 1) (cs := [.slice ca79 S78.Held.length cc80]) (fun _ hk => ⟨hk, fun w hD => hD.2.1⟩) 4 9 rfl (by kernel_rfl) (wgt hr (beq_iff_eq.mpr c116)) hr (.slice ca79 S78.Held.length cc80) ⟨(h.pick 3).cell 1 rfl, trivial⟩ (fun w hc => rl rfl (by kernel_rfl) (by kernel_rfl) hc.1) fun a hr => ?_
        refine evs 3 10 rfl (wgt hr (beq_iff_eq.mpr c116)) hr (vI ((S78.Held.length : Nat) : Int)) fun a hr => ?_
        refine e_one (fuel := 2) (i := 5) (by kernel_rfl) rfl ?_
        replace h : Fit z (sepL (ob110 Bn28 S83 ca84 cc85 :: ro107 ca84 cc85 S83.cell :: ob62 Bn4 S55 ca56 cc57 ca58 cc59 :: ro2 ca56 cc57 S55.Held :: ro90 ca58 cc59 S55.Book :: ob62 Bn12 S78 ca79 cc80 ca81 cc82 :: ro2 ca79 cc80 S78.Held :: ro90 ca81 cc82 S78.Book :: ob110 Bn21 S65 ca66 cc67 :: ro107 ca66 cc67 S65.cell :: ob30 b74 (at_ p2 g71.toNat) :: L)) _ := h.sel 11 [8, 9, 0, 1, 2, 3, 4, 5, 6, 7, 10] (by kernel_rfl) (by kernel_rfl)
        have hc := cells_Shared_Mark_ok (H := e119) (h := h)
        refine cl (wgt hr (beq_iff_eq.mpr c116)) hr hc ?_; clear hc h
        rintro _ w ⟨caq120, ccq121, rfl, h⟩; refine ⟨_, rfl, fun a hr => ?_⟩
        refine wpList_nil ?_; refine then_normal ?_
        refine ⟨fun _ => ⟨⟨(h.pick 10).cell 1 rfl, trivial⟩, ⟨(h.pick 5).cell 1 rfl, trivial⟩, trivial⟩, ?_⟩
        refine evs 1 11 rfl (wgt hr (beq_iff_eq.mpr c116)) hr (vB (r117 != ((S78.Held.length : Nat) : Int))) fun a hr => ?_
        refine ev 0 12 rfl (by kernel_rfl) (wn rfl) hr (vB (r117 != ((S78.Held.length : Nat) : Int))) (fun w => rp_t (b := ((at_ p2 g71.toNat).Kind == 8)) rfl (by kernel_rfl) (beq_iff_eq.mpr c116) (by kernel_rfl)) fun a hr => ?_
        refine e_end (by kernel_rfl) ?_
        refine then_normal ?_
        by_cases c122 : r117 = ((S78.Held.length : Nat) : Int)
        ·
         replace H := ifT c122 H
         refine cond_ff hr (bne_eq_false_iff_eq.mpr c122) ?_
         refine wp_skip ?_
         refine blk_normal ?_
         refine then_normal ?_
         refine wp_region_lit ?_
         refine oo [67, 68, 15] [vI g71, vI (wi (g71 + 1)), vI (wi (g71 + 1))] hr fun a hr => ?_
         refine ln ?_
         replace hr := hr.fold2 [(2, .slice va2 p2.length vc2), (7, pA Bn4 0), (9, pA Bn12 0), (11, pA Bn21 0), (13, pA Bn28 0), (15, vI (wi (g71 + 1)))] (by kernel_rfl); obtain ⟨j, hr⟩ := hr
         replace h : Fit z (sepL (ob62 Bn4 S55 ca56 cc57 ca58 cc59 :: ro2 ca56 cc57 S55.Held :: ro90 ca58 cc59 S55.Book :: ob62 Bn12 S78 ca79 cc80 ca81 cc82 :: ro2 ca79 cc80 S78.Held :: ro90 ca81 cc82 S78.Book :: ob110 Bn21 S65 ca66 cc67 :: ro107 ca66 cc67 S65.cell :: ob110 Bn28 S118 caq120 ccq121 :: ro107 caq120 ccq121 S118.cell :: L)) _ := h.sel 11 [2, 3, 4, 5, 6, 7, 8, 9, 0, 1] (by kernel_rfl) (by kernel_rfl)
         exact ⟨_, ⟨ca56, cc57, ca58, cc59, ca79, cc80, ca81, cc82, ca66, cc67, caq120, ccq121, S55, S78, S65, S118, (wi (g71 + 1)), H, j, hr, h⟩, Nat.lt_succ_self _⟩
        ·
         replace H := ifF c122 H
         refine cond_tt hr (bne_iff_ne.mpr c122) ?_
         refine sr ?_
         refine o1 hr (vB false) fun a hr => ?_
         refine ln ?_
         refine wp_ret ?_
         refine blk_ret ?_
         refine then_ret ?_
         refine then_ret ?_
         refine blk_ret ?_
         refine then_ret ?_
         refine end_ret1 (v := vB false) rfl hr (by kernel_rfl) ?_
         replace H := jx4 H hK53
         replace h : Fit z (sepL (L)) _ := h.sel 11 [] (by kernel_rfl) (by kernel_rfl)
         replace H := ej1 H; subst H
         exact ⟨rfl, h⟩
       ·
        replace H := ifF c116 H
        refine reg_E (fun w => heldC w b74 1 ([vI (at_ p2 g71.toNat).Kind]) ∧ True) [0] h (by kernel_rfl) ?_; intro w h
        change wpAnyE _ _ _ _ _ _ 13 (Array.replicate 13 false) a w
        have hgo : ∀ w w', CellsGo w w' → (heldC w b74 1 ([vI (at_ p2 g71.toNat).Kind]) ∧ True) → heldC w' b74 1 ([vI (at_ p2 g71.toNat).Kind]) ∧ True := fun w w' g hD => ⟨heldC_go _ _ _ _ _ g hD.1, trivial⟩
        refine evDs hgo ⟨⟨(h.pick 10).cell 1 rfl, trivial⟩, trivial⟩ 12 0 rfl (wn rfl) hr (pA b74 1) fun a hr => ?_
        refine el [0] (b := b74) (off := 1) (cs := [vI (at_ p2 g71.toNat).Kind]) (fun _ hk => ⟨hk, fun w hD => hD.1⟩) 11 1 rfl (by kernel_rfl) (wn rfl) hr (vI (at_ p2 g71.toNat).Kind) ⟨(h.pick 10).cell 1 rfl, trivial⟩ (fun w hc => rl rfl (by kernel_rfl) (by kernel_rfl) hc.1) fun a hr => ?_
        refine evs 10 2 rfl (wn rfl) hr (vB ((at_ p2 g71.toNat).Kind == 8)) fun a hr => ?_
        refine evs 9 3 rfl (wn rfl) hr (vB ((at_ p2 g71.toNat).Kind == 8)) fun a hr => ?_
        refine eos 8 4 rfl (wgt hr (beq_eq_false_iff_ne.mpr c116)) hr fun a hr => ?_
        refine eos 7 6 rfl (wgt hr (beq_eq_false_iff_ne.mpr c116)) hr fun a hr => ?_
        refine eos 6 7 rfl (wgt hr (beq_eq_false_iff_ne.mpr c116)) hr fun a hr => ?_
        refine eos 5 8 rfl (wgt hr (beq_eq_false_iff_ne.mpr c116)) hr fun a hr => ?_
        refine eos 4 9 rfl (wgt hr (beq_eq_false_iff_ne.mpr c116)) hr fun a hr => ?_
        refine eos 3 10 rfl (wgt hr (beq_eq_false_iff_ne.mpr c116)) hr fun a hr => ?_
        refine e_one (fuel := 2) (i := 5) (by kernel_rfl) rfl ?_
        refine offg (wgt hr (beq_eq_false_iff_ne.mpr c116)) hr fun a hr => ?_
        refine wpList_nil ?_; refine then_normal ?_
        refine ⟨fun hE => absurd hE (by decide), ?_⟩
        refine eos 1 11 rfl (wgt hr (beq_eq_false_iff_ne.mpr c116)) hr fun a hr => ?_
        refine ev 0 12 rfl (by kernel_rfl) (wn rfl) hr (vB false) (fun w => rp_f (b := ((at_ p2 g71.toNat).Kind == 8)) rfl (by kernel_rfl) (beq_eq_false_iff_ne.mpr c116) (by kernel_rfl)) fun a hr => ?_
        refine e_end (by kernel_rfl) ?_
        refine then_normal ?_
        refine cond_ff hr (b := false) rfl ?_
        refine wp_skip ?_
        refine blk_normal ?_
        refine then_normal ?_
        refine wp_region_lit ?_
        refine oo [67, 68, 15] [vI g71, vI (wi (g71 + 1)), vI (wi (g71 + 1))] hr fun a hr => ?_
        refine ln ?_
        replace hr := hr.fold2 [(2, .slice va2 p2.length vc2), (7, pA Bn4 0), (9, pA Bn12 0), (11, pA Bn21 0), (13, pA Bn28 0), (15, vI (wi (g71 + 1)))] (by kernel_rfl); obtain ⟨j, hr⟩ := hr
        replace h : Fit z (sepL (ob62 Bn4 S55 ca56 cc57 ca58 cc59 :: ro2 ca56 cc57 S55.Held :: ro90 ca58 cc59 S55.Book :: ob62 Bn12 S78 ca79 cc80 ca81 cc82 :: ro2 ca79 cc80 S78.Held :: ro90 ca81 cc82 S78.Book :: ob110 Bn21 S65 ca66 cc67 :: ro107 ca66 cc67 S65.cell :: ob110 Bn28 S83 ca84 cc85 :: ro107 ca84 cc85 S83.cell :: L)) _ := h.sel 11 [0, 1, 2, 3, 4, 5, 6, 7, 8, 9] (by kernel_rfl) (by kernel_rfl)
        exact ⟨_, ⟨ca56, cc57, ca58, cc59, ca79, cc80, ca81, cc82, ca66, cc67, ca84, cc85, S55, S78, S65, S83, (wi (g71 + 1)), H, j, hr, h⟩, Nat.lt_succ_self _⟩
      ·
       replace H := ifF c77 H
       refine cond_ff hr (beq_eq_false_iff_ne.mpr c77) ?_
       refine wp_skip ?_
       refine then_normal ?_
       obtain ⟨o132, H, hK131⟩ := jd2 H
       refine cut_rule (β := Unit) (fun _ a w => ∃ ca124 : Option Addr, ∃ cc125 : Nat, ∃ ca126 : Option Addr, ∃ cc127 : Nat, ∃ ca129 : Option Addr, ∃ cc130 : Nat, ∃ S123 : T_plunderref2_Arena, ∃ S128 : T_cells_Shared, .inl (S123, S128) = o132 ∧ ∃ j, Rep 138 (lk [(2, .slice va2 p2.length vc2), (7, pA Bn4 0), (9, pA Bn12 0), (11, pA Bn21 0), (13, pA Bn28 0), (15, vI g71), (16, pA b74 0), (17, pA Bn21 0), (18, pA Bn4 0)] j) a ∧ Fit z (sepL (ob62 Bn4 S123 ca124 cc125 ca126 cc127 :: ro2 ca124 cc125 S123.Held :: ro90 ca126 cc127 S123.Book :: ob62 Bn12 S60 ca61 cc62 ca63 cc64 :: ro2 ca61 cc62 S60.Held :: ro90 ca63 cc64 S60.Book :: ob110 Bn21 S128 ca129 cc130 :: ro107 ca129 cc130 S128.cell :: ob110 Bn28 S68 ca69 cc70 :: ro107 ca69 cc70 S68.cell :: ob30 b74 (at_ p2 g71.toNat) :: L)) w) ?_ ?_
       ·
        obtain ⟨o135, H, hK134⟩ := kd1 H
        refine cut_rule (β := Unit) (fun _ a w => ∃ g133 : Bool, g133 = o135 ∧ ∃ j, Rep 138 (lk [(2, .slice va2 p2.length vc2), (7, pA Bn4 0), (9, pA Bn12 0), (11, pA Bn21 0), (13, pA Bn28 0), (15, vI g71), (16, pA b74 0), (17, pA Bn21 0), (18, pA Bn4 0), (88, vB g133)] j) a ∧ Fit z (sepL (ob62 Bn4 S55 ca56 cc57 ca58 cc59 :: ro2 ca56 cc57 S55.Held :: ro90 ca58 cc59 S55.Book :: ob62 Bn12 S60 ca61 cc62 ca63 cc64 :: ro2 ca61 cc62 S60.Held :: ro90 ca63 cc64 S60.Book :: ob110 Bn21 S65 ca66 cc67 :: ro107 ca66 cc67 S65.cell :: ob110 Bn28 S68 ca69 cc70 :: ro107 ca69 cc70 S68.cell :: ob30 b74 (at_ p2 g71.toNat) :: L)) w) ?_ ?_
        ·
         refine wp_region_lit ?_
         refine o1 hr (pA b74 1) fun a hr => ?_
         refine ld (wn rfl) hr (vI (at_ p2 g71.toNat).Kind) (h.cell 1 rfl) fun a hr => ?_
         refine oo [83, 84] [vB (decide ((at_ p2 g71.toNat).Kind ≥ 0)), vB (decide ((at_ p2 g71.toNat).Kind ≥ 0))] hr fun a hr => ?_
         by_cases c136 : (at_ p2 g71.toNat).Kind ≥ 0
         ·
          replace H := ifT c136 H
          refine opv (wgt hr (decide_eq_true c136)) hr (pA b74 1) (by kernel_rfl) fun a hr => ?_
          refine ld (wgt hr (decide_eq_true c136)) hr (vI (at_ p2 g71.toNat).Kind) (h.cell 1 rfl) fun a hr => ?_
          refine opv (wgt hr (decide_eq_true c136)) hr (vB (decide ((at_ p2 g71.toNat).Kind ≤ 4))) (by kernel_rfl) fun a hr => ?_
          refine opv (wn rfl) hr (vB (decide ((at_ p2 g71.toNat).Kind ≤ 4))) (rp_t (b := (decide ((at_ p2 g71.toNat).Kind ≥ 0))) rfl (by kernel_rfl) (decide_eq_true c136) (by kernel_rfl)) fun a hr => ?_
          refine ln ?_
          replace hr := hr.fold2 [(2, .slice va2 p2.length vc2), (7, pA Bn4 0), (9, pA Bn12 0), (11, pA Bn21 0), (13, pA Bn28 0), (15, vI g71), (16, pA b74 0), (17, pA Bn21 0), (18, pA Bn4 0), (88, vB (decide ((at_ p2 g71.toNat).Kind ≤ 4)))] (by kernel_rfl); obtain ⟨j, hr⟩ := hr
          replace h : Fit z (sepL (ob62 Bn4 S55 ca56 cc57 ca58 cc59 :: ro2 ca56 cc57 S55.Held :: ro90 ca58 cc59 S55.Book :: ob62 Bn12 S60 ca61 cc62 ca63 cc64 :: ro2 ca61 cc62 S60.Held :: ro90 ca63 cc64 S60.Book :: ob110 Bn21 S65 ca66 cc67 :: ro107 ca66 cc67 S65.cell :: ob110 Bn28 S68 ca69 cc70 :: ro107 ca69 cc70 S68.cell :: ob30 b74 (at_ p2 g71.toNat) :: L)) _ := h.sel 11 [1, 2, 3, 4, 5, 6, 7, 8, 9, 10, 0] (by kernel_rfl) (by kernel_rfl)
          exact ⟨(), (decide ((at_ p2 g71.toNat).Kind ≤ 4)), sinj H, j, hr, h⟩
         ·
          replace H := ifF c136 H
          refine offg (wgt hr (decide_eq_false c136)) hr fun a hr => ?_
          refine offg (wgt hr (decide_eq_false c136)) hr fun a hr => ?_
          refine offg (wgt hr (decide_eq_false c136)) hr fun a hr => ?_
          refine opv (wn rfl) hr (vB false) (rp_f (b := (decide ((at_ p2 g71.toNat).Kind ≥ 0))) rfl (by kernel_rfl) (decide_eq_false c136) (by kernel_rfl)) fun a hr => ?_
          refine ln ?_
          replace hr := hr.fold2 [(2, .slice va2 p2.length vc2), (7, pA Bn4 0), (9, pA Bn12 0), (11, pA Bn21 0), (13, pA Bn28 0), (15, vI g71), (16, pA b74 0), (17, pA Bn21 0), (18, pA Bn4 0), (88, vB false)] (by kernel_rfl); obtain ⟨j, hr⟩ := hr
          replace h : Fit z (sepL (ob62 Bn4 S55 ca56 cc57 ca58 cc59 :: ro2 ca56 cc57 S55.Held :: ro90 ca58 cc59 S55.Book :: ob62 Bn12 S60 ca61 cc62 ca63 cc64 :: ro2 ca61 cc62 S60.Held :: ro90 ca63 cc64 S60.Book :: ob110 Bn21 S65 ca66 cc67 :: ro107 ca66 cc67 S65.cell :: ob110 Bn28 S68 ca69 cc70 :: ro107 ca69 cc70 S68.cell :: ob30 b74 (at_ p2 g71.toNat) :: L)) _ := h.sel 11 [1, 2, 3, 4, 5, 6, 7, 8, 9, 10, 0] (by kernel_rfl) (by kernel_rfl)
          exact ⟨(), false, sinj H, j, hr, h⟩
        clear h hr a; rintro _ a w ⟨g133, rfl, j, hr, h⟩
        replace H := kk1 hK134
        by_cases c137 : g133 = true
        ·
         replace H := ifT c137 H
         refine cond_tt hr (c137) ?_
         refine sr ?_
         refine o1 hr (pA Bn21 0) fun a hr => ?_
         refine ldm (wn rfl) hr (ag_T_plunderlaw2_Move (at_ p2 g71.toNat)) (cs := cl_T_plunderlaw2_Move (at_ p2 g71.toNat)) ((h.pick 10).held 0 rfl) fun a hr => ?_
         obtain ⟨r138, S139, e140, H⟩ := bd2 H
         replace h : Fit z (sepL (ob110 Bn21 S65 ca66 cc67 :: ro107 ca66 cc67 S65.cell :: ob62 Bn4 S55 ca56 cc57 ca58 cc59 :: ro2 ca56 cc57 S55.Held :: ro90 ca58 cc59 S55.Book :: ob62 Bn12 S60 ca61 cc62 ca63 cc64 :: ro2 ca61 cc62 S60.Held :: ro90 ca63 cc64 S60.Book :: ob110 Bn28 S68 ca69 cc70 :: ro107 ca69 cc70 S68.cell :: ob30 b74 (at_ p2 g71.toNat) :: L)) _ := h.sel 11 [6, 7, 0, 1, 2, 3, 4, 5, 8, 9, 10] (by kernel_rfl) (by kernel_rfl)
         have hc := plunderlaw2_shared_ok (H := e140) (h := h)
         refine cl (wn rfl) hr hc ?_; clear hc h
         rintro _ w ⟨caq141, ccq142, rfl, h⟩; refine ⟨_, rfl, fun a hr => ?_⟩
         refine onew (wn rfl) hr h nb (#[vI 0, vB false, vI 0]) 39 fun b143 w a h hr => ?_
         refine stos (wn rfl) hr h 0 (cl_T_api_Effect r138) (ca_T_api_Effect r138) fun w h => ?_
         refine wpList_nil ?_
         replace h : Fit z (sepL (ob39 b143 r138 :: ob110 Bn21 S139 caq141 ccq142 :: ro107 caq141 ccq142 S139.cell :: ob62 Bn4 S55 ca56 cc57 ca58 cc59 :: ro2 ca56 cc57 S55.Held :: ro90 ca58 cc59 S55.Book :: ob62 Bn12 S60 ca61 cc62 ca63 cc64 :: ro2 ca61 cc62 S60.Held :: ro90 ca63 cc64 S60.Book :: ob110 Bn28 S68 ca69 cc70 :: ro107 ca69 cc70 S68.cell :: ob30 b74 (at_ p2 g71.toNat) :: L)) _ := h
         refine then_normal ?_
         refine sr ?_
         refine o1 hr (pA Bn4 0) fun a hr => ?_
         refine ldm (wn rfl) hr (ag_T_plunderlaw2_Move (at_ p2 g71.toNat)) (cs := cl_T_plunderlaw2_Move (at_ p2 g71.toNat)) ((h.pick 11).held 0 rfl) fun a hr => ?_
         obtain ⟨r144, e145, H⟩ := bd1 H
         have hc := plunderlaw2_act_ok (H := e145) (h := h)
         refine cl (wn rfl) hr hc ?_; clear hc h
         rintro _ w ⟨rfl, h⟩; refine ⟨_, rfl, fun a hr => ?_⟩
         obtain ⟨r146, S147, e148, H⟩ := bd2 H
         replace h : Fit z (sepL (ob62 Bn4 S55 ca56 cc57 ca58 cc59 :: ro2 ca56 cc57 S55.Held :: ro90 ca58 cc59 S55.Book :: ob39 b143 r138 :: ob110 Bn21 S139 caq141 ccq142 :: ro107 caq141 ccq142 S139.cell :: ob62 Bn12 S60 ca61 cc62 ca63 cc64 :: ro2 ca61 cc62 S60.Held :: ro90 ca63 cc64 S60.Book :: ob110 Bn28 S68 ca69 cc70 :: ro107 ca69 cc70 S68.cell :: ob30 b74 (at_ p2 g71.toNat) :: L)) _ := h.sel 12 [3, 4, 5, 0, 1, 2, 6, 7, 8, 9, 10, 11] (by kernel_rfl) (by kernel_rfl)
         have hc := plunderref2_Arena_Do_ok (H := e148) (h := h)
         refine cl (wn rfl) hr hc ?_; clear hc h
         rintro _ w ⟨caq149, ccq150, caq151, ccq152, rfl, h⟩; refine ⟨_, rfl, fun a hr => ?_⟩
         refine onew (wn rfl) hr h nb (#[vI 0, vB false, vI 0]) 39 fun b153 w a h hr => ?_
         refine stos (wn rfl) hr h 0 (cl_T_api_Effect r146) (ca_T_api_Effect r146) fun w h => ?_
         refine wpList_nil ?_
         replace h : Fit z (sepL (ob39 b153 r146 :: ob62 Bn4 S147 caq149 ccq150 caq151 ccq152 :: ro2 caq149 ccq150 S147.Held :: ro90 caq151 ccq152 S147.Book :: ob39 b143 r138 :: ob110 Bn21 S139 caq141 ccq142 :: ro107 caq141 ccq142 S139.cell :: ob62 Bn12 S60 ca61 cc62 ca63 cc64 :: ro2 ca61 cc62 S60.Held :: ro90 ca63 cc64 S60.Book :: ob110 Bn28 S68 ca69 cc70 :: ro107 ca69 cc70 S68.cell :: ob30 b74 (at_ p2 g71.toNat) :: L)) _ := h
         refine then_normal ?_
         refine sr ?_
         refine ldm (wn rfl) hr (ag_T_api_Effect r138) (cs := cl_T_api_Effect r138) ((h.pick 4).held 0 rfl) fun a hr => ?_
         refine ldm (wn rfl) hr (ag_T_api_Effect r146) (cs := cl_T_api_Effect r146) (h.held 0 rfl) fun a hr => ?_
         refine opv (wn rfl) hr (vB (!(decide (r138 = r146)))) (rb (rne rfl (by kernel_rfl) (by kernel_rfl) (by kernel_rfl) (by kernel_rfl) (by kernel_rfl) (by kernel_rfl)) (congrArg (!·) (eq_T_api_Effect r138 r146))) fun a hr => ?_
         refine ln ?_
         by_cases c154 : r138 = r146
         ·
          replace H := ifT c154 H
          refine cond_ff hr (b := (!(decide (r138 = r146)))) (by rw [show (decide (r138 = r146)) = true from (decide_eq_true c154)]; rfl) ?_
          refine wp_skip ?_
          refine then_normal ?_
          replace hr := hr.fold2 [(2, .slice va2 p2.length vc2), (7, pA Bn4 0), (9, pA Bn12 0), (11, pA Bn21 0), (13, pA Bn28 0), (15, vI g71), (16, pA b74 0), (17, pA Bn21 0), (18, pA Bn4 0)] (by kernel_rfl); obtain ⟨j, hr⟩ := hr
          replace h : Fit z (sepL (ob62 Bn4 S147 caq149 ccq150 caq151 ccq152 :: ro2 caq149 ccq150 S147.Held :: ro90 caq151 ccq152 S147.Book :: ob62 Bn12 S60 ca61 cc62 ca63 cc64 :: ro2 ca61 cc62 S60.Held :: ro90 ca63 cc64 S60.Book :: ob110 Bn21 S139 caq141 ccq142 :: ro107 caq141 ccq142 S139.cell :: ob110 Bn28 S68 ca69 cc70 :: ro107 ca69 cc70 S68.cell :: ob30 b74 (at_ p2 g71.toNat) :: L)) _ := h.sel 13 [1, 2, 3, 7, 8, 9, 5, 6, 10, 11, 12] (by kernel_rfl) (by kernel_rfl)
          exact ⟨(), caq149, ccq150, caq151, ccq152, caq141, ccq142, S147, S139, sinj H, j, hr, h⟩
         ·
          replace H := ifF c154 H
          refine cond_tt hr (b := (!(decide (r138 = r146)))) (by rw [show (decide (r138 = r146)) = false from (decide_eq_false c154)]; rfl) ?_
          refine sr ?_
          refine o1 hr (vB false) fun a hr => ?_
          refine ln ?_
          refine wp_ret ?_
          refine then_ret ?_
          refine blk_ret ?_
          refine then_ret ?_
          refine then_ret ?_
          refine blk_ret ?_
          refine then_ret ?_
          refine end_ret1 (v := vB false) rfl hr (by kernel_rfl) ?_
          replace H := jx2 H hK131
          replace H := jx4 H hK53
          replace h : Fit z (sepL (L)) _ := h.sel 13 [] (by kernel_rfl) (by kernel_rfl)
          replace H := ej1 H; subst H
          exact ⟨rfl, h⟩
        ·
         replace H := ifF c137 H
         refine cond_ff hr (bF c137) ?_
         refine wp_skip ?_
         refine then_normal ?_
         replace hr := hr.fold2 [(2, .slice va2 p2.length vc2), (7, pA Bn4 0), (9, pA Bn12 0), (11, pA Bn21 0), (13, pA Bn28 0), (15, vI g71), (16, pA b74 0), (17, pA Bn21 0), (18, pA Bn4 0)] (by kernel_rfl); obtain ⟨j, hr⟩ := hr
         exact ⟨(), ca56, cc57, ca58, cc59, ca66, cc67, S55, S65, sinj H, j, hr, h⟩
       clear h hr a; rintro _ a w ⟨ca124, cc125, ca126, cc127, ca129, cc130, S123, S128, rfl, j, hr, h⟩
       replace H := jk2 hK131
       obtain ⟨o156, H, hK155⟩ := jd0 H
       refine cut_rule (β := Unit) (fun _ a w => .inl () = o156 ∧ ∃ j, Rep 138 (lk [(2, .slice va2 p2.length vc2), (7, pA Bn4 0), (9, pA Bn12 0), (11, pA Bn21 0), (13, pA Bn28 0), (15, vI g71), (16, pA b74 0), (17, pA Bn21 0), (18, pA Bn4 0)] j) a ∧ Fit z (sepL (ob62 Bn4 S123 ca124 cc125 ca126 cc127 :: ro2 ca124 cc125 S123.Held :: ro90 ca126 cc127 S123.Book :: ob62 Bn12 S60 ca61 cc62 ca63 cc64 :: ro2 ca61 cc62 S60.Held :: ro90 ca63 cc64 S60.Book :: ob110 Bn21 S128 ca129 cc130 :: ro107 ca129 cc130 S128.cell :: ob110 Bn28 S68 ca69 cc70 :: ro107 ca69 cc70 S68.cell :: ob30 b74 (at_ p2 g71.toNat) :: L)) w) ?_ ?_
       ·
        refine wp_seq ?_
        by_cases c157 : (at_ p2 g71.toNat).Kind = 7
        ·
         replace H := ifT c157 H
         obtain ⟨r158, e159, H⟩ := bd1 H
         refine reg_E (fun w => heldC w b74 1 ([vI (at_ p2 g71.toNat).Kind]) ∧ heldC w Bn4 0 ([vI S123.Most]) ∧ True) [0, 2, 5, 7, 8] h (by kernel_rfl) ?_; intro w h
         change wpAnyE _ _ _ _ _ _ 12 (Array.replicate 12 false) a w
         have hgo : ∀ w w', CellsGo w w' → (heldC w b74 1 ([vI (at_ p2 g71.toNat).Kind]) ∧ heldC w Bn4 0 ([vI S123.Most]) ∧ True) → heldC w' b74 1 ([vI (at_ p2 g71.toNat).Kind]) ∧ heldC w' Bn4 0 ([vI S123.Most]) ∧ True := fun w w' g hD => ⟨heldC_go _ _ _ _ _ g hD.1, heldC_go _ _ _ _ _ g hD.2.1, trivial⟩
         refine evDs hgo ⟨⟨(h.pick 10).cell 1 rfl, trivial⟩, ⟨h.cell 0 rfl, trivial⟩, trivial⟩ 11 0 rfl (wn rfl) hr (pA b74 1) fun a hr => ?_
         refine el [0, 2, 5, 7, 8] (b := b74) (off := 1) (cs := [vI (at_ p2 g71.toNat).Kind]) (fun _ hk => ⟨hk, fun w hD => hD.1⟩) 10 1 rfl (by kernel_rfl) (wn rfl) hr (vI (at_ p2 g71.toNat).Kind) ⟨(h.pick 10).cell 1 rfl, trivial⟩ (fun w hc => rl rfl (by kernel_rfl) (by kernel_rfl) hc.1) fun a hr => ?_
         refine evDs hgo ⟨⟨(h.pick 10).cell 1 rfl, trivial⟩, ⟨h.cell 0 rfl, trivial⟩, trivial⟩ 9 2 rfl (wn rfl) hr (vB ((at_ p2 g71.toNat).Kind == 7)) fun a hr => ?_
         refine evs 8 3 rfl (wn rfl) hr (vB ((at_ p2 g71.toNat).Kind == 7)) fun a hr => ?_
         refine evs 7 4 rfl (wgt hr (beq_iff_eq.mpr c157)) hr (pA Bn21 0) fun a hr => ?_
         refine evs 6 6 rfl (wgt hr (beq_iff_eq.mpr c157)) hr (pA Bn4 0) fun a hr => ?_
         refine evDs hgo ⟨⟨(h.pick 10).cell 1 rfl, trivial⟩, ⟨h.cell 0 rfl, trivial⟩, trivial⟩ 5 7 rfl (wgt hr (beq_iff_eq.mpr c157)) hr (pA Bn4 0) fun a hr => ?_
         refine evDs hgo ⟨⟨(h.pick 10).cell 1 rfl, trivial⟩, ⟨h.cell 0 rfl, trivial⟩, trivial⟩ 4 8 rfl (wgt hr (beq_iff_eq.mpr c157)) hr (pA Bn4 0) fun a hr => ?_
         refine el [0, 2, 5, 7, 8] (b := Bn4) (off := 0) (cs := [vI S123.Most]) (fun _ hk => ⟨hk, fun w hD => hD.2.1⟩) 3 9 rfl (by kernel_rfl) (wgt hr (beq_iff_eq.mpr c157)) hr (vI S123.Most) ⟨h.cell 0 rfl, trivial⟩ (fun w hc => rl rfl (by kernel_rfl) (by kernel_rfl) hc.1) fun a hr => ?_
         refine e_one (fuel := 2) (i := 5) (by kernel_rfl) rfl ?_
         replace h : Fit z (sepL (ob110 Bn21 S128 ca129 cc130 :: ro107 ca129 cc130 S128.cell :: ob62 Bn4 S123 ca124 cc125 ca126 cc127 :: ro2 ca124 cc125 S123.Held :: ro90 ca126 cc127 S123.Book :: ob62 Bn12 S60 ca61 cc62 ca63 cc64 :: ro2 ca61 cc62 S60.Held :: ro90 ca63 cc64 S60.Book :: ob110 Bn28 S68 ca69 cc70 :: ro107 ca69 cc70 S68.cell :: ob30 b74 (at_ p2 g71.toNat) :: L)) _ := h.sel 11 [6, 7, 0, 1, 2, 3, 4, 5, 8, 9, 10] (by kernel_rfl) (by kernel_rfl)
         have hc := cells_Shared_Size_ok (H := e159) (h := h)
         refine cl (wgt hr (beq_iff_eq.mpr c157)) hr hc ?_; clear hc h
         rintro _ w ⟨rfl, h⟩; refine ⟨_, rfl, fun a hr => ?_⟩
         refine wpList_nil ?_; refine then_normal ?_
         refine ⟨fun _ => ⟨⟨(h.pick 10).cell 1 rfl, trivial⟩, ⟨(h.pick 2).cell 0 rfl, trivial⟩, trivial⟩, ?_⟩
         refine evs 1 10 rfl (wgt hr (beq_iff_eq.mpr c157)) hr (vB (r158 != S123.Most)) fun a hr => ?_
         refine ev 0 11 rfl (by kernel_rfl) (wn rfl) hr (vB (r158 != S123.Most)) (fun w => rp_t (b := ((at_ p2 g71.toNat).Kind == 7)) rfl (by kernel_rfl) (beq_iff_eq.mpr c157) (by kernel_rfl)) fun a hr => ?_
         refine e_end (by kernel_rfl) ?_
         refine then_normal ?_
         by_cases c160 : r158 = S123.Most
         ·
          replace H := ifT c160 H
          refine cond_ff hr (bne_eq_false_iff_eq.mpr c160) ?_
          refine wp_skip ?_
          refine then_normal ?_
          replace hr := hr.fold2 [(2, .slice va2 p2.length vc2), (7, pA Bn4 0), (9, pA Bn12 0), (11, pA Bn21 0), (13, pA Bn28 0), (15, vI g71), (16, pA b74 0), (17, pA Bn21 0), (18, pA Bn4 0)] (by kernel_rfl); obtain ⟨j, hr⟩ := hr
          replace h : Fit z (sepL (ob62 Bn4 S123 ca124 cc125 ca126 cc127 :: ro2 ca124 cc125 S123.Held :: ro90 ca126 cc127 S123.Book :: ob62 Bn12 S60 ca61 cc62 ca63 cc64 :: ro2 ca61 cc62 S60.Held :: ro90 ca63 cc64 S60.Book :: ob110 Bn21 S128 ca129 cc130 :: ro107 ca129 cc130 S128.cell :: ob110 Bn28 S68 ca69 cc70 :: ro107 ca69 cc70 S68.cell :: ob30 b74 (at_ p2 g71.toNat) :: L)) _ := h.sel 11 [2, 3, 4, 5, 6, 7, 0, 1, 8, 9, 10] (by kernel_rfl) (by kernel_rfl)
          exact ⟨(), sinj H, j, hr, h⟩
         ·
          replace H := ifF c160 H
          refine cond_tt hr (bne_iff_ne.mpr c160) ?_
          refine sr ?_
          refine o1 hr (vB false) fun a hr => ?_
          refine ln ?_
          refine wp_ret ?_
          refine then_ret ?_
          refine blk_ret ?_
          refine then_ret ?_
          refine then_ret ?_
          refine blk_ret ?_
          refine then_ret ?_
          refine end_ret1 (v := vB false) rfl hr (by kernel_rfl) ?_
          replace H := jx0 H hK155
          replace H := jx4 H hK53
          replace h : Fit z (sepL (L)) _ := h.sel 11 [] (by kernel_rfl) (by kernel_rfl)
          replace H := ej1 H; subst H
          exact ⟨rfl, h⟩
        ·
         replace H := ifF c157 H
         refine reg_E (fun w => heldC w b74 1 ([vI (at_ p2 g71.toNat).Kind]) ∧ True) [0] h (by kernel_rfl) ?_; intro w h
         change wpAnyE _ _ _ _ _ _ 12 (Array.replicate 12 false) a w
         have hgo : ∀ w w', CellsGo w w' → (heldC w b74 1 ([vI (at_ p2 g71.toNat).Kind]) ∧ True) → heldC w' b74 1 ([vI (at_ p2 g71.toNat).Kind]) ∧ True := fun w w' g hD => ⟨heldC_go _ _ _ _ _ g hD.1, trivial⟩
         refine evDs hgo ⟨⟨(h.pick 10).cell 1 rfl, trivial⟩, trivial⟩ 11 0 rfl (wn rfl) hr (pA b74 1) fun a hr => ?_
         refine el [0] (b := b74) (off := 1) (cs := [vI (at_ p2 g71.toNat).Kind]) (fun _ hk => ⟨hk, fun w hD => hD.1⟩) 10 1 rfl (by kernel_rfl) (wn rfl) hr (vI (at_ p2 g71.toNat).Kind) ⟨(h.pick 10).cell 1 rfl, trivial⟩ (fun w hc => rl rfl (by kernel_rfl) (by kernel_rfl) hc.1) fun a hr => ?_
         refine evs 9 2 rfl (wn rfl) hr (vB ((at_ p2 g71.toNat).Kind == 7)) fun a hr => ?_
         refine evs 8 3 rfl (wn rfl) hr (vB ((at_ p2 g71.toNat).Kind == 7)) fun a hr => ?_
         refine eos 7 4 rfl (wgt hr (beq_eq_false_iff_ne.mpr c157)) hr fun a hr => ?_
         refine eos 6 6 rfl (wgt hr (beq_eq_false_iff_ne.mpr c157)) hr fun a hr => ?_
         refine eos 5 7 rfl (wgt hr (beq_eq_false_iff_ne.mpr c157)) hr fun a hr => ?_
         refine eos 4 8 rfl (wgt hr (beq_eq_false_iff_ne.mpr c157)) hr fun a hr => ?_
         refine eos 3 9 rfl (wgt hr (beq_eq_false_iff_ne.mpr c157)) hr fun a hr => ?_
         refine e_one (fuel := 2) (i := 5) (by kernel_rfl) rfl ?_
         refine offg (wgt hr (beq_eq_false_iff_ne.mpr c157)) hr fun a hr => ?_
         refine wpList_nil ?_; refine then_normal ?_
         refine ⟨fun hE => absurd hE (by decide), ?_⟩
         refine eos 1 10 rfl (wgt hr (beq_eq_false_iff_ne.mpr c157)) hr fun a hr => ?_
         refine ev 0 11 rfl (by kernel_rfl) (wn rfl) hr (vB false) (fun w => rp_f (b := ((at_ p2 g71.toNat).Kind == 7)) rfl (by kernel_rfl) (beq_eq_false_iff_ne.mpr c157) (by kernel_rfl)) fun a hr => ?_
         refine e_end (by kernel_rfl) ?_
         refine then_normal ?_
         refine cond_ff hr (b := false) rfl ?_
         refine wp_skip ?_
         refine then_normal ?_
         replace hr := hr.fold2 [(2, .slice va2 p2.length vc2), (7, pA Bn4 0), (9, pA Bn12 0), (11, pA Bn21 0), (13, pA Bn28 0), (15, vI g71), (16, pA b74 0), (17, pA Bn21 0), (18, pA Bn4 0)] (by kernel_rfl); obtain ⟨j, hr⟩ := hr
         exact ⟨(), sinj H, j, hr, h⟩
       clear h hr a; rintro _ a w ⟨rfl, j, hr, h⟩
       replace H := jk0 hK155
       refine wp_seq ?_
       by_cases c161 : (at_ p2 g71.toNat).Kind = 8
       ·
        replace H := ifT c161 H
        obtain ⟨r162, S163, e164, H⟩ := bd2 H
        refine reg_E (fun w => heldC w b74 1 ([vI (at_ p2 g71.toNat).Kind]) ∧ heldC w Bn4 1 ([.slice ca124 S123.Held.length cc125]) ∧ True) [0, 2, 5, 7, 8] h (by kernel_rfl) ?_; intro w h
        change wpAnyE _ _ _ _ _ _ 13 (Array.replicate 13 false) a w
        have hgo : ∀ w w', CellsGo w w' → (heldC w b74 1 ([vI (at_ p2 g71.toNat).Kind]) ∧ heldC w Bn4 1 ([.slice ca124 S123.Held.length cc125]) ∧ True) → heldC w' b74 1 ([vI (at_ p2 g71.toNat).Kind]) ∧ heldC w' Bn4 1 ([.slice ca124 S123.Held.length cc125]) ∧ True := fun w w' g hD => ⟨heldC_go _ _ _ _ _ g hD.1, heldC_go _ _ _ _ _ g hD.2.1, trivial⟩
        refine evDs hgo ⟨⟨(h.pick 10).cell 1 rfl, trivial⟩, ⟨h.cell 1 rfl, trivial⟩, trivial⟩ 12 0 rfl (wn rfl) hr (pA b74 1) fun a hr => ?_
        refine el [0, 2, 5, 7, 8] (b := b74) (off := 1) (cs := [vI (at_ p2 g71.toNat).Kind]) (fun _ hk => ⟨hk, fun w hD => hD.1⟩) 11 1 rfl (by kernel_rfl) (wn rfl) hr (vI (at_ p2 g71.toNat).Kind) ⟨(h.pick 10).cell 1 rfl, trivial⟩ (fun w hc => rl rfl (by kernel_rfl) (by kernel_rfl) hc.1) fun a hr => ?_
        refine evDs hgo ⟨⟨(h.pick 10).cell 1 rfl, trivial⟩, ⟨h.cell 1 rfl, trivial⟩, trivial⟩ 10 2 rfl (wn rfl) hr (vB ((at_ p2 g71.toNat).Kind == 8)) fun a hr => ?_
        refine evs 9 3 rfl (wn rfl) hr (vB ((at_ p2 g71.toNat).Kind == 8)) fun a hr => ?_
        refine evs 8 4 rfl (wgt hr (beq_iff_eq.mpr c161)) hr (pA Bn21 0) fun a hr => ?_
        refine evs 7 6 rfl (wgt hr (beq_iff_eq.mpr c161)) hr (pA Bn4 0) fun a hr => ?_
        refine evDs hgo ⟨⟨(h.pick 10).cell 1 rfl, trivial⟩, ⟨h.cell 1 rfl, trivial⟩, trivial⟩ 6 7 rfl (wgt hr (beq_iff_eq.mpr c161)) hr (pA Bn4 0) fun a hr => ?_
        refine evDs hgo ⟨⟨(h.pick 10).cell 1 rfl, trivial⟩, ⟨h.cell 1 rfl, trivial⟩, trivial⟩ 5 8 rfl (wgt hr (beq_iff_eq.mpr c161)) hr (pA Bn4 1) fun a hr => ?_
        refine el [0, 2, 5, 7, 8] (b := Bn4) (off := 1) (cs := [.slice ca124 S123.Held.length cc125]) (fun _ hk => ⟨hk, fun w hD => hD.2.1⟩) 4 9 rfl (by kernel_rfl) (wgt hr (beq_iff_eq.mpr c161)) hr (.slice ca124 S123.Held.length cc125) ⟨h.cell 1 rfl, trivial⟩ (fun w hc => rl rfl (by kernel_rfl) (by kernel_rfl) hc.1) fun a hr => ?_
        refine evs 3 10 rfl (wgt hr (beq_iff_eq.mpr c161)) hr (vI ((S123.Held.length : Nat) : Int)) fun a hr => ?_
        refine e_one (fuel := 2) (i := 5) (by kernel_rfl) rfl ?_
        replace h : Fit z (sepL (ob110 Bn21 S128 ca129 cc130 :: ro107 ca129 cc130 S128.cell :: ob62 Bn4 S123 ca124 cc125 ca126 cc127 :: ro2 ca124 cc125 S123.Held :: ro90 ca126 cc127 S123.Book :: ob62 Bn12 S60 ca61 cc62 ca63 cc64 :: ro2 ca61 cc62 S60.Held :: ro90 ca63 cc64 S60.Book :: ob110 Bn28 S68 ca69 cc70 :: ro107 ca69 cc70 S68.cell :: ob30 b74 (at_ p2 g71.toNat) :: L)) _ := h.sel 11 [6, 7, 0, 1, 2, 3, 4, 5, 8, 9, 10] (by kernel_rfl) (by kernel_rfl)
        have hc := cells_Shared_Mark_ok (H := e164) (h := h)
        refine cl (wgt hr (beq_iff_eq.mpr c161)) hr hc ?_; clear hc h
        rintro _ w ⟨caq165, ccq166, rfl, h⟩; refine ⟨_, rfl, fun a hr => ?_⟩
        refine wpList_nil ?_; refine then_normal ?_
        refine ⟨fun _ => ⟨⟨(h.pick 10).cell 1 rfl, trivial⟩, ⟨(h.pick 2).cell 1 rfl, trivial⟩, trivial⟩, ?_⟩
        refine evs 1 11 rfl (wgt hr (beq_iff_eq.mpr c161)) hr (vB (r162 != ((S123.Held.length : Nat) : Int))) fun a hr => ?_
        refine ev 0 12 rfl (by kernel_rfl) (wn rfl) hr (vB (r162 != ((S123.Held.length : Nat) : Int))) (fun w => rp_t (b := ((at_ p2 g71.toNat).Kind == 8)) rfl (by kernel_rfl) (beq_iff_eq.mpr c161) (by kernel_rfl)) fun a hr => ?_
        refine e_end (by kernel_rfl) ?_
        refine then_normal ?_
        by_cases c167 : r162 = ((S123.Held.length : Nat) : Int)
        ·
         replace H := ifT c167 H
         refine cond_ff hr (bne_eq_false_iff_eq.mpr c167) ?_
         refine wp_skip ?_
         refine blk_normal ?_
         refine then_normal ?_
         refine wp_region_lit ?_
         refine oo [67, 68, 15] [vI g71, vI (wi (g71 + 1)), vI (wi (g71 + 1))] hr fun a hr => ?_
         refine ln ?_
         replace hr := hr.fold2 [(2, .slice va2 p2.length vc2), (7, pA Bn4 0), (9, pA Bn12 0), (11, pA Bn21 0), (13, pA Bn28 0), (15, vI (wi (g71 + 1)))] (by kernel_rfl); obtain ⟨j, hr⟩ := hr
         replace h : Fit z (sepL (ob62 Bn4 S123 ca124 cc125 ca126 cc127 :: ro2 ca124 cc125 S123.Held :: ro90 ca126 cc127 S123.Book :: ob62 Bn12 S60 ca61 cc62 ca63 cc64 :: ro2 ca61 cc62 S60.Held :: ro90 ca63 cc64 S60.Book :: ob110 Bn21 S163 caq165 ccq166 :: ro107 caq165 ccq166 S163.cell :: ob110 Bn28 S68 ca69 cc70 :: ro107 ca69 cc70 S68.cell :: L)) _ := h.sel 11 [2, 3, 4, 5, 6, 7, 0, 1, 8, 9] (by kernel_rfl) (by kernel_rfl)
         exact ⟨_, ⟨ca124, cc125, ca126, cc127, ca61, cc62, ca63, cc64, caq165, ccq166, ca69, cc70, S123, S60, S163, S68, (wi (g71 + 1)), H, j, hr, h⟩, Nat.lt_succ_self _⟩
        ·
         replace H := ifF c167 H
         refine cond_tt hr (bne_iff_ne.mpr c167) ?_
         refine sr ?_
         refine o1 hr (vB false) fun a hr => ?_
         refine ln ?_
         refine wp_ret ?_
         refine blk_ret ?_
         refine then_ret ?_
         refine then_ret ?_
         refine blk_ret ?_
         refine then_ret ?_
         refine end_ret1 (v := vB false) rfl hr (by kernel_rfl) ?_
         replace H := jx4 H hK53
         replace h : Fit z (sepL (L)) _ := h.sel 11 [] (by kernel_rfl) (by kernel_rfl)
         replace H := ej1 H; subst H
         exact ⟨rfl, h⟩
       ·
        replace H := ifF c161 H
        refine reg_E (fun w => heldC w b74 1 ([vI (at_ p2 g71.toNat).Kind]) ∧ True) [0] h (by kernel_rfl) ?_; intro w h
        change wpAnyE _ _ _ _ _ _ 13 (Array.replicate 13 false) a w
        have hgo : ∀ w w', CellsGo w w' → (heldC w b74 1 ([vI (at_ p2 g71.toNat).Kind]) ∧ True) → heldC w' b74 1 ([vI (at_ p2 g71.toNat).Kind]) ∧ True := fun w w' g hD => ⟨heldC_go _ _ _ _ _ g hD.1, trivial⟩
        refine evDs hgo ⟨⟨(h.pick 10).cell 1 rfl, trivial⟩, trivial⟩ 12 0 rfl (wn rfl) hr (pA b74 1) fun a hr => ?_
        refine el [0] (b := b74) (off := 1) (cs := [vI (at_ p2 g71.toNat).Kind]) (fun _ hk => ⟨hk, fun w hD => hD.1⟩) 11 1 rfl (by kernel_rfl) (wn rfl) hr (vI (at_ p2 g71.toNat).Kind) ⟨(h.pick 10).cell 1 rfl, trivial⟩ (fun w hc => rl rfl (by kernel_rfl) (by kernel_rfl) hc.1) fun a hr => ?_
        refine evs 10 2 rfl (wn rfl) hr (vB ((at_ p2 g71.toNat).Kind == 8)) fun a hr => ?_
        refine evs 9 3 rfl (wn rfl) hr (vB ((at_ p2 g71.toNat).Kind == 8)) fun a hr => ?_
        refine eos 8 4 rfl (wgt hr (beq_eq_false_iff_ne.mpr c161)) hr fun a hr => ?_
        refine eos 7 6 rfl (wgt hr (beq_eq_false_iff_ne.mpr c161)) hr fun a hr => ?_
        refine eos 6 7 rfl (wgt hr (beq_eq_false_iff_ne.mpr c161)) hr fun a hr => ?_
        refine eos 5 8 rfl (wgt hr (beq_eq_false_iff_ne.mpr c161)) hr fun a hr => ?_
        refine eos 4 9 rfl (wgt hr (beq_eq_false_iff_ne.mpr c161)) hr fun a hr => ?_
        refine eos 3 10 rfl (wgt hr (beq_eq_false_iff_ne.mpr c161)) hr fun a hr => ?_
        refine e_one (fuel := 2) (i := 5) (by kernel_rfl) rfl ?_
        refine offg (wgt hr (beq_eq_false_iff_ne.mpr c161)) hr fun a hr => ?_
        refine wpList_nil ?_; refine then_normal ?_
        refine ⟨fun hE => absurd hE (by decide), ?_⟩
        refine eos 1 11 rfl (wgt hr (beq_eq_false_iff_ne.mpr c161)) hr fun a hr => ?_
        refine ev 0 12 rfl (by kernel_rfl) (wn rfl) hr (vB false) (fun w => rp_f (b := ((at_ p2 g71.toNat).Kind == 8)) rfl (by kernel_rfl) (beq_eq_false_iff_ne.mpr c161) (by kernel_rfl)) fun a hr => ?_
        refine e_end (by kernel_rfl) ?_
        refine then_normal ?_
        refine cond_ff hr (b := false) rfl ?_
        refine wp_skip ?_
        refine blk_normal ?_
        refine then_normal ?_
        refine wp_region_lit ?_
        refine oo [67, 68, 15] [vI g71, vI (wi (g71 + 1)), vI (wi (g71 + 1))] hr fun a hr => ?_
        refine ln ?_
        replace hr := hr.fold2 [(2, .slice va2 p2.length vc2), (7, pA Bn4 0), (9, pA Bn12 0), (11, pA Bn21 0), (13, pA Bn28 0), (15, vI (wi (g71 + 1)))] (by kernel_rfl); obtain ⟨j, hr⟩ := hr
        replace h : Fit z (sepL (ob62 Bn4 S123 ca124 cc125 ca126 cc127 :: ro2 ca124 cc125 S123.Held :: ro90 ca126 cc127 S123.Book :: ob62 Bn12 S60 ca61 cc62 ca63 cc64 :: ro2 ca61 cc62 S60.Held :: ro90 ca63 cc64 S60.Book :: ob110 Bn21 S128 ca129 cc130 :: ro107 ca129 cc130 S128.cell :: ob110 Bn28 S68 ca69 cc70 :: ro107 ca69 cc70 S68.cell :: L)) _ := h.sel 11 [0, 1, 2, 3, 4, 5, 6, 7, 8, 9] (by kernel_rfl) (by kernel_rfl)
        exact ⟨_, ⟨ca124, cc125, ca126, cc127, ca61, cc62, ca63, cc64, ca129, cc130, ca69, cc70, S123, S60, S128, S68, (wi (g71 + 1)), H, j, hr, h⟩, Nat.lt_succ_self _⟩
     ·
      replace H := ifF c72 H
      refine cond_ff hr (decide_eq_false c72) ?_
      refine wp_exit ?_
      refine then_exit ?_
      refine then_exit ?_
      refine blk_here ?_
      refine then_normal ?_
      replace hr := hr.fold2 [(7, pA Bn4 0), (9, pA Bn12 0), (11, pA Bn21 0), (13, pA Bn28 0)] (by kernel_rfl); obtain ⟨j, hr⟩ := hr
      exact ⟨(), ca56, cc57, ca58, cc59, ca61, cc62, ca63, cc64, ca66, cc67, ca69, cc70, S55, S60, S65, S68, sinj H, j, hr, h⟩
   clear h hr a; rintro _ a w ⟨ca38, cc39, ca40, cc41, ca43, cc44, ca45, cc46, ca48, cc49, ca51, cc52, S37, S42, S47, S50, rfl, j, hr, h⟩
   replace H := jk4 hK53
   refine sr ?_
   refine oo [124, 125, 126, 127] [pA Bn21 0, pA Bn4 0, pA Bn4 0, pA Bn4 1] hr fun a hr => ?_
   refine ld (wn rfl) hr (.slice ca38 S37.Held.length cc39) (h.cell 1 rfl) fun a hr => ?_
   obtain ⟨r168, S169, e170, H⟩ := bd2 H
   replace h : Fit z (sepL (ob110 Bn21 S47 ca48 cc49 :: ro107 ca48 cc49 S47.cell :: ob62 Bn4 S37 ca38 cc39 ca40 cc41 :: ro2 ca38 cc39 S37.Held :: ro90 ca40 cc41 S37.Book :: ob62 Bn12 S42 ca43 cc44 ca45 cc46 :: ro2 ca43 cc44 S42.Held :: ro90 ca45 cc46 S42.Book :: ob110 Bn28 S50 ca51 cc52 :: ro107 ca51 cc52 S50.cell :: L)) _ := h.sel 10 [6, 7, 0, 1, 2, 3, 4, 5, 8, 9] (by kernel_rfl) (by kernel_rfl)
   have hc := plunderlaw2_holds_ok (va1 := ca38) (vc1 := cc39) (hv1 := (RdRow.of_row encZ_i64_ok (h.pick 3) (fun h => (h.pick 1)))) (H := e170) (h := h)
   refine cl (wn rfl) hr hc ?_; clear hc h
   rintro _ w ⟨caq171, ccq172, rfl, h⟩; refine ⟨_, rfl, fun a hr => ?_⟩
   refine o1 hr (vB r168) fun a hr => ?_
   by_cases c173 : r168 = true
   ·
    replace H := ifT c173 H
    refine opv (wgt hr (c173)) hr (pA Bn28 0) (by kernel_rfl) fun a hr => ?_
    refine opv (wgt hr (c173)) hr (pA Bn12 0) (by kernel_rfl) fun a hr => ?_
    refine opv (wgt hr (c173)) hr (pA Bn12 0) (by kernel_rfl) fun a hr => ?_
    refine opv (wgt hr (c173)) hr (pA Bn12 1) (by kernel_rfl) fun a hr => ?_
    refine ld (wgt hr (c173)) hr (.slice ca43 S42.Held.length cc44) ((h.pick 5).cell 1 rfl) fun a hr => ?_
    obtain ⟨r174, S175, e176, H⟩ := bd2 H
    replace h : Fit z (sepL (ob110 Bn28 S50 ca51 cc52 :: ro107 ca51 cc52 S50.cell :: ob110 Bn21 S169 caq171 ccq172 :: ro107 caq171 ccq172 S169.cell :: ob62 Bn4 S37 ca38 cc39 ca40 cc41 :: ro2 ca38 cc39 S37.Held :: ro90 ca40 cc41 S37.Book :: ob62 Bn12 S42 ca43 cc44 ca45 cc46 :: ro2 ca43 cc44 S42.Held :: ro90 ca45 cc46 S42.Book :: L)) _ := h.sel 10 [8, 9, 0, 1, 2, 3, 4, 5, 6, 7] (by kernel_rfl) (by kernel_rfl)
    have hc := plunderlaw2_holds_ok (va1 := ca43) (vc1 := cc44) (hv1 := (RdRow.of_row encZ_i64_ok (h.pick 8) (fun h => (h.pick 6)))) (H := e176) (h := h)
    refine cl (wgt hr (c173)) hr hc ?_; clear hc h
    rintro _ w ⟨caq177, ccq178, rfl, h⟩; refine ⟨_, rfl, fun a hr => ?_⟩
    refine opv (wn rfl) hr (vB r174) (rp_t (b := r168) rfl (by kernel_rfl) (c173) (by kernel_rfl)) fun a hr => ?_
    refine o1 hr (vB r174) fun a hr => ?_
    refine ln ?_
    refine wp_ret ?_
    refine end_ret1 (v := vB r174) rfl hr (by kernel_rfl) ?_
    replace h : Fit z (sepL (L)) _ := h.sel 10 [] (by kernel_rfl) (by kernel_rfl)
    replace H := ej1 H; subst H
    exact ⟨rfl, h⟩
   ·
    replace H := ifF c173 H
    refine offg (wgt hr (bF c173)) hr fun a hr => ?_
    refine offg (wgt hr (bF c173)) hr fun a hr => ?_
    refine offg (wgt hr (bF c173)) hr fun a hr => ?_
    refine offg (wgt hr (bF c173)) hr fun a hr => ?_
    refine offg (wgt hr (bF c173)) hr fun a hr => ?_
    refine offg (wgt hr (bF c173)) hr fun a hr => ?_
    refine opv (wn rfl) hr (vB false) (rp_f (b := r168) rfl (by kernel_rfl) (bF c173) (by kernel_rfl)) fun a hr => ?_
    refine o1 hr (vB false) fun a hr => ?_
    refine ln ?_
    refine wp_ret ?_
    refine end_ret1 (v := vB false) rfl hr (by kernel_rfl) ?_
    replace h : Fit z (sepL (L)) _ := h.sel 10 [] (by kernel_rfl) (by kernel_rfl)
    replace H := ej1 H; subst H
    exact ⟨rfl, h⟩
  | none =>
   have hc := cells_NewShared_ok1 (H := e26) (h := h)
   refine cl (wn rfl) hr hc ?_; clear hc h
   rintro _ w ⟨rfl, h⟩; refine ⟨_, rfl, fun a hr => ?_⟩
   refine oo [36, 39, 40, 13, 14] [.tuple #[pN, vI r25], pN, vI r25, pN, vI r25] hr fun a hr => ?_
   refine ln ?_
   obtain ⟨o180, H, hK179⟩ := jd0 H
   refine cut_rule (β := Unit) (fun _ a w => .inl () = o180 ∧ ∃ j, Rep 138 (lk [(2, .slice va2 p2.length vc2), (7, pA Bn4 0), (9, pA Bn12 0), (11, pA Bn21 0), (13, pN)] j) a ∧ Fit z (sepL (ob62 Bn4 r1 car5 ccr6 car7 ccr8 :: ro2 car5 ccr6 r1.Held :: ro90 car7 ccr8 r1.Book :: ob62 Bn12 r9 car13 ccr14 car15 ccr16 :: ro2 car13 ccr14 r9.Held :: ro90 car15 ccr16 r9.Book :: ob110 Bn21 S20 car22 ccr23 :: ro107 car22 ccr23 S20.cell :: L)) w) ?_ ?_
   ·
    refine sr ?_
    refine oo [41, 42, 43, 44] [vI r18, vI r2, vB (r18 != r2), vB (r18 != r2)] hr fun a hr => ?_
    by_cases c181 : r18 = r2
    ·
     replace H := ifT c181 H
     refine opv (wgt hr (bne_eq_false_iff_eq.mpr c181)) hr (vI r25) (by kernel_rfl) fun a hr => ?_
     refine opv (wgt hr (bne_eq_false_iff_eq.mpr c181)) hr (vI r10) (by kernel_rfl) fun a hr => ?_
     refine opv (wgt hr (bne_eq_false_iff_eq.mpr c181)) hr (vB (r25 != r10)) (by kernel_rfl) fun a hr => ?_
     refine opv (wn rfl) hr (vB (r25 != r10)) (rp_f (b := (r18 != r2)) rfl (by kernel_rfl) (bne_eq_false_iff_eq.mpr c181) (by kernel_rfl)) fun a hr => ?_
     refine o1 hr (vB (r25 != r10)) fun a hr => ?_
     by_cases c182 : r25 = r10
     ·
      replace H := ifT c182 H
      refine opv (wgt hr (bne_eq_false_iff_eq.mpr c182)) hr (pA Bn21 0) (by kernel_rfl) fun a hr => ?_
      refine opv (wgt hr (bne_eq_false_iff_eq.mpr c182)) hr (vB false) (by kernel_rfl) fun a hr => ?_
      refine opv (wgt hr (bne_eq_false_iff_eq.mpr c182)) hr (vI r2) (by kernel_rfl) fun a hr => ?_
      refine opv (wgt hr (bne_eq_false_iff_eq.mpr c182)) hr (vB (r2 != 0)) (by kernel_rfl) fun a hr => ?_
      refine opv (wgt hr (bne_eq_false_iff_eq.mpr c182)) hr (vB (!(false == (r2 != 0)))) (by kernel_rfl) fun a hr => ?_
      refine opv (wn rfl) hr (vB (!(false == (r2 != 0)))) (rp_f (b := (r25 != r10)) rfl (by kernel_rfl) (bne_eq_false_iff_eq.mpr c182) (by kernel_rfl)) fun a hr => ?_
      refine o1 hr (vB (!(false == (r2 != 0)))) fun a hr => ?_
      by_cases c183 : false = (r2 != 0)
      ·
       replace H := ifT c183 H
       refine opv (wgt hr (x := !(false == (r2 != 0))) (c := false) (by rw [show (false == (r2 != 0)) = true from (beq_iff_eq.mpr c183)]; rfl)) hr (pN) (by kernel_rfl) fun a hr => ?_
       refine opv (wgt hr (x := !(false == (r2 != 0))) (c := false) (by rw [show (false == (r2 != 0)) = true from (beq_iff_eq.mpr c183)]; rfl)) hr (vB true) (by kernel_rfl) fun a hr => ?_
       refine opv (wgt hr (x := !(false == (r2 != 0))) (c := false) (by rw [show (false == (r2 != 0)) = true from (beq_iff_eq.mpr c183)]; rfl)) hr (vI r10) (by kernel_rfl) fun a hr => ?_
       refine opv (wgt hr (x := !(false == (r2 != 0))) (c := false) (by rw [show (false == (r2 != 0)) = true from (beq_iff_eq.mpr c183)]; rfl)) hr (vB (r10 != 0)) (by kernel_rfl) fun a hr => ?_
       refine opv (wgt hr (x := !(false == (r2 != 0))) (c := false) (by rw [show (false == (r2 != 0)) = true from (beq_iff_eq.mpr c183)]; rfl)) hr (vB (!(true == (r10 != 0)))) (by kernel_rfl) fun a hr => ?_
       refine opv (wn rfl) hr (vB (!(true == (r10 != 0)))) (rp_f (b := (!(false == (r2 != 0)))) rfl (by kernel_rfl) (by rw [show (false == (r2 != 0)) = true from (beq_iff_eq.mpr c183)]; rfl) (by kernel_rfl)) fun a hr => ?_
       refine ln ?_
       by_cases c184 : true = (r10 != 0)
       ·
        replace H := ifT c184 H
        refine cond_ff hr (b := (!(true == (r10 != 0)))) (by rw [show (true == (r10 != 0)) = true from (beq_iff_eq.mpr c184)]; rfl) ?_
        refine wp_skip ?_
        refine then_normal ?_
        replace hr := hr.fold2 [(2, .slice va2 p2.length vc2), (7, pA Bn4 0), (9, pA Bn12 0), (11, pA Bn21 0), (13, pN)] (by kernel_rfl); obtain ⟨j, hr⟩ := hr
        replace h : Fit z (sepL (ob62 Bn4 r1 car5 ccr6 car7 ccr8 :: ro2 car5 ccr6 r1.Held :: ro90 car7 ccr8 r1.Book :: ob62 Bn12 r9 car13 ccr14 car15 ccr16 :: ro2 car13 ccr14 r9.Held :: ro90 car15 ccr16 r9.Book :: ob110 Bn21 S20 car22 ccr23 :: ro107 car22 ccr23 S20.cell :: L)) _ := h.sel 8 [5, 6, 7, 2, 3, 4, 0, 1] (by kernel_rfl) (by kernel_rfl)
        exact ⟨(), sinj H, j, hr, h⟩
       ·
        replace H := ifF c184 H
        refine cond_tt hr (b := (!(true == (r10 != 0)))) (by rw [show (true == (r10 != 0)) = false from (beq_eq_false_iff_ne.mpr c184)]; rfl) ?_
        refine sr ?_
        refine o1 hr (vB false) fun a hr => ?_
        refine ln ?_
        refine wp_ret ?_
        refine then_ret ?_
        refine end_ret1 (v := vB false) rfl hr (by kernel_rfl) ?_
        replace H := jx0 H hK179
        replace h : Fit z (sepL (L)) _ := h.sel 8 [] (by kernel_rfl) (by kernel_rfl)
        replace H := ej1 H; subst H
        exact ⟨rfl, h⟩
      ·
       replace H := ifF c183 H
       refine offg (wgt hr (x := !(false == (r2 != 0))) (c := true) (by rw [show (false == (r2 != 0)) = false from (beq_eq_false_iff_ne.mpr c183)]; rfl)) hr fun a hr => ?_
       refine offg (wgt hr (x := !(false == (r2 != 0))) (c := true) (by rw [show (false == (r2 != 0)) = false from (beq_eq_false_iff_ne.mpr c183)]; rfl)) hr fun a hr => ?_
       refine offg (wgt hr (x := !(false == (r2 != 0))) (c := true) (by rw [show (false == (r2 != 0)) = false from (beq_eq_false_iff_ne.mpr c183)]; rfl)) hr fun a hr => ?_
       refine offg (wgt hr (x := !(false == (r2 != 0))) (c := true) (by rw [show (false == (r2 != 0)) = false from (beq_eq_false_iff_ne.mpr c183)]; rfl)) hr fun a hr => ?_
       refine offg (wgt hr (x := !(false == (r2 != 0))) (c := true) (by rw [show (false == (r2 != 0)) = false from (beq_eq_false_iff_ne.mpr c183)]; rfl)) hr fun a hr => ?_
       refine opv (wn rfl) hr (vB true) (rp_t (b := (!(false == (r2 != 0)))) rfl (by kernel_rfl) (by rw [show (false == (r2 != 0)) = false from (beq_eq_false_iff_ne.mpr c183)]; rfl) (by kernel_rfl)) fun a hr => ?_
       refine ln ?_
       refine cond_tt hr (b := true) rfl ?_
       refine sr ?_
       refine o1 hr (vB false) fun a hr => ?_
       refine ln ?_
       refine wp_ret ?_
       refine then_ret ?_
       refine end_ret1 (v := vB false) rfl hr (by kernel_rfl) ?_
       replace H := jx0 H hK179
       replace h : Fit z (sepL (L)) _ := h.sel 8 [] (by kernel_rfl) (by kernel_rfl)
       replace H := ej1 H; subst H
       exact ⟨rfl, h⟩
     ·
      replace H := ifF c182 H
      refine offg (wgt hr (bne_iff_ne.mpr c182)) hr fun a hr => ?_
      refine offg (wgt hr (bne_iff_ne.mpr c182)) hr fun a hr => ?_
      refine offg (wgt hr (bne_iff_ne.mpr c182)) hr fun a hr => ?_
      refine offg (wgt hr (bne_iff_ne.mpr c182)) hr fun a hr => ?_
      refine offg (wgt hr (bne_iff_ne.mpr c182)) hr fun a hr => ?_
      refine opv (wn rfl) hr (vB true) (rp_t (b := (r25 != r10)) rfl (by kernel_rfl) (bne_iff_ne.mpr c182) (by kernel_rfl)) fun a hr => ?_
      refine o1 hr (vB true) fun a hr => ?_
      refine offg (wgt hr (c := true) rfl) hr fun a hr => ?_
      refine offg (wgt hr (c := true) rfl) hr fun a hr => ?_
      refine offg (wgt hr (c := true) rfl) hr fun a hr => ?_
      refine offg (wgt hr (c := true) rfl) hr fun a hr => ?_
      refine offg (wgt hr (c := true) rfl) hr fun a hr => ?_
      refine o1 hr (vB true) fun a hr => ?_
      refine ln ?_
      refine cond_tt hr (b := true) rfl ?_
      refine sr ?_
      refine o1 hr (vB false) fun a hr => ?_
      refine ln ?_
      refine wp_ret ?_
      refine then_ret ?_
      refine end_ret1 (v := vB false) rfl hr (by kernel_rfl) ?_
      replace H := jx0 H hK179
      replace h : Fit z (sepL (L)) _ := h.sel 8 [] (by kernel_rfl) (by kernel_rfl)
      replace H := ej1 H; subst H
      exact ⟨rfl, h⟩
    ·
     replace H := ifF c181 H
     refine offg (wgt hr (bne_iff_ne.mpr c181)) hr fun a hr => ?_
     refine offg (wgt hr (bne_iff_ne.mpr c181)) hr fun a hr => ?_
     refine offg (wgt hr (bne_iff_ne.mpr c181)) hr fun a hr => ?_
     refine opv (wn rfl) hr (vB true) (rp_t (b := (r18 != r2)) rfl (by kernel_rfl) (bne_iff_ne.mpr c181) (by kernel_rfl)) fun a hr => ?_
     refine o1 hr (vB true) fun a hr => ?_
     refine offg (wgt hr (c := true) rfl) hr fun a hr => ?_
     refine offg (wgt hr (c := true) rfl) hr fun a hr => ?_
     refine offg (wgt hr (c := true) rfl) hr fun a hr => ?_
     refine offg (wgt hr (c := true) rfl) hr fun a hr => ?_
     refine offg (wgt hr (c := true) rfl) hr fun a hr => ?_
     refine oo [55, 56] [vB true, vB true] hr fun a hr => ?_
     refine offg (wgt hr (c := true) rfl) hr fun a hr => ?_
     refine offg (wgt hr (c := true) rfl) hr fun a hr => ?_
     refine offg (wgt hr (c := true) rfl) hr fun a hr => ?_
     refine offg (wgt hr (c := true) rfl) hr fun a hr => ?_
     refine offg (wgt hr (c := true) rfl) hr fun a hr => ?_
     refine o1 hr (vB true) fun a hr => ?_
     refine ln ?_
     refine cond_tt hr (b := true) rfl ?_
     refine sr ?_
     refine o1 hr (vB false) fun a hr => ?_
     refine ln ?_
     refine wp_ret ?_
     refine then_ret ?_
     refine end_ret1 (v := vB false) rfl hr (by kernel_rfl) ?_
     replace H := jx0 H hK179
     replace h : Fit z (sepL (L)) _ := h.sel 8 [] (by kernel_rfl) (by kernel_rfl)
     replace H := ej1 H; subst H
     exact ⟨rfl, h⟩
   clear h hr a; rintro _ a w ⟨rfl, j, hr, h⟩
   replace H := jk0 hK179
   obtain ⟨o199, H, hK198⟩ := jd3 H
   refine cut_rule (β := Unit) (fun _ a w => ∃ ca186 : Option Addr, ∃ cc187 : Nat, ∃ ca188 : Option Addr, ∃ cc189 : Nat, ∃ ca191 : Option Addr, ∃ cc192 : Nat, ∃ ca193 : Option Addr, ∃ cc194 : Nat, ∃ ca196 : Option Addr, ∃ cc197 : Nat, ∃ S185 : T_plunderref2_Arena, ∃ S190 : T_plunderref2_Arena, ∃ S195 : T_cells_Shared, .inl (S185, S190, S195) = o199 ∧ ∃ j, Rep 138 (lk [(7, pA Bn4 0), (9, pA Bn12 0), (11, pA Bn21 0), (13, pN)] j) a ∧ Fit z (sepL (ob62 Bn4 S185 ca186 cc187 ca188 cc189 :: ro2 ca186 cc187 S185.Held :: ro90 ca188 cc189 S185.Book :: ob62 Bn12 S190 ca191 cc192 ca193 cc194 :: ro2 ca191 cc192 S190.Held :: ro90 ca193 cc194 S190.Book :: ob110 Bn21 S195 ca196 cc197 :: ro107 ca196 cc197 S195.cell :: L)) w) ?_ ?_
   ·
    refine sr ?_
    refine o1 hr (vI 0) fun a hr => ?_
    refine ln ?_
    refine wp_block ?_
    replace hr := hr.fold2 [(2, .slice va2 p2.length vc2), (7, pA Bn4 0), (9, pA Bn12 0), (11, pA Bn21 0), (13, pN), (15, vI 0)] (by kernel_rfl); obtain ⟨j, hr⟩ := hr
    refine loop_rule (β := Nat) id (fun m a w => ∃ ca201 : Option Addr, ∃ cc202 : Nat, ∃ ca203 : Option Addr, ∃ cc204 : Nat, ∃ ca206 : Option Addr, ∃ cc207 : Nat, ∃ ca208 : Option Addr, ∃ cc209 : Nat, ∃ ca211 : Option Addr, ∃ cc212 : Nat, ∃ S200 : T_plunderref2_Arena, ∃ S205 : T_plunderref2_Arena, ∃ S210 : T_cells_Shared, ∃ g213 : Int, (plunderlaw2_CellsShared_l2 K p2 m S200 S205 S210 g213) = some o199 ∧ ∃ j, Rep 138 (lk [(2, .slice va2 p2.length vc2), (7, pA Bn4 0), (9, pA Bn12 0), (11, pA Bn21 0), (13, pN), (15, vI g213)] j) a ∧ Fit z (sepL (ob62 Bn4 S200 ca201 cc202 ca203 cc204 :: ro2 ca201 cc202 S200.Held :: ro90 ca203 cc204 S200.Book :: ob62 Bn12 S205 ca206 cc207 ca208 cc209 :: ro2 ca206 cc207 S205.Held :: ro90 ca208 cc209 S205.Book :: ob110 Bn21 S210 ca211 cc212 :: ro107 ca211 cc212 S210.cell :: L)) w) K ⟨car5, ccr6, car7, ccr8, car13, ccr14, car15, ccr16, car22, ccr23, r1, r9, S20, 0, H, j, hr, h⟩ ?_
    clear h hr a H; rintro k2 a w ⟨ca201, cc202, ca203, cc204, ca206, cc207, ca208, cc209, ca211, cc212, S200, S205, S210, g213, H, j, hr, h⟩
    cases k2 with
    | zero => exact absurd H (by simp [plunderlaw2_CellsShared_l2])
    | succ k2 =>
     rw [plunderlaw2_CellsShared_l2] at H
     refine wp_seq ?_
     refine sr ?_
     refine oo [63, 64, 65, 66] [vI g213, .slice va2 p2.length vc2, vI ((p2.length : Nat) : Int), vB (decide (g213 < ((p2.length : Nat) : Int)))] hr fun a hr => ?_
     refine ln ?_
     by_cases c214 : g213 < ((p2.length : Nat) : Int)
     ·
      replace H := ifT c214 H
      refine cond_tt hr (decide_eq_true c214) ?_
      refine wp_skip ?_
      refine then_normal ?_
      refine wp_seq ?_
      refine wp_block ?_
      refine sr ?_
      obtain ⟨c215, H⟩ := gd H
      refine oo [69, 70] [.slice va2 p2.length vc2, vI g213] hr fun a hr => ?_
      refine opv (wn rfl) hr (pA (blk va2) (offs va2 + g213.toNat * 5)) (ri_rd (k := .i64) (E := 30) (cc := vc2) rfl (by kernel_rfl) (by kernel_rfl) rfl (by kernel_rfl) (by kernel_rfl) hv2 c215) fun a hr => ?_
      refine ldm (wn rfl) hr (ag_T_plunderlaw2_Move (at_ p2 g213.toNat)) (cs := cl_T_plunderlaw2_Move (at_ p2 g213.toNat)) ⟨hv2.cell c215 (h.dn 8) 0 rfl, hv2.cell c215 (h.dn 8) 1 rfl, hv2.cell c215 (h.dn 8) 2 rfl, hv2.cell c215 (h.dn 8) 3 rfl, hv2.cell c215 (h.dn 8) 4 rfl, trivial⟩ fun a hr => ?_
      refine onew (wn rfl) hr h nb (#[vI 0, vI 0, vI 0, vI 0, vI 0]) 30 fun b216 w a h hr => ?_
      refine stos (wn rfl) hr h 0 (cl_T_plunderlaw2_Move (at_ p2 g213.toNat)) (ca_T_plunderlaw2_Move (at_ p2 g213.toNat)) fun w h => ?_
      refine wpList_nil ?_
      replace h : Fit z (sepL (ob30 b216 (at_ p2 g213.toNat) :: ob62 Bn4 S200 ca201 cc202 ca203 cc204 :: ro2 ca201 cc202 S200.Held :: ro90 ca203 cc204 S200.Book :: ob62 Bn12 S205 ca206 cc207 ca208 cc209 :: ro2 ca206 cc207 S205.Held :: ro90 ca208 cc209 S205.Book :: ob110 Bn21 S210 ca211 cc212 :: ro107 ca211 cc212 S210.cell :: L)) _ := h
      refine then_normal ?_
      refine sr ?_
      refine oo [73, 17] [pA Bn21 0, pA Bn21 0] hr fun a hr => ?_
      refine ln ?_
      refine sr ?_
      refine oo [74, 18] [pA Bn4 0, pA Bn4 0] hr fun a hr => ?_
      refine ln ?_
      refine wp_seq ?_
      refine sr ?_
      refine o1 hr (pA b216 0) fun a hr => ?_
      refine ld (wn rfl) hr (vI (at_ p2 g213.toNat).Side) (h.cell 0 rfl) fun a hr => ?_
      obtain ⟨r217, e218, H⟩ := bd1 H
      have hc := plunderlaw2_mod_ok (H := e218) (h := h)
      refine cl (wn rfl) hr hc ?_; clear hc h
      rintro _ w ⟨rfl, h⟩; refine ⟨_, rfl, fun a hr => ?_⟩
      refine o1 hr (vB (r217 == 1)) fun a hr => ?_
      refine ln ?_
      by_cases c219 : r217 = 1
      ·
       replace H := ifT c219 H
       refine cond_tt hr (beq_iff_eq.mpr c219) ?_
       refine sr ?_
       refine oo [79, 17] [pN, pN] hr fun a hr => ?_
       refine ln ?_
       refine wp_region_lit ?_
       refine oo [80, 18] [pA Bn12 0, pA Bn12 0] hr fun a hr => ?_
       refine ln ?_
       obtain ⟨o226, H, hK225⟩ := jd1 H
       refine cut_rule (β := Unit) (fun _ a w => ∃ ca221 : Option Addr, ∃ cc222 : Nat, ∃ ca223 : Option Addr, ∃ cc224 : Nat, ∃ S220 : T_plunderref2_Arena, .inl S220 = o226 ∧ ∃ j, Rep 138 (lk [(2, .slice va2 p2.length vc2), (7, pA Bn4 0), (9, pA Bn12 0), (11, pA Bn21 0), (13, pN), (15, vI g213), (16, pA b216 0), (17, pN), (18, pA Bn12 0)] j) a ∧ Fit z (sepL (ob62 Bn4 S200 ca201 cc202 ca203 cc204 :: ro2 ca201 cc202 S200.Held :: ro90 ca203 cc204 S200.Book :: ob62 Bn12 S220 ca221 cc222 ca223 cc224 :: ro2 ca221 cc222 S220.Held :: ro90 ca223 cc224 S220.Book :: ob110 Bn21 S210 ca211 cc212 :: ro107 ca211 cc212 S210.cell :: ob30 b216 (at_ p2 g213.toNat) :: L)) w) ?_ ?_
       ·
        obtain ⟨o229, H, hK228⟩ := kd1 H
        refine cut_rule (β := Unit) (fun _ a w => ∃ g227 : Bool, g227 = o229 ∧ ∃ j, Rep 138 (lk [(2, .slice va2 p2.length vc2), (7, pA Bn4 0), (9, pA Bn12 0), (11, pA Bn21 0), (13, pN), (15, vI g213), (16, pA b216 0), (17, pN), (18, pA Bn12 0), (88, vB g227)] j) a ∧ Fit z (sepL (ob62 Bn4 S200 ca201 cc202 ca203 cc204 :: ro2 ca201 cc202 S200.Held :: ro90 ca203 cc204 S200.Book :: ob62 Bn12 S205 ca206 cc207 ca208 cc209 :: ro2 ca206 cc207 S205.Held :: ro90 ca208 cc209 S205.Book :: ob110 Bn21 S210 ca211 cc212 :: ro107 ca211 cc212 S210.cell :: ob30 b216 (at_ p2 g213.toNat) :: L)) w) ?_ ?_
        ·
         refine wp_region_lit ?_
         refine o1 hr (pA b216 1) fun a hr => ?_
         refine ld (wn rfl) hr (vI (at_ p2 g213.toNat).Kind) (h.cell 1 rfl) fun a hr => ?_
         refine oo [83, 84] [vB (decide ((at_ p2 g213.toNat).Kind ≥ 0)), vB (decide ((at_ p2 g213.toNat).Kind ≥ 0))] hr fun a hr => ?_
         by_cases c230 : (at_ p2 g213.toNat).Kind ≥ 0
         ·
          replace H := ifT c230 H
          refine opv (wgt hr (decide_eq_true c230)) hr (pA b216 1) (by kernel_rfl) fun a hr => ?_
          refine ld (wgt hr (decide_eq_true c230)) hr (vI (at_ p2 g213.toNat).Kind) (h.cell 1 rfl) fun a hr => ?_
          refine opv (wgt hr (decide_eq_true c230)) hr (vB (decide ((at_ p2 g213.toNat).Kind ≤ 4))) (by kernel_rfl) fun a hr => ?_
          refine opv (wn rfl) hr (vB (decide ((at_ p2 g213.toNat).Kind ≤ 4))) (rp_t (b := (decide ((at_ p2 g213.toNat).Kind ≥ 0))) rfl (by kernel_rfl) (decide_eq_true c230) (by kernel_rfl)) fun a hr => ?_
          refine ln ?_
          replace hr := hr.fold2 [(2, .slice va2 p2.length vc2), (7, pA Bn4 0), (9, pA Bn12 0), (11, pA Bn21 0), (13, pN), (15, vI g213), (16, pA b216 0), (17, pN), (18, pA Bn12 0), (88, vB (decide ((at_ p2 g213.toNat).Kind ≤ 4)))] (by kernel_rfl); obtain ⟨j, hr⟩ := hr
          replace h : Fit z (sepL (ob62 Bn4 S200 ca201 cc202 ca203 cc204 :: ro2 ca201 cc202 S200.Held :: ro90 ca203 cc204 S200.Book :: ob62 Bn12 S205 ca206 cc207 ca208 cc209 :: ro2 ca206 cc207 S205.Held :: ro90 ca208 cc209 S205.Book :: ob110 Bn21 S210 ca211 cc212 :: ro107 ca211 cc212 S210.cell :: ob30 b216 (at_ p2 g213.toNat) :: L)) _ := h.sel 9 [1, 2, 3, 4, 5, 6, 7, 8, 0] (by kernel_rfl) (by kernel_rfl)
          exact ⟨(), (decide ((at_ p2 g213.toNat).Kind ≤ 4)), sinj H, j, hr, h⟩
         ·
          replace H := ifF c230 H
          refine offg (wgt hr (decide_eq_false c230)) hr fun a hr => ?_
          refine offg (wgt hr (decide_eq_false c230)) hr fun a hr => ?_
          refine offg (wgt hr (decide_eq_false c230)) hr fun a hr => ?_
          refine opv (wn rfl) hr (vB false) (rp_f (b := (decide ((at_ p2 g213.toNat).Kind ≥ 0))) rfl (by kernel_rfl) (decide_eq_false c230) (by kernel_rfl)) fun a hr => ?_
          refine ln ?_
          replace hr := hr.fold2 [(2, .slice va2 p2.length vc2), (7, pA Bn4 0), (9, pA Bn12 0), (11, pA Bn21 0), (13, pN), (15, vI g213), (16, pA b216 0), (17, pN), (18, pA Bn12 0), (88, vB false)] (by kernel_rfl); obtain ⟨j, hr⟩ := hr
          replace h : Fit z (sepL (ob62 Bn4 S200 ca201 cc202 ca203 cc204 :: ro2 ca201 cc202 S200.Held :: ro90 ca203 cc204 S200.Book :: ob62 Bn12 S205 ca206 cc207 ca208 cc209 :: ro2 ca206 cc207 S205.Held :: ro90 ca208 cc209 S205.Book :: ob110 Bn21 S210 ca211 cc212 :: ro107 ca211 cc212 S210.cell :: ob30 b216 (at_ p2 g213.toNat) :: L)) _ := h.sel 9 [1, 2, 3, 4, 5, 6, 7, 8, 0] (by kernel_rfl) (by kernel_rfl)
          exact ⟨(), false, sinj H, j, hr, h⟩
        clear h hr a; rintro _ a w ⟨g227, rfl, j, hr, h⟩
        replace H := kk1 hK228
        by_cases c231 : g227 = true
        ·
         replace H := ifT c231 H
         refine cond_tt hr (c231) ?_
         refine sr ?_
         refine o1 hr (pN) fun a hr => ?_
         refine ldm (wn rfl) hr (ag_T_plunderlaw2_Move (at_ p2 g213.toNat)) (cs := cl_T_plunderlaw2_Move (at_ p2 g213.toNat)) ((h.pick 8).held 0 rfl) fun a hr => ?_
         obtain ⟨r232, e233, H⟩ := bd1 H
         have hc := plunderlaw2_shared_nil_ok (H := e233) (h := h)
         refine cl (wn rfl) hr hc ?_; clear hc h
         rintro _ w ⟨rfl, h⟩; refine ⟨_, rfl, fun a hr => ?_⟩
         refine onew (wn rfl) hr h nb (#[vI 0, vB false, vI 0]) 39 fun b234 w a h hr => ?_
         refine stos (wn rfl) hr h 0 (cl_T_api_Effect r232) (ca_T_api_Effect r232) fun w h => ?_
         refine wpList_nil ?_
         replace h : Fit z (sepL (ob39 b234 r232 :: ob62 Bn4 S200 ca201 cc202 ca203 cc204 :: ro2 ca201 cc202 S200.Held :: ro90 ca203 cc204 S200.Book :: ob62 Bn12 S205 ca206 cc207 ca208 cc209 :: ro2 ca206 cc207 S205.Held :: ro90 ca208 cc209 S205.Book :: ob110 Bn21 S210 ca211 cc212 :: ro107 ca211 cc212 S210.cell :: ob30 b216 (at_ p2 g213.toNat) :: L)) _ := h
         refine then_normal ?_
         refine sr ?_
         refine o1 hr (pA Bn12 0) fun a hr => ?_
         refine ldm (wn rfl) hr (ag_T_plunderlaw2_Move (at_ p2 g213.toNat)) (cs := cl_T_plunderlaw2_Move (at_ p2 g213.toNat)) ((h.pick 9).held 0 rfl) fun a hr => ?_
         obtain ⟨r235, e236, H⟩ := bd1 H
         have hc := plunderlaw2_act_ok (H := e236) (h := h)
         refine cl (wn rfl) hr hc ?_; clear hc h
         rintro _ w ⟨rfl, h⟩; refine ⟨_, rfl, fun a hr => ?_⟩
         obtain ⟨r237, S238, e239, H⟩ := bd2 H
         replace h : Fit z (sepL (ob62 Bn12 S205 ca206 cc207 ca208 cc209 :: ro2 ca206 cc207 S205.Held :: ro90 ca208 cc209 S205.Book :: ob39 b234 r232 :: ob62 Bn4 S200 ca201 cc202 ca203 cc204 :: ro2 ca201 cc202 S200.Held :: ro90 ca203 cc204 S200.Book :: ob110 Bn21 S210 ca211 cc212 :: ro107 ca211 cc212 S210.cell :: ob30 b216 (at_ p2 g213.toNat) :: L)) _ := h.sel 10 [4, 5, 6, 0, 1, 2, 3, 7, 8, 9] (by kernel_rfl) (by kernel_rfl)
         have hc := plunderref2_Arena_Do_ok (H := e239) (h := h)
         refine cl (wn rfl) hr hc ?_; clear hc h
         rintro _ w ⟨caq240, ccq241, caq242, ccq243, rfl, h⟩; refine ⟨_, rfl, fun a hr => ?_⟩
         refine onew (wn rfl) hr h nb (#[vI 0, vB false, vI 0]) 39 fun b244 w a h hr => ?_
         refine stos (wn rfl) hr h 0 (cl_T_api_Effect r237) (ca_T_api_Effect r237) fun w h => ?_
         refine wpList_nil ?_
         replace h : Fit z (sepL (ob39 b244 r237 :: ob62 Bn12 S238 caq240 ccq241 caq242 ccq243 :: ro2 caq240 ccq241 S238.Held :: ro90 caq242 ccq243 S238.Book :: ob39 b234 r232 :: ob62 Bn4 S200 ca201 cc202 ca203 cc204 :: ro2 ca201 cc202 S200.Held :: ro90 ca203 cc204 S200.Book :: ob110 Bn21 S210 ca211 cc212 :: ro107 ca211 cc212 S210.cell :: ob30 b216 (at_ p2 g213.toNat) :: L)) _ := h
         refine then_normal ?_
         refine sr ?_
         refine ldm (wn rfl) hr (ag_T_api_Effect r232) (cs := cl_T_api_Effect r232) ((h.pick 4).held 0 rfl) fun a hr => ?_
         refine ldm (wn rfl) hr (ag_T_api_Effect r237) (cs := cl_T_api_Effect r237) (h.held 0 rfl) fun a hr => ?_
         refine opv (wn rfl) hr (vB (!(decide (r232 = r237)))) (rb (rne rfl (by kernel_rfl) (by kernel_rfl) (by kernel_rfl) (by kernel_rfl) (by kernel_rfl) (by kernel_rfl)) (congrArg (!·) (eq_T_api_Effect r232 r237))) fun a hr => ?_
         refine ln ?_
         by_cases c245 : r232 = r237
         ·
          replace H := ifT c245 H
          refine cond_ff hr (b := (!(decide (r232 = r237)))) (by rw [show (decide (r232 = r237)) = true from (decide_eq_true c245)]; rfl) ?_
          refine wp_skip ?_
          refine then_normal ?_
          replace hr := hr.fold2 [(2, .slice va2 p2.length vc2), (7, pA Bn4 0), (9, pA Bn12 0), (11, pA Bn21 0), (13, pN), (15, vI g213), (16, pA b216 0), (17, pN), (18, pA Bn12 0)] (by kernel_rfl); obtain ⟨j, hr⟩ := hr
          replace h : Fit z (sepL (ob62 Bn4 S200 ca201 cc202 ca203 cc204 :: ro2 ca201 cc202 S200.Held :: ro90 ca203 cc204 S200.Book :: ob62 Bn12 S238 caq240 ccq241 caq242 ccq243 :: ro2 caq240 ccq241 S238.Held :: ro90 caq242 ccq243 S238.Book :: ob110 Bn21 S210 ca211 cc212 :: ro107 ca211 cc212 S210.cell :: ob30 b216 (at_ p2 g213.toNat) :: L)) _ := h.sel 11 [5, 6, 7, 1, 2, 3, 8, 9, 10] (by kernel_rfl) (by kernel_rfl)
          exact ⟨(), caq240, ccq241, caq242, ccq243, S238, sinj H, j, hr, h⟩
         ·
          replace H := ifF c245 H
          refine cond_tt hr (b := (!(decide (r232 = r237)))) (by rw [show (decide (r232 = r237)) = false from (decide_eq_false c245)]; rfl) ?_
          refine sr ?_
          refine o1 hr (vB false) fun a hr => ?_
          refine ln ?_
          refine wp_ret ?_
          refine then_ret ?_
          refine blk_ret ?_
          refine then_ret ?_
          refine then_ret ?_
          refine blk_ret ?_
          refine then_ret ?_
          refine end_ret1 (v := vB false) rfl hr (by kernel_rfl) ?_
          replace H := jx1 H hK225
          replace H := jx3 H hK198
          replace h : Fit z (sepL (L)) _ := h.sel 11 [] (by kernel_rfl) (by kernel_rfl)
          replace H := ej1 H; subst H
          exact ⟨rfl, h⟩
        ·
         replace H := ifF c231 H
         refine cond_ff hr (bF c231) ?_
         refine wp_skip ?_
         refine then_normal ?_
         replace hr := hr.fold2 [(2, .slice va2 p2.length vc2), (7, pA Bn4 0), (9, pA Bn12 0), (11, pA Bn21 0), (13, pN), (15, vI g213), (16, pA b216 0), (17, pN), (18, pA Bn12 0)] (by kernel_rfl); obtain ⟨j, hr⟩ := hr
         exact ⟨(), ca206, cc207, ca208, cc209, S205, sinj H, j, hr, h⟩
       clear h hr a; rintro _ a w ⟨ca221, cc222, ca223, cc224, S220, rfl, j, hr, h⟩
       replace H := jk1 hK225
       obtain ⟨o247, H, hK246⟩ := jd0 H
       refine cut_rule (β := Unit) (fun _ a w => .inl () = o247 ∧ ∃ j, Rep 138 (lk [(2, .slice va2 p2.length vc2), (7, pA Bn4 0), (9, pA Bn12 0), (11, pA Bn21 0), (13, pN), (15, vI g213), (16, pA b216 0), (17, pN), (18, pA Bn12 0)] j) a ∧ Fit z (sepL (ob62 Bn4 S200 ca201 cc202 ca203 cc204 :: ro2 ca201 cc202 S200.Held :: ro90 ca203 cc204 S200.Book :: ob62 Bn12 S220 ca221 cc222 ca223 cc224 :: ro2 ca221 cc222 S220.Held :: ro90 ca223 cc224 S220.Book :: ob110 Bn21 S210 ca211 cc212 :: ro107 ca211 cc212 S210.cell :: ob30 b216 (at_ p2 g213.toNat) :: L)) w) ?_ ?_
       ·
        refine wp_seq ?_
        by_cases c248 : (at_ p2 g213.toNat).Kind = 7
        ·
         replace H := ifT c248 H
         obtain ⟨r249, e250, H⟩ := bd1 H
         refine reg_E (fun w => heldC w b216 1 ([vI (at_ p2 g213.toNat).Kind]) ∧ heldC w Bn12 0 ([vI S220.Most]) ∧ True) [0, 2, 5, 7, 8] h (by kernel_rfl) ?_; intro w h
         change wpAnyE _ _ _ _ _ _ 12 (Array.replicate 12 false) a w
         have hgo : ∀ w w', CellsGo w w' → (heldC w b216 1 ([vI (at_ p2 g213.toNat).Kind]) ∧ heldC w Bn12 0 ([vI S220.Most]) ∧ True) → heldC w' b216 1 ([vI (at_ p2 g213.toNat).Kind]) ∧ heldC w' Bn12 0 ([vI S220.Most]) ∧ True := fun w w' g hD => ⟨heldC_go _ _ _ _ _ g hD.1, heldC_go _ _ _ _ _ g hD.2.1, trivial⟩
         refine evDs hgo ⟨⟨(h.pick 8).cell 1 rfl, trivial⟩, ⟨(h.pick 3).cell 0 rfl, trivial⟩, trivial⟩ 11 0 rfl (wn rfl) hr (pA b216 1) fun a hr => ?_
         refine el [0, 2, 5, 7, 8] (b := b216) (off := 1) (cs := [vI (at_ p2 g213.toNat).Kind]) (fun _ hk => ⟨hk, fun w hD => hD.1⟩) 10 1 rfl (by kernel_rfl) (wn rfl) hr (vI (at_ p2 g213.toNat).Kind) ⟨(h.pick 8).cell 1 rfl, trivial⟩ (fun w hc => rl rfl (by kernel_rfl) (by kernel_rfl) hc.1) fun a hr => ?_
         refine evDs hgo ⟨⟨(h.pick 8).cell 1 rfl, trivial⟩, ⟨(h.pick 3).cell 0 rfl, trivial⟩, trivial⟩ 9 2 rfl (wn rfl) hr (vB ((at_ p2 g213.toNat).Kind == 7)) fun a hr => ?_
         refine evs 8 3 rfl (wn rfl) hr (vB ((at_ p2 g213.toNat).Kind == 7)) fun a hr => ?_
         refine evs 7 4 rfl (wgt hr (beq_iff_eq.mpr c248)) hr (pN) fun a hr => ?_
         refine evs 6 6 rfl (wgt hr (beq_iff_eq.mpr c248)) hr (pA Bn12 0) fun a hr => ?_
         refine evDs hgo ⟨⟨(h.pick 8).cell 1 rfl, trivial⟩, ⟨(h.pick 3).cell 0 rfl, trivial⟩, trivial⟩ 5 7 rfl (wgt hr (beq_iff_eq.mpr c248)) hr (pA Bn12 0) fun a hr => ?_
         refine evDs hgo ⟨⟨(h.pick 8).cell 1 rfl, trivial⟩, ⟨(h.pick 3).cell 0 rfl, trivial⟩, trivial⟩ 4 8 rfl (wgt hr (beq_iff_eq.mpr c248)) hr (pA Bn12 0) fun a hr => ?_
         refine el [0, 2, 5, 7, 8] (b := Bn12) (off := 0) (cs := [vI S220.Most]) (fun _ hk => ⟨hk, fun w hD => hD.2.1⟩) 3 9 rfl (by kernel_rfl) (wgt hr (beq_iff_eq.mpr c248)) hr (vI S220.Most) ⟨(h.pick 3).cell 0 rfl, trivial⟩ (fun w hc => rl rfl (by kernel_rfl) (by kernel_rfl) hc.1) fun a hr => ?_
         refine e_one (fuel := 2) (i := 5) (by kernel_rfl) rfl ?_
         have hc := cells_Shared_Size_nil_ok (H := e250) (h := h)
         refine cl (wgt hr (beq_iff_eq.mpr c248)) hr hc ?_; clear hc h
         rintro _ w ⟨rfl, h⟩; refine ⟨_, rfl, fun a hr => ?_⟩
         refine wpList_nil ?_; refine then_normal ?_
         refine ⟨fun _ => ⟨⟨(h.pick 8).cell 1 rfl, trivial⟩, ⟨(h.pick 3).cell 0 rfl, trivial⟩, trivial⟩, ?_⟩
         refine evs 1 10 rfl (wgt hr (beq_iff_eq.mpr c248)) hr (vB (r249 != S220.Most)) fun a hr => ?_
         refine ev 0 11 rfl (by kernel_rfl) (wn rfl) hr (vB (r249 != S220.Most)) (fun w => rp_t (b := ((at_ p2 g213.toNat).Kind == 7)) rfl (by kernel_rfl) (beq_iff_eq.mpr c248) (by kernel_rfl)) fun a hr => ?_
         refine e_end (by kernel_rfl) ?_
         refine then_normal ?_
         by_cases c251 : r249 = S220.Most
         ·
          replace H := ifT c251 H
          refine cond_ff hr (bne_eq_false_iff_eq.mpr c251) ?_
          refine wp_skip ?_
          refine then_normal ?_
          replace hr := hr.fold2 [(2, .slice va2 p2.length vc2), (7, pA Bn4 0), (9, pA Bn12 0), (11, pA Bn21 0), (13, pN), (15, vI g213), (16, pA b216 0), (17, pN), (18, pA Bn12 0)] (by kernel_rfl); obtain ⟨j, hr⟩ := hr
          exact ⟨(), sinj H, j, hr, h⟩
         ·
          replace H := ifF c251 H
          refine cond_tt hr (bne_iff_ne.mpr c251) ?_
          refine sr ?_
          refine o1 hr (vB false) fun a hr => ?_
          refine ln ?_
          refine wp_ret ?_
          refine then_ret ?_
          refine blk_ret ?_
          refine then_ret ?_
          refine then_ret ?_
          refine blk_ret ?_
          refine then_ret ?_
          refine end_ret1 (v := vB false) rfl hr (by kernel_rfl) ?_
          replace H := jx0 H hK246
          replace H := jx3 H hK198
          replace h : Fit z (sepL (L)) _ := h.sel 9 [] (by kernel_rfl) (by kernel_rfl)
          replace H := ej1 H; subst H
          exact ⟨rfl, h⟩
        ·
         replace H := ifF c248 H
         refine reg_E (fun w => heldC w b216 1 ([vI (at_ p2 g213.toNat).Kind]) ∧ True) [0] h (by kernel_rfl) ?_; intro w h
         change wpAnyE _ _ _ _ _ _ 12 (Array.replicate 12 false) a w
         have hgo : ∀ w w', CellsGo w w' → (heldC w b216 1 ([vI (at_ p2 g213.toNat).Kind]) ∧ True) → heldC w' b216 1 ([vI (at_ p2 g213.toNat).Kind]) ∧ True := fun w w' g hD => ⟨heldC_go _ _ _ _ _ g hD.1, trivial⟩
         refine evDs hgo ⟨⟨(h.pick 8).cell 1 rfl, trivial⟩, trivial⟩ 11 0 rfl (wn rfl) hr (pA b216 1) fun a hr => ?_
         refine el [0] (b := b216) (off := 1) (cs := [vI (at_ p2 g213.toNat).Kind]) (fun _ hk => ⟨hk, fun w hD => hD.1⟩) 10 1 rfl (by kernel_rfl) (wn rfl) hr (vI (at_ p2 g213.toNat).Kind) ⟨(h.pick 8).cell 1 rfl, trivial⟩ (fun w hc => rl rfl (by kernel_rfl) (by kernel_rfl) hc.1) fun a hr => ?_
         refine evs 9 2 rfl (wn rfl) hr (vB ((at_ p2 g213.toNat).Kind == 7)) fun a hr => ?_
         refine evs 8 3 rfl (wn rfl) hr (vB ((at_ p2 g213.toNat).Kind == 7)) fun a hr => ?_
         refine eos 7 4 rfl (wgt hr (beq_eq_false_iff_ne.mpr c248)) hr fun a hr => ?_
         refine eos 6 6 rfl (wgt hr (beq_eq_false_iff_ne.mpr c248)) hr fun a hr => ?_
         refine eos 5 7 rfl (wgt hr (beq_eq_false_iff_ne.mpr c248)) hr fun a hr => ?_
         refine eos 4 8 rfl (wgt hr (beq_eq_false_iff_ne.mpr c248)) hr fun a hr => ?_
         refine eos 3 9 rfl (wgt hr (beq_eq_false_iff_ne.mpr c248)) hr fun a hr => ?_
         refine e_one (fuel := 2) (i := 5) (by kernel_rfl) rfl ?_
         refine offg (wgt hr (beq_eq_false_iff_ne.mpr c248)) hr fun a hr => ?_
         refine wpList_nil ?_; refine then_normal ?_
         refine ⟨fun hE => absurd hE (by decide), ?_⟩
         refine eos 1 10 rfl (wgt hr (beq_eq_false_iff_ne.mpr c248)) hr fun a hr => ?_
         refine ev 0 11 rfl (by kernel_rfl) (wn rfl) hr (vB false) (fun w => rp_f (b := ((at_ p2 g213.toNat).Kind == 7)) rfl (by kernel_rfl) (beq_eq_false_iff_ne.mpr c248) (by kernel_rfl)) fun a hr => ?_
         refine e_end (by kernel_rfl) ?_
         refine then_normal ?_
         refine cond_ff hr (b := false) rfl ?_
         refine wp_skip ?_
         refine then_normal ?_
         replace hr := hr.fold2 [(2, .slice va2 p2.length vc2), (7, pA Bn4 0), (9, pA Bn12 0), (11, pA Bn21 0), (13, pN), (15, vI g213), (16, pA b216 0), (17, pN), (18, pA Bn12 0)] (by kernel_rfl); obtain ⟨j, hr⟩ := hr
         exact ⟨(), sinj H, j, hr, h⟩
       clear h hr a; rintro _ a w ⟨rfl, j, hr, h⟩
       replace H := jk0 hK246
       refine wp_seq ?_
       by_cases c252 : (at_ p2 g213.toNat).Kind = 8
       ·
        replace H := ifT c252 H
        obtain ⟨r253, e254, H⟩ := bd1 H
        refine reg_E (fun w => heldC w b216 1 ([vI (at_ p2 g213.toNat).Kind]) ∧ heldC w Bn12 1 ([.slice ca221 S220.Held.length cc222]) ∧ True) [0, 2, 5, 7, 8] h (by kernel_rfl) ?_; intro w h
        change wpAnyE _ _ _ _ _ _ 13 (Array.replicate 13 false) a w
        have hgo : ∀ w w', CellsGo w w' → (heldC w b216 1 ([vI (at_ p2 g213.toNat).Kind]) ∧ heldC w Bn12 1 ([.slice ca221 S220.Held.length cc222]) ∧ True) → heldC w' b216 1 ([vI (at_ p2 g213.toNat).Kind]) ∧ heldC w' Bn12 1 ([.slice ca221 S220.Held.length cc222]) ∧ True := fun w w' g hD => ⟨heldC_go _ _ _ _ _ g hD.1, heldC_go _ _ _ _ _ g hD.2.1, trivial⟩
        refine evDs hgo ⟨⟨(h.pick 8).cell 1 rfl, trivial⟩, ⟨(h.pick 3).cell 1 rfl, trivial⟩, trivial⟩ 12 0 rfl (wn rfl) hr (pA b216 1) fun a hr => ?_
        refine el [0, 2, 5, 7, 8] (b := b216) (off := 1) (cs := [vI (at_ p2 g213.toNat).Kind]) (fun _ hk => ⟨hk, fun w hD => hD.1⟩) 11 1 rfl (by kernel_rfl) (wn rfl) hr (vI (at_ p2 g213.toNat).Kind) ⟨(h.pick 8).cell 1 rfl, trivial⟩ (fun w hc => rl rfl (by kernel_rfl) (by kernel_rfl) hc.1) fun a hr => ?_
        refine evDs hgo ⟨⟨(h.pick 8).cell 1 rfl, trivial⟩, ⟨(h.pick 3).cell 1 rfl, trivial⟩, trivial⟩ 10 2 rfl (wn rfl) hr (vB ((at_ p2 g213.toNat).Kind == 8)) fun a hr => ?_
        refine evs 9 3 rfl (wn rfl) hr (vB ((at_ p2 g213.toNat).Kind == 8)) fun a hr => ?_
        refine evs 8 4 rfl (wgt hr (beq_iff_eq.mpr c252)) hr (pN) fun a hr => ?_
        refine evs 7 6 rfl (wgt hr (beq_iff_eq.mpr c252)) hr (pA Bn12 0) fun a hr => ?_
        refine evDs hgo ⟨⟨(h.pick 8).cell 1 rfl, trivial⟩, ⟨(h.pick 3).cell 1 rfl, trivial⟩, trivial⟩ 6 7 rfl (wgt hr (beq_iff_eq.mpr c252)) hr (pA Bn12 0) fun a hr => ?_
        refine evDs hgo ⟨⟨(h.pick 8).cell 1 rfl, trivial⟩, ⟨(h.pick 3).cell 1 rfl, trivial⟩, trivial⟩ 5 8 rfl (wgt hr (beq_iff_eq.mpr c252)) hr (pA Bn12 1) fun a hr => ?_
        refine el [0, 2, 5, 7, 8] (b := Bn12) (off := 1) (cs := [.slice ca221 S220.Held.length cc222]) (fun _ hk => ⟨hk, fun w hD => hD.2.1⟩) 4 9 rfl (by kernel_rfl) (wgt hr (beq_iff_eq.mpr c252)) hr (.slice ca221 S220.Held.length cc222) ⟨(h.pick 3).cell 1 rfl, trivial⟩ (fun w hc => rl rfl (by kernel_rfl) (by kernel_rfl) hc.1) fun a hr => ?_
        refine evs 3 10 rfl (wgt hr (beq_iff_eq.mpr c252)) hr (vI ((S220.Held.length : Nat) : Int)) fun a hr => ?_
        refine e_one (fuel := 2) (i := 5) (by kernel_rfl) rfl ?_
        have hc := cells_Shared_Mark_nil_ok (H := e254) (h := h)
        refine cl (wgt hr (beq_iff_eq.mpr c252)) hr hc ?_; clear hc h
        rintro _ w ⟨rfl, h⟩; refine ⟨_, rfl, fun a hr => ?_⟩
        refine wpList_nil ?_; refine then_normal ?_
        refine ⟨fun _ => ⟨⟨(h.pick 8).cell 1 rfl, trivial⟩, ⟨(h.pick 3).cell 1 rfl, trivial⟩, trivial⟩, ?_⟩
        refine evs 1 11 rfl (wgt hr (beq_iff_eq.mpr c252)) hr (vB (r253 != ((S220.Held.length : Nat) : Int))) fun a hr => ?_
        refine ev 0 12 rfl (by kernel_rfl) (wn rfl) hr (vB (r253 != ((S220.Held.length : Nat) : Int))) (fun w => rp_t (b := ((at_ p2 g213.toNat).Kind == 8)) rfl (by kernel_rfl) (beq_iff_eq.mpr c252) (by kernel_rfl)) fun a hr => ?_
        refine e_end (by kernel_rfl) ?_
        refine then_normal ?_
        by_cases c255 : r253 = ((S220.Held.length : Nat) : Int)
        ·
         replace H := ifT c255 H
         refine cond_ff hr (bne_eq_false_iff_eq.mpr c255) ?_
         refine wp_skip ?_
         refine blk_normal ?_
         refine then_normal ?_
         refine wp_region_lit ?_
         refine oo [67, 68, 15] [vI g213, vI (wi (g213 + 1)), vI (wi (g213 + 1))] hr fun a hr => ?_
         refine ln ?_
         replace hr := hr.fold2 [(2, .slice va2 p2.length vc2), (7, pA Bn4 0), (9, pA Bn12 0), (11, pA Bn21 0), (13, pN), (15, vI (wi (g213 + 1)))] (by kernel_rfl); obtain ⟨j, hr⟩ := hr
         replace h : Fit z (sepL (ob62 Bn4 S200 ca201 cc202 ca203 cc204 :: ro2 ca201 cc202 S200.Held :: ro90 ca203 cc204 S200.Book :: ob62 Bn12 S220 ca221 cc222 ca223 cc224 :: ro2 ca221 cc222 S220.Held :: ro90 ca223 cc224 S220.Book :: ob110 Bn21 S210 ca211 cc212 :: ro107 ca211 cc212 S210.cell :: L)) _ := h.sel 9 [0, 1, 2, 3, 4, 5, 6, 7] (by kernel_rfl) (by kernel_rfl)
         exact ⟨_, ⟨ca201, cc202, ca203, cc204, ca221, cc222, ca223, cc224, ca211, cc212, S200, S220, S210, (wi (g213 + 1)), H, j, hr, h⟩, Nat.lt_succ_self _⟩
        ·
         replace H := ifF c255 H
         refine cond_tt hr (bne_iff_ne.mpr c255) ?_
         refine sr ?_
         refine o1 hr (vB false) fun a hr => ?_
         refine ln ?_
         refine wp_ret ?_
         refine blk_ret ?_
         refine then_ret ?_
         refine then_ret ?_
         refine blk_ret ?_
         refine then_ret ?_
         refine end_ret1 (v := vB false) rfl hr (by kernel_rfl) ?_
         replace H := jx3 H hK198
         replace h : Fit z (sepL (L)) _ := h.sel 9 [] (by kernel_rfl) (by kernel_rfl)
         replace H := ej1 H; subst H
         exact ⟨rfl, h⟩
       ·
        replace H := ifF c252 H
        refine reg_E (fun w => heldC w b216 1 ([vI (at_ p2 g213.toNat).Kind]) ∧ True) [0] h (by kernel_rfl) ?_; intro w h
        change wpAnyE _ _ _ _ _ _ 13 (Array.replicate 13 false) a w
        have hgo : ∀ w w', CellsGo w w' → (heldC w b216 1 ([vI (at_ p2 g213.toNat).Kind]) ∧ True) → heldC w' b216 1 ([vI (at_ p2 g213.toNat).Kind]) ∧ True := fun w w' g hD => ⟨heldC_go _ _ _ _ _ g hD.1, trivial⟩
        refine evDs hgo ⟨⟨(h.pick 8).cell 1 rfl, trivial⟩, trivial⟩ 12 0 rfl (wn rfl) hr (pA b216 1) fun a hr => ?_
        refine el [0] (b := b216) (off := 1) (cs := [vI (at_ p2 g213.toNat).Kind]) (fun _ hk => ⟨hk, fun w hD => hD.1⟩) 11 1 rfl (by kernel_rfl) (wn rfl) hr (vI (at_ p2 g213.toNat).Kind) ⟨(h.pick 8).cell 1 rfl, trivial⟩ (fun w hc => rl rfl (by kernel_rfl) (by kernel_rfl) hc.1) fun a hr => ?_
        refine evs 10 2 rfl (wn rfl) hr (vB ((at_ p2 g213.toNat).Kind == 8)) fun a hr => ?_
        refine evs 9 3 rfl (wn rfl) hr (vB ((at_ p2 g213.toNat).Kind == 8)) fun a hr => ?_
        refine eos 8 4 rfl (wgt hr (beq_eq_false_iff_ne.mpr c252)) hr fun a hr => ?_
        refine eos 7 6 rfl (wgt hr (beq_eq_false_iff_ne.mpr c252)) hr fun a hr => ?_
        refine eos 6 7 rfl (wgt hr (beq_eq_false_iff_ne.mpr c252)) hr fun a hr => ?_
        refine eos 5 8 rfl (wgt hr (beq_eq_false_iff_ne.mpr c252)) hr fun a hr => ?_
        refine eos 4 9 rfl (wgt hr (beq_eq_false_iff_ne.mpr c252)) hr fun a hr => ?_
        refine eos 3 10 rfl (wgt hr (beq_eq_false_iff_ne.mpr c252)) hr fun a hr => ?_
        refine e_one (fuel := 2) (i := 5) (by kernel_rfl) rfl ?_
        refine offg (wgt hr (beq_eq_false_iff_ne.mpr c252)) hr fun a hr => ?_
        refine wpList_nil ?_; refine then_normal ?_
        refine ⟨fun hE => absurd hE (by decide), ?_⟩
        refine eos 1 11 rfl (wgt hr (beq_eq_false_iff_ne.mpr c252)) hr fun a hr => ?_
        refine ev 0 12 rfl (by kernel_rfl) (wn rfl) hr (vB false) (fun w => rp_f (b := ((at_ p2 g213.toNat).Kind == 8)) rfl (by kernel_rfl) (beq_eq_false_iff_ne.mpr c252) (by kernel_rfl)) fun a hr => ?_
        refine e_end (by kernel_rfl) ?_
        refine then_normal ?_
        refine cond_ff hr (b := false) rfl ?_
        refine wp_skip ?_
        refine blk_normal ?_
        refine then_normal ?_
        refine wp_region_lit ?_
        refine oo [67, 68, 15] [vI g213, vI (wi (g213 + 1)), vI (wi (g213 + 1))] hr fun a hr => ?_
        refine ln ?_
        replace hr := hr.fold2 [(2, .slice va2 p2.length vc2), (7, pA Bn4 0), (9, pA Bn12 0), (11, pA Bn21 0), (13, pN), (15, vI (wi (g213 + 1)))] (by kernel_rfl); obtain ⟨j, hr⟩ := hr
        replace h : Fit z (sepL (ob62 Bn4 S200 ca201 cc202 ca203 cc204 :: ro2 ca201 cc202 S200.Held :: ro90 ca203 cc204 S200.Book :: ob62 Bn12 S220 ca221 cc222 ca223 cc224 :: ro2 ca221 cc222 S220.Held :: ro90 ca223 cc224 S220.Book :: ob110 Bn21 S210 ca211 cc212 :: ro107 ca211 cc212 S210.cell :: L)) _ := h.sel 9 [0, 1, 2, 3, 4, 5, 6, 7] (by kernel_rfl) (by kernel_rfl)
        exact ⟨_, ⟨ca201, cc202, ca203, cc204, ca221, cc222, ca223, cc224, ca211, cc212, S200, S220, S210, (wi (g213 + 1)), H, j, hr, h⟩, Nat.lt_succ_self _⟩
      ·
       replace H := ifF c219 H
       refine cond_ff hr (beq_eq_false_iff_ne.mpr c219) ?_
       refine wp_skip ?_
       refine then_normal ?_
       obtain ⟨o265, H, hK264⟩ := jd2 H
       refine cut_rule (β := Unit) (fun _ a w => ∃ ca257 : Option Addr, ∃ cc258 : Nat, ∃ ca259 : Option Addr, ∃ cc260 : Nat, ∃ ca262 : Option Addr, ∃ cc263 : Nat, ∃ S256 : T_plunderref2_Arena, ∃ S261 : T_cells_Shared, .inl (S256, S261) = o265 ∧ ∃ j, Rep 138 (lk [(2, .slice va2 p2.length vc2), (7, pA Bn4 0), (9, pA Bn12 0), (11, pA Bn21 0), (13, pN), (15, vI g213), (16, pA b216 0), (17, pA Bn21 0), (18, pA Bn4 0)] j) a ∧ Fit z (sepL (ob62 Bn4 S256 ca257 cc258 ca259 cc260 :: ro2 ca257 cc258 S256.Held :: ro90 ca259 cc260 S256.Book :: ob62 Bn12 S205 ca206 cc207 ca208 cc209 :: ro2 ca206 cc207 S205.Held :: ro90 ca208 cc209 S205.Book :: ob110 Bn21 S261 ca262 cc263 :: ro107 ca262 cc263 S261.cell :: ob30 b216 (at_ p2 g213.toNat) :: L)) w) ?_ ?_
       ·
        obtain ⟨o268, H, hK267⟩ := kd1 H
        refine cut_rule (β := Unit) (fun _ a w => ∃ g266 : Bool, g266 = o268 ∧ ∃ j, Rep 138 (lk [(2, .slice va2 p2.length vc2), (7, pA Bn4 0), (9, pA Bn12 0), (11, pA Bn21 0), (13, pN), (15, vI g213), (16, pA b216 0), (17, pA Bn21 0), (18, pA Bn4 0), (88, vB g266)] j) a ∧ Fit z (sepL (ob62 Bn4 S200 ca201 cc202 ca203 cc204 :: ro2 ca201 cc202 S200.Held :: ro90 ca203 cc204 S200.Book :: ob62 Bn12 S205 ca206 cc207 ca208 cc209 :: ro2 ca206 cc207 S205.Held :: ro90 ca208 cc209 S205.Book :: ob110 Bn21 S210 ca211 cc212 :: ro107 ca211 cc212 S210.cell :: ob30 b216 (at_ p2 g213.toNat) :: L)) w) ?_ ?_
        ·
         refine wp_region_lit ?_
         refine o1 hr (pA b216 1) fun a hr => ?_
         refine ld (wn rfl) hr (vI (at_ p2 g213.toNat).Kind) (h.cell 1 rfl) fun a hr => ?_
         refine oo [83, 84] [vB (decide ((at_ p2 g213.toNat).Kind ≥ 0)), vB (decide ((at_ p2 g213.toNat).Kind ≥ 0))] hr fun a hr => ?_
         by_cases c269 : (at_ p2 g213.toNat).Kind ≥ 0
         ·
          replace H := ifT c269 H
          refine opv (wgt hr (decide_eq_true c269)) hr (pA b216 1) (by kernel_rfl) fun a hr => ?_
          refine ld (wgt hr (decide_eq_true c269)) hr (vI (at_ p2 g213.toNat).Kind) (h.cell 1 rfl) fun a hr => ?_
          refine opv (wgt hr (decide_eq_true c269)) hr (vB (decide ((at_ p2 g213.toNat).Kind ≤ 4))) (by kernel_rfl) fun a hr => ?_
          refine opv (wn rfl) hr (vB (decide ((at_ p2 g213.toNat).Kind ≤ 4))) (rp_t (b := (decide ((at_ p2 g213.toNat).Kind ≥ 0))) rfl (by kernel_rfl) (decide_eq_true c269) (by kernel_rfl)) fun a hr => ?_
          refine ln ?_
          replace hr := hr.fold2 [(2, .slice va2 p2.length vc2), (7, pA Bn4 0), (9, pA Bn12 0), (11, pA Bn21 0), (13, pN), (15, vI g213), (16, pA b216 0), (17, pA Bn21 0), (18, pA Bn4 0), (88, vB (decide ((at_ p2 g213.toNat).Kind ≤ 4)))] (by kernel_rfl); obtain ⟨j, hr⟩ := hr
          replace h : Fit z (sepL (ob62 Bn4 S200 ca201 cc202 ca203 cc204 :: ro2 ca201 cc202 S200.Held :: ro90 ca203 cc204 S200.Book :: ob62 Bn12 S205 ca206 cc207 ca208 cc209 :: ro2 ca206 cc207 S205.Held :: ro90 ca208 cc209 S205.Book :: ob110 Bn21 S210 ca211 cc212 :: ro107 ca211 cc212 S210.cell :: ob30 b216 (at_ p2 g213.toNat) :: L)) _ := h.sel 9 [1, 2, 3, 4, 5, 6, 7, 8, 0] (by kernel_rfl) (by kernel_rfl)
          exact ⟨(), (decide ((at_ p2 g213.toNat).Kind ≤ 4)), sinj H, j, hr, h⟩
         ·
          replace H := ifF c269 H
          refine offg (wgt hr (decide_eq_false c269)) hr fun a hr => ?_
          refine offg (wgt hr (decide_eq_false c269)) hr fun a hr => ?_
          refine offg (wgt hr (decide_eq_false c269)) hr fun a hr => ?_
          refine opv (wn rfl) hr (vB false) (rp_f (b := (decide ((at_ p2 g213.toNat).Kind ≥ 0))) rfl (by kernel_rfl) (decide_eq_false c269) (by kernel_rfl)) fun a hr => ?_
          refine ln ?_
          replace hr := hr.fold2 [(2, .slice va2 p2.length vc2), (7, pA Bn4 0), (9, pA Bn12 0), (11, pA Bn21 0), (13, pN), (15, vI g213), (16, pA b216 0), (17, pA Bn21 0), (18, pA Bn4 0), (88, vB false)] (by kernel_rfl); obtain ⟨j, hr⟩ := hr
          replace h : Fit z (sepL (ob62 Bn4 S200 ca201 cc202 ca203 cc204 :: ro2 ca201 cc202 S200.Held :: ro90 ca203 cc204 S200.Book :: ob62 Bn12 S205 ca206 cc207 ca208 cc209 :: ro2 ca206 cc207 S205.Held :: ro90 ca208 cc209 S205.Book :: ob110 Bn21 S210 ca211 cc212 :: ro107 ca211 cc212 S210.cell :: ob30 b216 (at_ p2 g213.toNat) :: L)) _ := h.sel 9 [1, 2, 3, 4, 5, 6, 7, 8, 0] (by kernel_rfl) (by kernel_rfl)
          exact ⟨(), false, sinj H, j, hr, h⟩
        clear h hr a; rintro _ a w ⟨g266, rfl, j, hr, h⟩
        replace H := kk1 hK267
        by_cases c270 : g266 = true
        ·
         replace H := ifT c270 H
         refine cond_tt hr (c270) ?_
         refine sr ?_
         refine o1 hr (pA Bn21 0) fun a hr => ?_
         refine ldm (wn rfl) hr (ag_T_plunderlaw2_Move (at_ p2 g213.toNat)) (cs := cl_T_plunderlaw2_Move (at_ p2 g213.toNat)) ((h.pick 8).held 0 rfl) fun a hr => ?_
         obtain ⟨r271, S272, e273, H⟩ := bd2 H
         replace h : Fit z (sepL (ob110 Bn21 S210 ca211 cc212 :: ro107 ca211 cc212 S210.cell :: ob62 Bn4 S200 ca201 cc202 ca203 cc204 :: ro2 ca201 cc202 S200.Held :: ro90 ca203 cc204 S200.Book :: ob62 Bn12 S205 ca206 cc207 ca208 cc209 :: ro2 ca206 cc207 S205.Held :: ro90 ca208 cc209 S205.Book :: ob30 b216 (at_ p2 g213.toNat) :: L)) _ := h.sel 9 [6, 7, 0, 1, 2, 3, 4, 5, 8] (by kernel_rfl) (by kernel_rfl)
         have hc := plunderlaw2_shared_ok (H := e273) (h := h)
         refine cl (wn rfl) hr hc ?_; clear hc h
         rintro _ w ⟨caq274, ccq275, rfl, h⟩; refine ⟨_, rfl, fun a hr => ?_⟩
         refine onew (wn rfl) hr h nb (#[vI 0, vB false, vI 0]) 39 fun b276 w a h hr => ?_
         refine stos (wn rfl) hr h 0 (cl_T_api_Effect r271) (ca_T_api_Effect r271) fun w h => ?_
         refine wpList_nil ?_
         replace h : Fit z (sepL (ob39 b276 r271 :: ob110 Bn21 S272 caq274 ccq275 :: ro107 caq274 ccq275 S272.cell :: ob62 Bn4 S200 ca201 cc202 ca203 cc204 :: ro2 ca201 cc202 S200.Held :: ro90 ca203 cc204 S200.Book :: ob62 Bn12 S205 ca206 cc207 ca208 cc209 :: ro2 ca206 cc207 S205.Held :: ro90 ca208 cc209 S205.Book :: ob30 b216 (at_ p2 g213.toNat) :: L)) _ := h
         refine then_normal ?_
         refine sr ?_
         refine o1 hr (pA Bn4 0) fun a hr => ?_
         refine ldm (wn rfl) hr (ag_T_plunderlaw2_Move (at_ p2 g213.toNat)) (cs := cl_T_plunderlaw2_Move (at_ p2 g213.toNat)) ((h.pick 9).held 0 rfl) fun a hr => ?_
         obtain ⟨r277, e278, H⟩ := bd1 H
         have hc := plunderlaw2_act_ok (H := e278) (h := h)
         refine cl (wn rfl) hr hc ?_; clear hc h
         rintro _ w ⟨rfl, h⟩; refine ⟨_, rfl, fun a hr => ?_⟩
         obtain ⟨r279, S280, e281, H⟩ := bd2 H
         replace h : Fit z (sepL (ob62 Bn4 S200 ca201 cc202 ca203 cc204 :: ro2 ca201 cc202 S200.Held :: ro90 ca203 cc204 S200.Book :: ob39 b276 r271 :: ob110 Bn21 S272 caq274 ccq275 :: ro107 caq274 ccq275 S272.cell :: ob62 Bn12 S205 ca206 cc207 ca208 cc209 :: ro2 ca206 cc207 S205.Held :: ro90 ca208 cc209 S205.Book :: ob30 b216 (at_ p2 g213.toNat) :: L)) _ := h.sel 10 [3, 4, 5, 0, 1, 2, 6, 7, 8, 9] (by kernel_rfl) (by kernel_rfl)
         have hc := plunderref2_Arena_Do_ok (H := e281) (h := h)
         refine cl (wn rfl) hr hc ?_; clear hc h
         rintro _ w ⟨caq282, ccq283, caq284, ccq285, rfl, h⟩; refine ⟨_, rfl, fun a hr => ?_⟩
         refine onew (wn rfl) hr h nb (#[vI 0, vB false, vI 0]) 39 fun b286 w a h hr => ?_
         refine stos (wn rfl) hr h 0 (cl_T_api_Effect r279) (ca_T_api_Effect r279) fun w h => ?_
         refine wpList_nil ?_
         replace h : Fit z (sepL (ob39 b286 r279 :: ob62 Bn4 S280 caq282 ccq283 caq284 ccq285 :: ro2 caq282 ccq283 S280.Held :: ro90 caq284 ccq285 S280.Book :: ob39 b276 r271 :: ob110 Bn21 S272 caq274 ccq275 :: ro107 caq274 ccq275 S272.cell :: ob62 Bn12 S205 ca206 cc207 ca208 cc209 :: ro2 ca206 cc207 S205.Held :: ro90 ca208 cc209 S205.Book :: ob30 b216 (at_ p2 g213.toNat) :: L)) _ := h
         refine then_normal ?_
         refine sr ?_
         refine ldm (wn rfl) hr (ag_T_api_Effect r271) (cs := cl_T_api_Effect r271) ((h.pick 4).held 0 rfl) fun a hr => ?_
         refine ldm (wn rfl) hr (ag_T_api_Effect r279) (cs := cl_T_api_Effect r279) (h.held 0 rfl) fun a hr => ?_
         refine opv (wn rfl) hr (vB (!(decide (r271 = r279)))) (rb (rne rfl (by kernel_rfl) (by kernel_rfl) (by kernel_rfl) (by kernel_rfl) (by kernel_rfl) (by kernel_rfl)) (congrArg (!·) (eq_T_api_Effect r271 r279))) fun a hr => ?_
         refine ln ?_
         by_cases c287 : r271 = r279
         ·
          replace H := ifT c287 H
          refine cond_ff hr (b := (!(decide (r271 = r279)))) (by rw [show (decide (r271 = r279)) = true from (decide_eq_true c287)]; rfl) ?_
          refine wp_skip ?_
          refine then_normal ?_
          replace hr := hr.fold2 [(2, .slice va2 p2.length vc2), (7, pA Bn4 0), (9, pA Bn12 0), (11, pA Bn21 0), (13, pN), (15, vI g213), (16, pA b216 0), (17, pA Bn21 0), (18, pA Bn4 0)] (by kernel_rfl); obtain ⟨j, hr⟩ := hr
          replace h : Fit z (sepL (ob62 Bn4 S280 caq282 ccq283 caq284 ccq285 :: ro2 caq282 ccq283 S280.Held :: ro90 caq284 ccq285 S280.Book :: ob62 Bn12 S205 ca206 cc207 ca208 cc209 :: ro2 ca206 cc207 S205.Held :: ro90 ca208 cc209 S205.Book :: ob110 Bn21 S272 caq274 ccq275 :: ro107 caq274 ccq275 S272.cell :: ob30 b216 (at_ p2 g213.toNat) :: L)) _ := h.sel 11 [1, 2, 3, 7, 8, 9, 5, 6, 10] (by kernel_rfl) (by kernel_rfl)
          exact ⟨(), caq282, ccq283, caq284, ccq285, caq274, ccq275, S280, S272, sinj H, j, hr, h⟩
         ·
          replace H := ifF c287 H
          refine cond_tt hr (b := (!(decide (r271 = r279)))) (by rw [show (decide (r271 = r279)) = false from (decide_eq_false c287)]; rfl) ?_
          refine sr ?_
          refine o1 hr (vB false) fun a hr => ?_
          refine ln ?_
          refine wp_ret ?_
          refine then_ret ?_
          refine blk_ret ?_
          refine then_ret ?_
          refine then_ret ?_
          refine blk_ret ?_
          refine then_ret ?_
          refine end_ret1 (v := vB false) rfl hr (by kernel_rfl) ?_
          replace H := jx2 H hK264
          replace H := jx3 H hK198
          replace h : Fit z (sepL (L)) _ := h.sel 11 [] (by kernel_rfl) (by kernel_rfl)
          replace H := ej1 H; subst H
          exact ⟨rfl, h⟩
        ·
         replace H := ifF c270 H
         refine cond_ff hr (bF c270) ?_
         refine wp_skip ?_
         refine then_normal ?_
         replace hr := hr.fold2 [(2, .slice va2 p2.length vc2), (7, pA Bn4 0), (9, pA Bn12 0), (11, pA Bn21 0), (13, pN), (15, vI g213), (16, pA b216 0), (17, pA Bn21 0), (18, pA Bn4 0)] (by kernel_rfl); obtain ⟨j, hr⟩ := hr
         exact ⟨(), ca201, cc202, ca203, cc204, ca211, cc212, S200, S210, sinj H, j, hr, h⟩
       clear h hr a; rintro _ a w ⟨ca257, cc258, ca259, cc260, ca262, cc263, S256, S261, rfl, j, hr, h⟩
       replace H := jk2 hK264
       obtain ⟨o289, H, hK288⟩ := jd0 H
       refine cut_rule (β := Unit) (fun _ a w => .inl () = o289 ∧ ∃ j, Rep 138 (lk [(2, .slice va2 p2.length vc2), (7, pA Bn4 0), (9, pA Bn12 0), (11, pA Bn21 0), (13, pN), (15, vI g213), (16, pA b216 0), (17, pA Bn21 0), (18, pA Bn4 0)] j) a ∧ Fit z (sepL (ob62 Bn4 S256 ca257 cc258 ca259 cc260 :: ro2 ca257 cc258 S256.Held :: ro90 ca259 cc260 S256.Book :: ob62 Bn12 S205 ca206 cc207 ca208 cc209 :: ro2 ca206 cc207 S205.Held :: ro90 ca208 cc209 S205.Book :: ob110 Bn21 S261 ca262 cc263 :: ro107 ca262 cc263 S261.cell :: ob30 b216 (at_ p2 g213.toNat) :: L)) w) ?_ ?_
       ·
        refine wp_seq ?_
        by_cases c290 : (at_ p2 g213.toNat).Kind = 7
        ·
         replace H := ifT c290 H
         obtain ⟨r291, e292, H⟩ := bd1 H
         refine reg_E (fun w => heldC w b216 1 ([vI (at_ p2 g213.toNat).Kind]) ∧ heldC w Bn4 0 ([vI S256.Most]) ∧ True) [0, 2, 5, 7, 8] h (by kernel_rfl) ?_; intro w h
         change wpAnyE _ _ _ _ _ _ 12 (Array.replicate 12 false) a w
         have hgo : ∀ w w', CellsGo w w' → (heldC w b216 1 ([vI (at_ p2 g213.toNat).Kind]) ∧ heldC w Bn4 0 ([vI S256.Most]) ∧ True) → heldC w' b216 1 ([vI (at_ p2 g213.toNat).Kind]) ∧ heldC w' Bn4 0 ([vI S256.Most]) ∧ True := fun w w' g hD => ⟨heldC_go _ _ _ _ _ g hD.1, heldC_go _ _ _ _ _ g hD.2.1, trivial⟩
         refine evDs hgo ⟨⟨(h.pick 8).cell 1 rfl, trivial⟩, ⟨h.cell 0 rfl, trivial⟩, trivial⟩ 11 0 rfl (wn rfl) hr (pA b216 1) fun a hr => ?_
         refine el [0, 2, 5, 7, 8] (b := b216) (off := 1) (cs := [vI (at_ p2 g213.toNat).Kind]) (fun _ hk => ⟨hk, fun w hD => hD.1⟩) 10 1 rfl (by kernel_rfl) (wn rfl) hr (vI (at_ p2 g213.toNat).Kind) ⟨(h.pick 8).cell 1 rfl, trivial⟩ (fun w hc => rl rfl (by kernel_rfl) (by kernel_rfl) hc.1) fun a hr => ?_
         refine evDs hgo ⟨⟨(h.pick 8).cell 1 rfl, trivial⟩, ⟨h.cell 0 rfl, trivial⟩, trivial⟩ 9 2 rfl (wn rfl) hr (vB ((at_ p2 g213.toNat).Kind == 7)) fun a hr => ?_
         refine evs 8 3 rfl (wn rfl) hr (vB ((at_ p2 g213.toNat).Kind == 7)) fun a hr => ?_
         refine evs 7 4 rfl (wgt hr (beq_iff_eq.mpr c290)) hr (pA Bn21 0) fun a hr => ?_
         refine evs 6 6 rfl (wgt hr (beq_iff_eq.mpr c290)) hr (pA Bn4 0) fun a hr => ?_
         refine evDs hgo ⟨⟨(h.pick 8).cell 1 rfl, trivial⟩, ⟨h.cell 0 rfl, trivial⟩, trivial⟩ 5 7 rfl (wgt hr (beq_iff_eq.mpr c290)) hr (pA Bn4 0) fun a hr => ?_
         refine evDs hgo ⟨⟨(h.pick 8).cell 1 rfl, trivial⟩, ⟨h.cell 0 rfl, trivial⟩, trivial⟩ 4 8 rfl (wgt hr (beq_iff_eq.mpr c290)) hr (pA Bn4 0) fun a hr => ?_
         refine el [0, 2, 5, 7, 8] (b := Bn4) (off := 0) (cs := [vI S256.Most]) (fun _ hk => ⟨hk, fun w hD => hD.2.1⟩) 3 9 rfl (by kernel_rfl) (wgt hr (beq_iff_eq.mpr c290)) hr (vI S256.Most) ⟨h.cell 0 rfl, trivial⟩ (fun w hc => rl rfl (by kernel_rfl) (by kernel_rfl) hc.1) fun a hr => ?_
         refine e_one (fuel := 2) (i := 5) (by kernel_rfl) rfl ?_
         replace h : Fit z (sepL (ob110 Bn21 S261 ca262 cc263 :: ro107 ca262 cc263 S261.cell :: ob62 Bn4 S256 ca257 cc258 ca259 cc260 :: ro2 ca257 cc258 S256.Held :: ro90 ca259 cc260 S256.Book :: ob62 Bn12 S205 ca206 cc207 ca208 cc209 :: ro2 ca206 cc207 S205.Held :: ro90 ca208 cc209 S205.Book :: ob30 b216 (at_ p2 g213.toNat) :: L)) _ := h.sel 9 [6, 7, 0, 1, 2, 3, 4, 5, 8] (by kernel_rfl) (by kernel_rfl)
         have hc := cells_Shared_Size_ok (H := e292) (h := h)
         refine cl (wgt hr (beq_iff_eq.mpr c290)) hr hc ?_; clear hc h
         rintro _ w ⟨rfl, h⟩; refine ⟨_, rfl, fun a hr => ?_⟩
         refine wpList_nil ?_; refine then_normal ?_
         refine ⟨fun _ => ⟨⟨(h.pick 8).cell 1 rfl, trivial⟩, ⟨(h.pick 2).cell 0 rfl, trivial⟩, trivial⟩, ?_⟩
         refine evs 1 10 rfl (wgt hr (beq_iff_eq.mpr c290)) hr (vB (r291 != S256.Most)) fun a hr => ?_
         refine ev 0 11 rfl (by kernel_rfl) (wn rfl) hr (vB (r291 != S256.Most)) (fun w => rp_t (b := ((at_ p2 g213.toNat).Kind == 7)) rfl (by kernel_rfl) (beq_iff_eq.mpr c290) (by kernel_rfl)) fun a hr => ?_
         refine e_end (by kernel_rfl) ?_
         refine then_normal ?_
         by_cases c293 : r291 = S256.Most
         ·
          replace H := ifT c293 H
          refine cond_ff hr (bne_eq_false_iff_eq.mpr c293) ?_
          refine wp_skip ?_
          refine then_normal ?_
          replace hr := hr.fold2 [(2, .slice va2 p2.length vc2), (7, pA Bn4 0), (9, pA Bn12 0), (11, pA Bn21 0), (13, pN), (15, vI g213), (16, pA b216 0), (17, pA Bn21 0), (18, pA Bn4 0)] (by kernel_rfl); obtain ⟨j, hr⟩ := hr
          replace h : Fit z (sepL (ob62 Bn4 S256 ca257 cc258 ca259 cc260 :: ro2 ca257 cc258 S256.Held :: ro90 ca259 cc260 S256.Book :: ob62 Bn12 S205 ca206 cc207 ca208 cc209 :: ro2 ca206 cc207 S205.Held :: ro90 ca208 cc209 S205.Book :: ob110 Bn21 S261 ca262 cc263 :: ro107 ca262 cc263 S261.cell :: ob30 b216 (at_ p2 g213.toNat) :: L)) _ := h.sel 9 [2, 3, 4, 5, 6, 7, 0, 1, 8] (by kernel_rfl) (by kernel_rfl)
          exact ⟨(), sinj H, j, hr, h⟩
         ·
          replace H := ifF c293 H
          refine cond_tt hr (bne_iff_ne.mpr c293) ?_
          refine sr ?_
          refine o1 hr (vB false) fun a hr => ?_
          refine ln ?_
          refine wp_ret ?_
          refine then_ret ?_
          refine blk_ret ?_
          refine then_ret ?_
          refine then_ret ?_
          refine blk_ret ?_
          refine then_ret ?_
          refine end_ret1 (v := vB false) rfl hr (by kernel_rfl) ?_
          replace H := jx0 H hK288
          replace H := jx3 H hK198
          replace h : Fit z (sepL (L)) _ := h.sel 9 [] (by kernel_rfl) (by kernel_rfl)
          replace H := ej1 H; subst H
          exact ⟨rfl, h⟩
        ·
         replace H := ifF c290 H
         refine reg_E (fun w => heldC w b216 1 ([vI (at_ p2 g213.toNat).Kind]) ∧ True) [0] h (by kernel_rfl) ?_; intro w h
         change wpAnyE _ _ _ _ _ _ 12 (Array.replicate 12 false) a w
         have hgo : ∀ w w', CellsGo w w' → (heldC w b216 1 ([vI (at_ p2 g213.toNat).Kind]) ∧ True) → heldC w' b216 1 ([vI (at_ p2 g213.toNat).Kind]) ∧ True := fun w w' g hD => ⟨heldC_go _ _ _ _ _ g hD.1, trivial⟩
         refine evDs hgo ⟨⟨(h.pick 8).cell 1 rfl, trivial⟩, trivial⟩ 11 0 rfl (wn rfl) hr (pA b216 1) fun a hr => ?_
         refine el [0] (b := b216) (off := 1) (cs := [vI (at_ p2 g213.toNat).Kind]) (fun _ hk => ⟨hk, fun w hD => hD.1⟩) 10 1 rfl (by kernel_rfl) (wn rfl) hr (vI (at_ p2 g213.toNat).Kind) ⟨(h.pick 8).cell 1 rfl, trivial⟩ (fun w hc => rl rfl (by kernel_rfl) (by kernel_rfl) hc.1) fun a hr => ?_
         refine evs 9 2 rfl (wn rfl) hr (vB ((at_ p2 g213.toNat).Kind == 7)) fun a hr => ?_
         refine evs 8 3 rfl (wn rfl) hr (vB ((at_ p2 g213.toNat).Kind == 7)) fun a hr => ?_
         refine eos 7 4 rfl (wgt hr (beq_eq_false_iff_ne.mpr c290)) hr fun a hr => ?_
         refine eos 6 6 rfl (wgt hr (beq_eq_false_iff_ne.mpr c290)) hr fun a hr => ?_
         refine eos 5 7 rfl (wgt hr (beq_eq_false_iff_ne.mpr c290)) hr fun a hr => ?_
         refine eos 4 8 rfl (wgt hr (beq_eq_false_iff_ne.mpr c290)) hr fun a hr => ?_
         refine eos 3 9 rfl (wgt hr (beq_eq_false_iff_ne.mpr c290)) hr fun a hr => ?_
         refine e_one (fuel := 2) (i := 5) (by kernel_rfl) rfl ?_
         refine offg (wgt hr (beq_eq_false_iff_ne.mpr c290)) hr fun a hr => ?_
         refine wpList_nil ?_; refine then_normal ?_
         refine ⟨fun hE => absurd hE (by decide), ?_⟩
         refine eos 1 10 rfl (wgt hr (beq_eq_false_iff_ne.mpr c290)) hr fun a hr => ?_
         refine ev 0 11 rfl (by kernel_rfl) (wn rfl) hr (vB false) (fun w => rp_f (b := ((at_ p2 g213.toNat).Kind == 7)) rfl (by kernel_rfl) (beq_eq_false_iff_ne.mpr c290) (by kernel_rfl)) fun a hr => ?_
         refine e_end (by kernel_rfl) ?_
         refine then_normal ?_
         refine cond_ff hr (b := false) rfl ?_
         refine wp_skip ?_
         refine then_normal ?_
         replace hr := hr.fold2 [(2, .slice va2 p2.length vc2), (7, pA Bn4 0), (9, pA Bn12 0), (11, pA Bn21 0), (13, pN), (15, vI g213), (16, pA b216 0), (17, pA Bn21 0), (18, pA Bn4 0)] (by kernel_rfl); obtain ⟨j, hr⟩ := hr
         exact ⟨(), sinj H, j, hr, h⟩
       clear h hr a; rintro _ a w ⟨rfl, j, hr, h⟩
       replace H := jk0 hK288
       refine wp_seq ?_
       by_cases c294 : (at_ p2 g213.toNat).Kind = 8
       ·
        replace H := ifT c294 H
        obtain ⟨r295, S296, e297, H⟩ := bd2 H
        refine reg_E (fun w => heldC w b216 1 ([vI (at_ p2 g213.toNat).Kind]) ∧ heldC w Bn4 1 ([.slice ca257 S256.Held.length cc258]) ∧ True) [0, 2, 5, 7, 8] h (by kernel_rfl) ?_; intro w h
        change wpAnyE _ _ _ _ _ _ 13 (Array.replicate 13 false) a w
        have hgo : ∀ w w', CellsGo w w' → (heldC w b216 1 ([vI (at_ p2 g213.toNat).Kind]) ∧ heldC w Bn4 1 ([.slice ca257 S256.Held.length cc258]) ∧ True) → heldC w' b216 1 ([vI (at_ p2 g213.toNat).Kind]) ∧ heldC w' Bn4 1 ([.slice ca257 S256.Held.length cc258]) ∧ True := fun w w' g hD => ⟨heldC_go _ _ _ _ _ g hD.1, heldC_go _ _ _ _ _ g hD.2.1, trivial⟩
        refine evDs hgo ⟨⟨(h.pick 8).cell 1 rfl, trivial⟩, ⟨h.cell 1 rfl, trivial⟩, trivial⟩ 12 0 rfl (wn rfl) hr (pA b216 1) fun a hr => ?_
        refine el [0, 2, 5, 7, 8] (b := b216) (off := 1) (cs := [vI (at_ p2 g213.toNat).Kind]) (fun _ hk => ⟨hk, fun w hD => hD.1⟩) 11 1 rfl (by kernel_rfl) (wn rfl) hr (vI (at_ p2 g213.toNat).Kind) ⟨(h.pick 8).cell 1 rfl, trivial⟩ (fun w hc => rl rfl (by kernel_rfl) (by kernel_rfl) hc.1) fun a hr => ?_
        refine evDs hgo ⟨⟨(h.pick 8).cell 1 rfl, trivial⟩, ⟨h.cell 1 rfl, trivial⟩, trivial⟩ 10 2 rfl (wn rfl) hr (vB ((at_ p2 g213.toNat).Kind == 8)) fun a hr => ?_
        refine evs 9 3 rfl (wn rfl) hr (vB ((at_ p2 g213.toNat).Kind == 8)) fun a hr => ?_
        refine evs 8 4 rfl (wgt hr (beq_iff_eq.mpr c294)) hr (pA Bn21 0) fun a hr => ?_
        refine evs 7 6 rfl (wgt hr (beq_iff_eq.mpr c294)) hr (pA Bn4 0) fun a hr => ?_
        refine evDs hgo ⟨⟨(h.pick 8).cell 1 rfl, trivial⟩, ⟨h.cell 1 rfl, trivial⟩, trivial⟩ 6 7 rfl (wgt hr (beq_iff_eq.mpr c294)) hr (pA Bn4 0) fun a hr => ?_
        refine evDs hgo ⟨⟨(h.pick 8).cell 1 rfl, trivial⟩, ⟨h.cell 1 rfl, trivial⟩, trivial⟩ 5 8 rfl (wgt hr (beq_iff_eq.mpr c294)) hr (pA Bn4 1) fun a hr => ?_
        refine el [0, 2, 5, 7, 8] (b := Bn4) (off := 1) (cs := [.slice ca257 S256.Held.length cc258]) (fun _ hk => ⟨hk, fun w hD => hD.2.1⟩) 4 9 rfl (by kernel_rfl) (wgt hr (beq_iff_eq.mpr c294)) hr (.slice ca257 S256.Held.length cc258) ⟨h.cell 1 rfl, trivial⟩ (fun w hc => rl rfl (by kernel_rfl) (by kernel_rfl) hc.1) fun a hr => ?_
        refine evs 3 10 rfl (wgt hr (beq_iff_eq.mpr c294)) hr (vI ((S256.Held.length : Nat) : Int)) fun a hr => ?_
        refine e_one (fuel := 2) (i := 5) (by kernel_rfl) rfl ?_
        replace h : Fit z (sepL (ob110 Bn21 S261 ca262 cc263 :: ro107 ca262 cc263 S261.cell :: ob62 Bn4 S256 ca257 cc258 ca259 cc260 :: ro2 ca257 cc258 S256.Held :: ro90 ca259 cc260 S256.Book :: ob62 Bn12 S205 ca206 cc207 ca208 cc209 :: ro2 ca206 cc207 S205.Held :: ro90 ca208 cc209 S205.Book :: ob30 b216 (at_ p2 g213.toNat) :: L)) _ := h.sel 9 [6, 7, 0, 1, 2, 3, 4, 5, 8] (by kernel_rfl) (by kernel_rfl)
        have hc := cells_Shared_Mark_ok (H := e297) (h := h)
        refine cl (wgt hr (beq_iff_eq.mpr c294)) hr hc ?_; clear hc h
        rintro _ w ⟨caq298, ccq299, rfl, h⟩; refine ⟨_, rfl, fun a hr => ?_⟩
        refine wpList_nil ?_; refine then_normal ?_
        refine ⟨fun _ => ⟨⟨(h.pick 8).cell 1 rfl, trivial⟩, ⟨(h.pick 2).cell 1 rfl, trivial⟩, trivial⟩, ?_⟩
        refine evs 1 11 rfl (wgt hr (beq_iff_eq.mpr c294)) hr (vB (r295 != ((S256.Held.length : Nat) : Int))) fun a hr => ?_
        refine ev 0 12 rfl (by kernel_rfl) (wn rfl) hr (vB (r295 != ((S256.Held.length : Nat) : Int))) (fun w => rp_t (b := ((at_ p2 g213.toNat).Kind == 8)) rfl (by kernel_rfl) (beq_iff_eq.mpr c294) (by kernel_rfl)) fun a hr => ?_
        refine e_end (by kernel_rfl) ?_
        refine then_normal ?_
        by_cases c300 : r295 = ((S256.Held.length : Nat) : Int)
        ·
         replace H := ifT c300 H
         refine cond_ff hr (bne_eq_false_iff_eq.mpr c300) ?_
         refine wp_skip ?_
         refine blk_normal ?_
         refine then_normal ?_
         refine wp_region_lit ?_
         refine oo [67, 68, 15] [vI g213, vI (wi (g213 + 1)), vI (wi (g213 + 1))] hr fun a hr => ?_
         refine ln ?_
         replace hr := hr.fold2 [(2, .slice va2 p2.length vc2), (7, pA Bn4 0), (9, pA Bn12 0), (11, pA Bn21 0), (13, pN), (15, vI (wi (g213 + 1)))] (by kernel_rfl); obtain ⟨j, hr⟩ := hr
         replace h : Fit z (sepL (ob62 Bn4 S256 ca257 cc258 ca259 cc260 :: ro2 ca257 cc258 S256.Held :: ro90 ca259 cc260 S256.Book :: ob62 Bn12 S205 ca206 cc207 ca208 cc209 :: ro2 ca206 cc207 S205.Held :: ro90 ca208 cc209 S205.Book :: ob110 Bn21 S296 caq298 ccq299 :: ro107 caq298 ccq299 S296.cell :: L)) _ := h.sel 9 [2, 3, 4, 5, 6, 7, 0, 1] (by kernel_rfl) (by kernel_rfl)
         exact ⟨_, ⟨ca257, cc258, ca259, cc260, ca206, cc207, ca208, cc209, caq298, ccq299, S256, S205, S296, (wi (g213 + 1)), H, j, hr, h⟩, Nat.lt_succ_self _⟩
        ·
         replace H := ifF c300 H
         refine cond_tt hr (bne_iff_ne.mpr c300) ?_
         refine sr ?_
         refine o1 hr (vB false) fun a hr => ?_
         refine ln ?_
         refine wp_ret ?_
         refine blk_ret ?_
         refine then_ret ?_
         refine then_ret ?_
         refine blk_ret ?_
         refine then_ret ?_
         refine end_ret1 (v := vB false) rfl hr (by kernel_rfl) ?_
         replace H := jx3 H hK198
         replace h : Fit z (sepL (L)) _ := h.sel 9 [] (by kernel_rfl) (by kernel_rfl)
         replace H := ej1 H; subst H
         exact ⟨rfl, h⟩
       ·
        replace H := ifF c294 H
        refine reg_E (fun w => heldC w b216 1 ([vI (at_ p2 g213.toNat).Kind]) ∧ True) [0] h (by kernel_rfl) ?_; intro w h
        change wpAnyE _ _ _ _ _ _ 13 (Array.replicate 13 false) a w
        have hgo : ∀ w w', CellsGo w w' → (heldC w b216 1 ([vI (at_ p2 g213.toNat).Kind]) ∧ True) → heldC w' b216 1 ([vI (at_ p2 g213.toNat).Kind]) ∧ True := fun w w' g hD => ⟨heldC_go _ _ _ _ _ g hD.1, trivial⟩
        refine evDs hgo ⟨⟨(h.pick 8).cell 1 rfl, trivial⟩, trivial⟩ 12 0 rfl (wn rfl) hr (pA b216 1) fun a hr => ?_
        refine el [0] (b := b216) (off := 1) (cs := [vI (at_ p2 g213.toNat).Kind]) (fun _ hk => ⟨hk, fun w hD => hD.1⟩) 11 1 rfl (by kernel_rfl) (wn rfl) hr (vI (at_ p2 g213.toNat).Kind) ⟨(h.pick 8).cell 1 rfl, trivial⟩ (fun w hc => rl rfl (by kernel_rfl) (by kernel_rfl) hc.1) fun a hr => ?_
        refine evs 10 2 rfl (wn rfl) hr (vB ((at_ p2 g213.toNat).Kind == 8)) fun a hr => ?_
        refine evs 9 3 rfl (wn rfl) hr (vB ((at_ p2 g213.toNat).Kind == 8)) fun a hr => ?_
        refine eos 8 4 rfl (wgt hr (beq_eq_false_iff_ne.mpr c294)) hr fun a hr => ?_
        refine eos 7 6 rfl (wgt hr (beq_eq_false_iff_ne.mpr c294)) hr fun a hr => ?_
        refine eos 6 7 rfl (wgt hr (beq_eq_false_iff_ne.mpr c294)) hr fun a hr => ?_
        refine eos 5 8 rfl (wgt hr (beq_eq_false_iff_ne.mpr c294)) hr fun a hr => ?_
        refine eos 4 9 rfl (wgt hr (beq_eq_false_iff_ne.mpr c294)) hr fun a hr => ?_
        refine eos 3 10 rfl (wgt hr (beq_eq_false_iff_ne.mpr c294)) hr fun a hr => ?_
        refine e_one (fuel := 2) (i := 5) (by kernel_rfl) rfl ?_
        refine offg (wgt hr (beq_eq_false_iff_ne.mpr c294)) hr fun a hr => ?_
        refine wpList_nil ?_; refine then_normal ?_
        refine ⟨fun hE => absurd hE (by decide), ?_⟩
        refine eos 1 11 rfl (wgt hr (beq_eq_false_iff_ne.mpr c294)) hr fun a hr => ?_
        refine ev 0 12 rfl (by kernel_rfl) (wn rfl) hr (vB false) (fun w => rp_f (b := ((at_ p2 g213.toNat).Kind == 8)) rfl (by kernel_rfl) (beq_eq_false_iff_ne.mpr c294) (by kernel_rfl)) fun a hr => ?_
        refine e_end (by kernel_rfl) ?_
        refine then_normal ?_
        refine cond_ff hr (b := false) rfl ?_
        refine wp_skip ?_
        refine blk_normal ?_
        refine then_normal ?_
        refine wp_region_lit ?_
        refine oo [67, 68, 15] [vI g213, vI (wi (g213 + 1)), vI (wi (g213 + 1))] hr fun a hr => ?_
        refine ln ?_
        replace hr := hr.fold2 [(2, .slice va2 p2.length vc2), (7, pA Bn4 0), (9, pA Bn12 0), (11, pA Bn21 0), (13, pN), (15, vI (wi (g213 + 1)))] (by kernel_rfl); obtain ⟨j, hr⟩ := hr
        replace h : Fit z (sepL (ob62 Bn4 S256 ca257 cc258 ca259 cc260 :: ro2 ca257 cc258 S256.Held :: ro90 ca259 cc260 S256.Book :: ob62 Bn12 S205 ca206 cc207 ca208 cc209 :: ro2 ca206 cc207 S205.Held :: ro90 ca208 cc209 S205.Book :: ob110 Bn21 S261 ca262 cc263 :: ro107 ca262 cc263 S261.cell :: L)) _ := h.sel 9 [0, 1, 2, 3, 4, 5, 6, 7] (by kernel_rfl) (by kernel_rfl)
        exact ⟨_, ⟨ca257, cc258, ca259, cc260, ca206, cc207, ca208, cc209, ca262, cc263, S256, S205, S261, (wi (g213 + 1)), H, j, hr, h⟩, Nat.lt_succ_self _⟩
     ·
      replace H := ifF c214 H
      refine cond_ff hr (decide_eq_false c214) ?_
      refine wp_exit ?_
      refine then_exit ?_
      refine then_exit ?_
      refine blk_here ?_
      refine then_normal ?_
      replace hr := hr.fold2 [(7, pA Bn4 0), (9, pA Bn12 0), (11, pA Bn21 0), (13, pN)] (by kernel_rfl); obtain ⟨j, hr⟩ := hr
      exact ⟨(), ca201, cc202, ca203, cc204, ca206, cc207, ca208, cc209, ca211, cc212, S200, S205, S210, sinj H, j, hr, h⟩
   clear h hr a; rintro _ a w ⟨ca186, cc187, ca188, cc189, ca191, cc192, ca193, cc194, ca196, cc197, S185, S190, S195, rfl, j, hr, h⟩
   replace H := jk3 hK198
   refine sr ?_
   refine oo [124, 125, 126, 127] [pA Bn21 0, pA Bn4 0, pA Bn4 0, pA Bn4 1] hr fun a hr => ?_
   refine ld (wn rfl) hr (.slice ca186 S185.Held.length cc187) (h.cell 1 rfl) fun a hr => ?_
   obtain ⟨r301, S302, e303, H⟩ := bd2 H
   replace h : Fit z (sepL (ob110 Bn21 S195 ca196 cc197 :: ro107 ca196 cc197 S195.cell :: ob62 Bn4 S185 ca186 cc187 ca188 cc189 :: ro2 ca186 cc187 S185.Held :: ro90 ca188 cc189 S185.Book :: ob62 Bn12 S190 ca191 cc192 ca193 cc194 :: ro2 ca191 cc192 S190.Held :: ro90 ca193 cc194 S190.Book :: L)) _ := h.sel 8 [6, 7, 0, 1, 2, 3, 4, 5] (by kernel_rfl) (by kernel_rfl)
   have hc := plunderlaw2_holds_ok (va1 := ca186) (vc1 := cc187) (hv1 := (RdRow.of_row encZ_i64_ok (h.pick 3) (fun h => (h.pick 1)))) (H := e303) (h := h)
   refine cl (wn rfl) hr hc ?_; clear hc h
   rintro _ w ⟨caq304, ccq305, rfl, h⟩; refine ⟨_, rfl, fun a hr => ?_⟩
   refine o1 hr (vB r301) fun a hr => ?_
   by_cases c306 : r301 = true
   ·
    replace H := ifT c306 H
    refine opv (wgt hr (c306)) hr (pN) (by kernel_rfl) fun a hr => ?_
    refine opv (wgt hr (c306)) hr (pA Bn12 0) (by kernel_rfl) fun a hr => ?_
    refine opv (wgt hr (c306)) hr (pA Bn12 0) (by kernel_rfl) fun a hr => ?_
    refine opv (wgt hr (c306)) hr (pA Bn12 1) (by kernel_rfl) fun a hr => ?_
    refine ld (wgt hr (c306)) hr (.slice ca191 S190.Held.length cc192) ((h.pick 5).cell 1 rfl) fun a hr => ?_
    obtain ⟨r307, e308, H⟩ := bd1 H
    have hc := plunderlaw2_holds_nil_ok (va1 := ca191) (vc1 := cc192) (hv1 := (RdRow.of_row encZ_i64_ok (h.pick 6) (fun h => (h.pick 6)))) (H := e308) (h := h)
    refine cl (wgt hr (c306)) hr hc ?_; clear hc h
    rintro _ w ⟨rfl, h⟩; refine ⟨_, rfl, fun a hr => ?_⟩
    refine opv (wn rfl) hr (vB r307) (rp_t (b := r301) rfl (by kernel_rfl) (c306) (by kernel_rfl)) fun a hr => ?_
    refine o1 hr (vB r307) fun a hr => ?_
    refine ln ?_
    refine wp_ret ?_
    refine end_ret1 (v := vB r307) rfl hr (by kernel_rfl) ?_
    replace h : Fit z (sepL (L)) _ := h.sel 8 [] (by kernel_rfl) (by kernel_rfl)
    replace H := ej1 H; subst H
    exact ⟨rfl, h⟩
   ·
    replace H := ifF c306 H
    refine offg (wgt hr (bF c306)) hr fun a hr => ?_
    refine offg (wgt hr (bF c306)) hr fun a hr => ?_
    refine offg (wgt hr (bF c306)) hr fun a hr => ?_
    refine offg (wgt hr (bF c306)) hr fun a hr => ?_
    refine offg (wgt hr (bF c306)) hr fun a hr => ?_
    refine offg (wgt hr (bF c306)) hr fun a hr => ?_
    refine opv (wn rfl) hr (vB false) (rp_f (b := r301) rfl (by kernel_rfl) (bF c306) (by kernel_rfl)) fun a hr => ?_
    refine o1 hr (vB false) fun a hr => ?_
    refine ln ?_
    refine wp_ret ?_
    refine end_ret1 (v := vB false) rfl hr (by kernel_rfl) ?_
    replace h : Fit z (sepL (L)) _ := h.sel 8 [] (by kernel_rfl) (by kernel_rfl)
    replace H := ej1 H; subst H
    exact ⟨rfl, h⟩
 | none =>
  have hc := cells_NewShared_ok1 (H := e19) (h := h)
  refine cl (wn rfl) hr hc ?_; clear hc h
  rintro _ w ⟨rfl, h⟩; refine ⟨_, rfl, fun a hr => ?_⟩
  refine oo [31, 34, 35, 11, 12] [.tuple #[pN, vI r18], pN, vI r18, pN, vI r18] hr fun a hr => ?_
  refine ln ?_
  refine sr ?_
  obtain ⟨r309, r310, e311, H⟩ := bd2 H
  refine o1 hr (vI p1) fun a hr => ?_
  cases r309 with
  | some S312 =>
   have hc := cells_NewShared_ok0 (H := e311) (h := h)
   refine cl (wn rfl) hr hc ?_; clear hc h
   rintro _ w ⟨Bn313, car314, ccr315, rfl, h⟩; refine ⟨_, rfl, fun a hr => ?_⟩
   refine oo [36, 39, 40, 13, 14] [.tuple #[pA Bn313 0, vI r310], pA Bn313 0, vI r310, pA Bn313 0, vI r310] hr fun a hr => ?_
   refine ln ?_
   obtain ⟨o317, H, hK316⟩ := jd0 H
   refine cut_rule (β := Unit) (fun _ a w => .inl () = o317 ∧ ∃ j, Rep 138 (lk [(2, .slice va2 p2.length vc2), (7, pA Bn4 0), (9, pA Bn12 0), (11, pN), (13, pA Bn313 0)] j) a ∧ Fit z (sepL (ob62 Bn4 r1 car5 ccr6 car7 ccr8 :: ro2 car5 ccr6 r1.Held :: ro90 car7 ccr8 r1.Book :: ob62 Bn12 r9 car13 ccr14 car15 ccr16 :: ro2 car13 ccr14 r9.Held :: ro90 car15 ccr16 r9.Book :: ob110 Bn313 S312 car314 ccr315 :: ro107 car314 ccr315 S312.cell :: L)) w) ?_ ?_
   ·
    refine sr ?_
    refine oo [41, 42, 43, 44] [vI r18, vI r2, vB (r18 != r2), vB (r18 != r2)] hr fun a hr => ?_
    by_cases c318 : r18 = r2
    ·
     replace H := ifT c318 H
     refine opv (wgt hr (bne_eq_false_iff_eq.mpr c318)) hr (vI r310) (by kernel_rfl) fun a hr => ?_
     refine opv (wgt hr (bne_eq_false_iff_eq.mpr c318)) hr (vI r10) (by kernel_rfl) fun a hr => ?_
     refine opv (wgt hr (bne_eq_false_iff_eq.mpr c318)) hr (vB (r310 != r10)) (by kernel_rfl) fun a hr => ?_
     refine opv (wn rfl) hr (vB (r310 != r10)) (rp_f (b := (r18 != r2)) rfl (by kernel_rfl) (bne_eq_false_iff_eq.mpr c318) (by kernel_rfl)) fun a hr => ?_
     refine o1 hr (vB (r310 != r10)) fun a hr => ?_
     by_cases c319 : r310 = r10
     ·
      replace H := ifT c319 H
      refine opv (wgt hr (bne_eq_false_iff_eq.mpr c319)) hr (pN) (by kernel_rfl) fun a hr => ?_
      refine opv (wgt hr (bne_eq_false_iff_eq.mpr c319)) hr (vB true) (by kernel_rfl) fun a hr => ?_
      refine opv (wgt hr (bne_eq_false_iff_eq.mpr c319)) hr (vI r2) (by kernel_rfl) fun a hr => ?_
      refine opv (wgt hr (bne_eq_false_iff_eq.mpr c319)) hr (vB (r2 != 0)) (by kernel_rfl) fun a hr => ?_
      refine opv (wgt hr (bne_eq_false_iff_eq.mpr c319)) hr (vB (!(true == (r2 != 0)))) (by kernel_rfl) fun a hr => ?_
      refine opv (wn rfl) hr (vB (!(true == (r2 != 0)))) (rp_f (b := (r310 != r10)) rfl (by kernel_rfl) (bne_eq_false_iff_eq.mpr c319) (by kernel_rfl)) fun a hr => ?_
      refine o1 hr (vB (!(true == (r2 != 0)))) fun a hr => ?_
      by_cases c320 : true = (r2 != 0)
      ·
       replace H := ifT c320 H
       refine opv (wgt hr (x := !(true == (r2 != 0))) (c := false) (by rw [show (true == (r2 != 0)) = true from (beq_iff_eq.mpr c320)]; rfl)) hr (pA Bn313 0) (by kernel_rfl) fun a hr => ?_
       refine opv (wgt hr (x := !(true == (r2 != 0))) (c := false) (by rw [show (true == (r2 != 0)) = true from (beq_iff_eq.mpr c320)]; rfl)) hr (vB false) (by kernel_rfl) fun a hr => ?_
       refine opv (wgt hr (x := !(true == (r2 != 0))) (c := false) (by rw [show (true == (r2 != 0)) = true from (beq_iff_eq.mpr c320)]; rfl)) hr (vI r10) (by kernel_rfl) fun a hr => ?_
       refine opv (wgt hr (x := !(true == (r2 != 0))) (c := false) (by rw [show (true == (r2 != 0)) = true from (beq_iff_eq.mpr c320)]; rfl)) hr (vB (r10 != 0)) (by kernel_rfl) fun a hr => ?_
       refine opv (wgt hr (x := !(true == (r2 != 0))) (c := false) (by rw [show (true == (r2 != 0)) = true from (beq_iff_eq.mpr c320)]; rfl)) hr (vB (!(false == (r10 != 0)))) (by kernel_rfl) fun a hr => ?_
       refine opv (wn rfl) hr (vB (!(false == (r10 != 0)))) (rp_f (b := (!(true == (r2 != 0)))) rfl (by kernel_rfl) (by rw [show (true == (r2 != 0)) = true from (beq_iff_eq.mpr c320)]; rfl) (by kernel_rfl)) fun a hr => ?_
       refine ln ?_
       by_cases c321 : false = (r10 != 0)
       ·
        replace H := ifT c321 H
        refine cond_ff hr (b := (!(false == (r10 != 0)))) (by rw [show (false == (r10 != 0)) = true from (beq_iff_eq.mpr c321)]; rfl) ?_
        refine wp_skip ?_
        refine then_normal ?_
        replace hr := hr.fold2 [(2, .slice va2 p2.length vc2), (7, pA Bn4 0), (9, pA Bn12 0), (11, pN), (13, pA Bn313 0)] (by kernel_rfl); obtain ⟨j, hr⟩ := hr
        replace h : Fit z (sepL (ob62 Bn4 r1 car5 ccr6 car7 ccr8 :: ro2 car5 ccr6 r1.Held :: ro90 car7 ccr8 r1.Book :: ob62 Bn12 r9 car13 ccr14 car15 ccr16 :: ro2 car13 ccr14 r9.Held :: ro90 car15 ccr16 r9.Book :: ob110 Bn313 S312 car314 ccr315 :: ro107 car314 ccr315 S312.cell :: L)) _ := h.sel 8 [5, 6, 7, 2, 3, 4, 0, 1] (by kernel_rfl) (by kernel_rfl)
        exact ⟨(), sinj H, j, hr, h⟩
       ·
        replace H := ifF c321 H
        refine cond_tt hr (b := (!(false == (r10 != 0)))) (by rw [show (false == (r10 != 0)) = false from (beq_eq_false_iff_ne.mpr c321)]; rfl) ?_
        refine sr ?_
        refine o1 hr (vB false) fun a hr => ?_
        refine ln ?_
        refine wp_ret ?_
        refine then_ret ?_
        refine end_ret1 (v := vB false) rfl hr (by kernel_rfl) ?_
        replace H := jx0 H hK316
        replace h : Fit z (sepL (L)) _ := h.sel 8 [] (by kernel_rfl) (by kernel_rfl)
        replace H := ej1 H; subst H
        exact ⟨rfl, h⟩
      ·
       replace H := ifF c320 H
       refine offg (wgt hr (x := !(true == (r2 != 0))) (c := true) (by rw [show (true == (r2 != 0)) = false from (beq_eq_false_iff_ne.mpr c320)]; rfl)) hr fun a hr => ?_
       refine offg (wgt hr (x := !(true == (r2 != 0))) (c := true) (by rw [show (true == (r2 != 0)) = false from (beq_eq_false_iff_ne.mpr c320)]; rfl)) hr fun a hr => ?_
       refine offg (wgt hr (x := !(true == (r2 != 0))) (c := true) (by rw [show (true == (r2 != 0)) = false from (beq_eq_false_iff_ne.mpr c320)]; rfl)) hr fun a hr => ?_
       refine offg (wgt hr (x := !(true == (r2 != 0))) (c := true) (by rw [show (true == (r2 != 0)) = false from (beq_eq_false_iff_ne.mpr c320)]; rfl)) hr fun a hr => ?_
       refine offg (wgt hr (x := !(true == (r2 != 0))) (c := true) (by rw [show (true == (r2 != 0)) = false from (beq_eq_false_iff_ne.mpr c320)]; rfl)) hr fun a hr => ?_
       refine opv (wn rfl) hr (vB true) (rp_t (b := (!(true == (r2 != 0)))) rfl (by kernel_rfl) (by rw [show (true == (r2 != 0)) = false from (beq_eq_false_iff_ne.mpr c320)]; rfl) (by kernel_rfl)) fun a hr => ?_
       refine ln ?_
       refine cond_tt hr (b := true) rfl ?_
       refine sr ?_
       refine o1 hr (vB false) fun a hr => ?_
       refine ln ?_
       refine wp_ret ?_
       refine then_ret ?_
       refine end_ret1 (v := vB false) rfl hr (by kernel_rfl) ?_
       replace H := jx0 H hK316
       replace h : Fit z (sepL (L)) _ := h.sel 8 [] (by kernel_rfl) (by kernel_rfl)
       replace H := ej1 H; subst H
       exact ⟨rfl, h⟩
     ·
      replace H := ifF c319 H
      refine offg (wgt hr (bne_iff_ne.mpr c319)) hr fun a hr => ?_
      refine offg (wgt hr (bne_iff_ne.mpr c319)) hr fun a hr => ?_
      refine offg (wgt hr (bne_iff_ne.mpr c319)) hr fun a hr => ?_
      refine offg (wgt hr (bne_iff_ne.mpr c319)) hr fun a hr => ?_
      refine offg (wgt hr (bne_iff_ne.mpr c319)) hr fun a hr => ?_
      refine opv (wn rfl) hr (vB true) (rp_t (b := (r310 != r10)) rfl (by kernel_rfl) (bne_iff_ne.mpr c319) (by kernel_rfl)) fun a hr => ?_
      refine o1 hr (vB true) fun a hr => ?_
      refine offg (wgt hr (c := true) rfl) hr fun a hr => ?_
      refine offg (wgt hr (c := true) rfl) hr fun a hr => ?_
      refine offg (wgt hr (c := true) rfl) hr fun a hr => ?_
      refine offg (wgt hr (c := true) rfl) hr fun a hr => ?_
      refine offg (wgt hr (c := true) rfl) hr fun a hr => ?_
      refine o1 hr (vB true) fun a hr => ?_
      refine ln ?_
      refine cond_tt hr (b := true) rfl ?_
      refine sr ?_
      refine o1 hr (vB false) fun a hr => ?_
      refine ln ?_
      refine wp_ret ?_
      refine then_ret ?_
      refine end_ret1 (v := vB false) rfl hr (by kernel_rfl) ?_
      replace H := jx0 H hK316
      replace h : Fit z (sepL (L)) _ := h.sel 8 [] (by kernel_rfl) (by kernel_rfl)
      replace H := ej1 H; subst H
      exact ⟨rfl, h⟩
    ·
     replace H := ifF c318 H
     refine offg (wgt hr (bne_iff_ne.mpr c318)) hr fun a hr => ?_
     refine offg (wgt hr (bne_iff_ne.mpr c318)) hr fun a hr => ?_
     refine offg (wgt hr (bne_iff_ne.mpr c318)) hr fun a hr => ?_
     refine opv (wn rfl) hr (vB true) (rp_t (b := (r18 != r2)) rfl (by kernel_rfl) (bne_iff_ne.mpr c318) (by kernel_rfl)) fun a hr => ?_
     refine o1 hr (vB true) fun a hr => ?_
     refine offg (wgt hr (c := true) rfl) hr fun a hr => ?_
     refine offg (wgt hr (c := true) rfl) hr fun a hr => ?_
     refine offg (wgt hr (c := true) rfl) hr fun a hr => ?_
     refine offg (wgt hr (c := true) rfl) hr fun a hr => ?_
     refine offg (wgt hr (c := true) rfl) hr fun a hr => ?_
     refine oo [55, 56] [vB true, vB true] hr fun a hr => ?_
     refine offg (wgt hr (c := true) rfl) hr fun a hr => ?_
     refine offg (wgt hr (c := true) rfl) hr fun a hr => ?_
     refine offg (wgt hr (c := true) rfl) hr fun a hr => ?_
     refine offg (wgt hr (c := true) rfl) hr fun a hr => ?_
     refine offg (wgt hr (c := true) rfl) hr fun a hr => ?_
     refine o1 hr (vB true) fun a hr => ?_
     refine ln ?_
     refine cond_tt hr (b := true) rfl ?_
     refine sr ?_
     refine o1 hr (vB false) fun a hr => ?_
     refine ln ?_
     refine wp_ret ?_
     refine then_ret ?_
     refine end_ret1 (v := vB false) rfl hr (by kernel_rfl) ?_
     replace H := jx0 H hK316
     replace h : Fit z (sepL (L)) _ := h.sel 8 [] (by kernel_rfl) (by kernel_rfl)
     replace H := ej1 H; subst H
     exact ⟨rfl, h⟩
   clear h hr a; rintro _ a w ⟨rfl, j, hr, h⟩
   replace H := jk0 hK316
   obtain ⟨o336, H, hK335⟩ := jd3 H
   refine cut_rule (β := Unit) (fun _ a w => ∃ ca323 : Option Addr, ∃ cc324 : Nat, ∃ ca325 : Option Addr, ∃ cc326 : Nat, ∃ ca328 : Option Addr, ∃ cc329 : Nat, ∃ ca330 : Option Addr, ∃ cc331 : Nat, ∃ ca333 : Option Addr, ∃ cc334 : Nat, ∃ S322 : T_plunderref2_Arena, ∃ S327 : T_plunderref2_Arena, ∃ S332 : T_cells_Shared, .inl (S322, S327, S332) = o336 ∧ ∃ j, Rep 138 (lk [(7, pA Bn4 0), (9, pA Bn12 0), (11, pN), (13, pA Bn313 0)] j) a ∧ Fit z (sepL (ob62 Bn4 S322 ca323 cc324 ca325 cc326 :: ro2 ca323 cc324 S322.Held :: ro90 ca325 cc326 S322.Book :: ob62 Bn12 S327 ca328 cc329 ca330 cc331 :: ro2 ca328 cc329 S327.Held :: ro90 ca330 cc331 S327.Book :: ob110 Bn313 S332 ca333 cc334 :: ro107 ca333 cc334 S332.cell :: L)) w) ?_ ?_
   ·
    refine sr ?_
    refine o1 hr (vI 0) fun a hr => ?_
    refine ln ?_
    refine wp_block ?_
    replace hr := hr.fold2 [(2, .slice va2 p2.length vc2), (7, pA Bn4 0), (9, pA Bn12 0), (11, pN), (13, pA Bn313 0), (15, vI 0)] (by kernel_rfl); obtain ⟨j, hr⟩ := hr
    refine loop_rule (β := Nat) id (fun m a w => ∃ ca338 : Option Addr, ∃ cc339 : Nat, ∃ ca340 : Option Addr, ∃ cc341 : Nat, ∃ ca343 : Option Addr, ∃ cc344 : Nat, ∃ ca345 : Option Addr, ∃ cc346 : Nat, ∃ ca348 : Option Addr, ∃ cc349 : Nat, ∃ S337 : T_plunderref2_Arena, ∃ S342 : T_plunderref2_Arena, ∃ S347 : T_cells_Shared, ∃ g350 : Int, (plunderlaw2_CellsShared_l3 K p2 m S337 S342 S347 g350) = some o336 ∧ ∃ j, Rep 138 (lk [(2, .slice va2 p2.length vc2), (7, pA Bn4 0), (9, pA Bn12 0), (11, pN), (13, pA Bn313 0), (15, vI g350)] j) a ∧ Fit z (sepL (ob62 Bn4 S337 ca338 cc339 ca340 cc341 :: ro2 ca338 cc339 S337.Held :: ro90 ca340 cc341 S337.Book :: ob62 Bn12 S342 ca343 cc344 ca345 cc346 :: ro2 ca343 cc344 S342.Held :: ro90 ca345 cc346 S342.Book :: ob110 Bn313 S347 ca348 cc349 :: ro107 ca348 cc349 S347.cell :: L)) w) K ⟨car5, ccr6, car7, ccr8, car13, ccr14, car15, ccr16, car314, ccr315, r1, r9, S312, 0, H, j, hr, h⟩ ?_
    clear h hr a H; rintro k3 a w ⟨ca338, cc339, ca340, cc341, ca343, cc344, ca345, cc346, ca348, cc349, S337, S342, S347, g350, H, j, hr, h⟩
    cases k3 with
    | zero => exact absurd H (by simp [plunderlaw2_CellsShared_l3])
    | succ k3 =>
     rw [plunderlaw2_CellsShared_l3] at H
     refine wp_seq ?_
     refine sr ?_
     refine oo [63, 64, 65, 66] [vI g350, .slice va2 p2.length vc2, vI ((p2.length : Nat) : Int), vB (decide (g350 < ((p2.length : Nat) : Int)))] hr fun a hr => ?_
     refine ln ?_
     by_cases c351 : g350 < ((p2.length : Nat) : Int)
     ·
      replace H := ifT c351 H
      refine cond_tt hr (decide_eq_true c351) ?_
      refine wp_skip ?_
      refine then_normal ?_
      refine wp_seq ?_
      refine wp_block ?_
      refine sr ?_
      obtain ⟨c352, H⟩ := gd H
      refine oo [69, 70] [.slice va2 p2.length vc2, vI g350] hr fun a hr => ?_
      refine opv (wn rfl) hr (pA (blk va2) (offs va2 + g350.toNat * 5)) (ri_rd (k := .i64) (E := 30) (cc := vc2) rfl (by kernel_rfl) (by kernel_rfl) rfl (by kernel_rfl) (by kernel_rfl) hv2 c352) fun a hr => ?_
      refine ldm (wn rfl) hr (ag_T_plunderlaw2_Move (at_ p2 g350.toNat)) (cs := cl_T_plunderlaw2_Move (at_ p2 g350.toNat)) ⟨hv2.cell c352 (h.dn 8) 0 rfl, hv2.cell c352 (h.dn 8) 1 rfl, hv2.cell c352 (h.dn 8) 2 rfl, hv2.cell c352 (h.dn 8) 3 rfl, hv2.cell c352 (h.dn 8) 4 rfl, trivial⟩ fun a hr => ?_
      refine onew (wn rfl) hr h nb (#[vI 0, vI 0, vI 0, vI 0, vI 0]) 30 fun b353 w a h hr => ?_
      refine stos (wn rfl) hr h 0 (cl_T_plunderlaw2_Move (at_ p2 g350.toNat)) (ca_T_plunderlaw2_Move (at_ p2 g350.toNat)) fun w h => ?_
      refine wpList_nil ?_
      replace h : Fit z (sepL (ob30 b353 (at_ p2 g350.toNat) :: ob62 Bn4 S337 ca338 cc339 ca340 cc341 :: ro2 ca338 cc339 S337.Held :: ro90 ca340 cc341 S337.Book :: ob62 Bn12 S342 ca343 cc344 ca345 cc346 :: ro2 ca343 cc344 S342.Held :: ro90 ca345 cc346 S342.Book :: ob110 Bn313 S347 ca348 cc349 :: ro107 ca348 cc349 S347.cell :: L)) _ := h
      refine then_normal ?_
      refine sr ?_
      refine oo [73, 17] [pN, pN] hr fun a hr => ?_
      refine ln ?_
      refine sr ?_
      refine oo [74, 18] [pA Bn4 0, pA Bn4 0] hr fun a hr => ?_
      refine ln ?_
      refine wp_seq ?_
      refine sr ?_
      refine o1 hr (pA b353 0) fun a hr => ?_
      refine ld (wn rfl) hr (vI (at_ p2 g350.toNat).Side) (h.cell 0 rfl) fun a hr => ?_
      obtain ⟨r354, e355, H⟩ := bd1 H
      have hc := plunderlaw2_mod_ok (H := e355) (h := h)
      refine cl (wn rfl) hr hc ?_; clear hc h
      rintro _ w ⟨rfl, h⟩; refine ⟨_, rfl, fun a hr => ?_⟩
      refine o1 hr (vB (r354 == 1)) fun a hr => ?_
      refine ln ?_
      by_cases c356 : r354 = 1
      ·
       replace H := ifT c356 H
       refine cond_tt hr (beq_iff_eq.mpr c356) ?_
       refine sr ?_
       refine oo [79, 17] [pA Bn313 0, pA Bn313 0] hr fun a hr => ?_
       refine ln ?_
       refine wp_region_lit ?_
       refine oo [80, 18] [pA Bn12 0, pA Bn12 0] hr fun a hr => ?_
       refine ln ?_
       obtain ⟨o366, H, hK365⟩ := jd2 H
       refine cut_rule (β := Unit) (fun _ a w => ∃ ca358 : Option Addr, ∃ cc359 : Nat, ∃ ca360 : Option Addr, ∃ cc361 : Nat, ∃ ca363 : Option Addr, ∃ cc364 : Nat, ∃ S357 : T_plunderref2_Arena, ∃ S362 : T_cells_Shared, .inl (S357, S362) = o366 ∧ ∃ j, Rep 138 (lk [(2, .slice va2 p2.length vc2), (7, pA Bn4 0), (9, pA Bn12 0), (11, pN), (13, pA Bn313 0), (15, vI g350), (16, pA b353 0), (17, pA Bn313 0), (18, pA Bn12 0)] j) a ∧ Fit z (sepL (ob62 Bn4 S337 ca338 cc339 ca340 cc341 :: ro2 ca338 cc339 S337.Held :: ro90 ca340 cc341 S337.Book :: ob62 Bn12 S357 ca358 cc359 ca360 cc361 :: ro2 ca358 cc359 S357.Held :: ro90 ca360 cc361 S357.Book :: ob110 Bn313 S362 ca363 cc364 :: ro107 ca363 cc364 S362.cell :: ob30 b353 (at_ p2 g350.toNat) :: L)) w) ?_ ?_
       ·
        obtain ⟨o369, H, hK368⟩ := kd1 H
        refine cut_rule (β := Unit) (fun _ a w => ∃ g367 : Bool, g367 = o369 ∧ ∃ j, Rep 138 (lk [(2, .slice va2 p2.length vc2), (7, pA Bn4 0), (9, pA Bn12 0), (11, pN), (13, pA Bn313 0), (15, vI g350), (16, pA b353 0), (17, pA Bn313 0), (18, pA Bn12 0), (88, vB g367)] j) a ∧ Fit z (sepL (ob62 Bn4 S337 ca338 cc339 ca340 cc341 :: ro2 ca338 cc339 S337.Held :: ro90 ca340 cc341 S337.Book :: ob62 Bn12 S342 ca343 cc344 ca345 cc346 :: ro2 ca343 cc344 S342.Held :: ro90 ca345 cc346 S342.Book :: ob110 Bn313 S347 ca348 cc349 :: ro107 ca348 cc349 S347.cell :: ob30 b353 (at_ p2 g350.toNat) :: L)) w) ?_ ?_
        ·
         refine wp_region_lit ?_
         refine o1 hr (pA b353 1) fun a hr => ?_
         refine ld (wn rfl) hr (vI (at_ p2 g350.toNat).Kind) (h.cell 1 rfl) fun a hr => ?_
         refine oo [83, 84] [vB (decide ((at_ p2 g350.toNat).Kind ≥ 0)), vB (decide ((at_ p2 g350.toNat).Kind ≥ 0))] hr fun a hr => ?_
         by_cases c370 : (at_ p2 g350.toNat).Kind ≥ 0
         ·
          replace H := ifT c370 H
          refine opv (wgt hr (decide_eq_true c370)) hr (pA b353 1) (by kernel_rfl) fun a hr => ?_
          refine ld (wgt hr (decide_eq_true c370)) hr (vI (at_ p2 g350.toNat).Kind) (h.cell 1 rfl) fun a hr => ?_
          refine opv (wgt hr (decide_eq_true c370)) hr (vB (decide ((at_ p2 g350.toNat).Kind ≤ 4))) (by kernel_rfl) fun a hr => ?_
          refine opv (wn rfl) hr (vB (decide ((at_ p2 g350.toNat).Kind ≤ 4))) (rp_t (b := (decide ((at_ p2 g350.toNat).Kind ≥ 0))) rfl (by kernel_rfl) (decide_eq_true c370) (by kernel_rfl)) fun a hr => ?_
          refine ln ?_
          replace hr := hr.fold2 [(2, .slice va2 p2.length vc2), (7, pA Bn4 0), (9, pA Bn12 0), (11, pN), (13, pA Bn313 0), (15, vI g350), (16, pA b353 0), (17, pA Bn313 0), (18, pA Bn12 0), (88, vB (decide ((at_ p2 g350.toNat).Kind ≤ 4)))] (by kernel_rfl); obtain ⟨j, hr⟩ := hr
          replace h : Fit z (sepL (ob62 Bn4 S337 ca338 cc339 ca340 cc341 :: ro2 ca338 cc339 S337.Held :: ro90 ca340 cc341 S337.Book :: ob62 Bn12 S342 ca343 cc344 ca345 cc346 :: ro2 ca343 cc344 S342.Held :: ro90 ca345 cc346 S342.Book :: ob110 Bn313 S347 ca348 cc349 :: ro107 ca348 cc349 S347.cell :: ob30 b353 (at_ p2 g350.toNat) :: L)) _ := h.sel 9 [1, 2, 3, 4, 5, 6, 7, 8, 0] (by kernel_rfl) (by kernel_rfl)
          exact ⟨(), (decide ((at_ p2 g350.toNat).Kind ≤ 4)), sinj H, j, hr, h⟩
         ·
          replace H := ifF c370 H
          refine offg (wgt hr (decide_eq_false c370)) hr fun a hr => ?_
          refine offg (wgt hr (decide_eq_false c370)) hr fun a hr => ?_
          refine offg (wgt hr (decide_eq_false c370)) hr fun a hr => ?_
          refine opv (wn rfl) hr (vB false) (rp_f (b := (decide ((at_ p2 g350.toNat).Kind ≥ 0))) rfl (by kernel_rfl) (decide_eq_false c370) (by kernel_rfl)) fun a hr => ?_
          refine ln ?_
          replace hr := hr.fold2 [(2, .slice va2 p2.length vc2), (7, pA Bn4 0), (9, pA Bn12 0), (11, pN), (13, pA Bn313 0), (15, vI g350), (16, pA b353 0), (17, pA Bn313 0), (18, pA Bn12 0), (88, vB false)] (by kernel_rfl); obtain ⟨j, hr⟩ := hr
          replace h : Fit z (sepL (ob62 Bn4 S337 ca338 cc339 ca340 cc341 :: ro2 ca338 cc339 S337.Held :: ro90 ca340 cc341 S337.Book :: ob62 Bn12 S342 ca343 cc344 ca345 cc346 :: ro2 ca343 cc344 S342.Held :: ro90 ca345 cc346 S342.Book :: ob110 Bn313 S347 ca348 cc349 :: ro107 ca348 cc349 S347.cell :: ob30 b353 (at_ p2 g350.toNat) :: L)) _ := h.sel 9 [1, 2, 3, 4, 5, 6, 7, 8, 0] (by kernel_rfl) (by kernel_rfl)
          exact ⟨(), false, sinj H, j, hr, h⟩
        clear h hr a; rintro _ a w ⟨g367, rfl, j, hr, h⟩
        replace H := kk1 hK368
        by_cases c371 : g367 = true
        ·
         replace H := ifT c371 H
         refine cond_tt hr (c371) ?_
         refine sr ?_
         refine o1 hr (pA Bn313 0) fun a hr => ?_
         refine ldm (wn rfl) hr (ag_T_plunderlaw2_Move (at_ p2 g350.toNat)) (cs := cl_T_plunderlaw2_Move (at_ p2 g350.toNat)) ((h.pick 8).held 0 rfl) fun a hr => ?_
         obtain ⟨r372, S373, e374, H⟩ := bd2 H
         replace h : Fit z (sepL (ob110 Bn313 S347 ca348 cc349 :: ro107 ca348 cc349 S347.cell :: ob62 Bn4 S337 ca338 cc339 ca340 cc341 :: ro2 ca338 cc339 S337.Held :: ro90 ca340 cc341 S337.Book :: ob62 Bn12 S342 ca343 cc344 ca345 cc346 :: ro2 ca343 cc344 S342.Held :: ro90 ca345 cc346 S342.Book :: ob30 b353 (at_ p2 g350.toNat) :: L)) _ := h.sel 9 [6, 7, 0, 1, 2, 3, 4, 5, 8] (by kernel_rfl) (by kernel_rfl)
         have hc := plunderlaw2_shared_ok (H := e374) (h := h)
         refine cl (wn rfl) hr hc ?_; clear hc h
         rintro _ w ⟨caq375, ccq376, rfl, h⟩; refine ⟨_, rfl, fun a hr => ?_⟩
         refine onew (wn rfl) hr h nb (#[vI 0, vB false, vI 0]) 39 fun b377 w a h hr => ?_
         refine stos (wn rfl) hr h 0 (cl_T_api_Effect r372) (ca_T_api_Effect r372) fun w h => ?_
         refine wpList_nil ?_
         replace h : Fit z (sepL (ob39 b377 r372 :: ob110 Bn313 S373 caq375 ccq376 :: ro107 caq375 ccq376 S373.cell :: ob62 Bn4 S337 ca338 cc339 ca340 cc341 :: ro2 ca338 cc339 S337.Held :: ro90 ca340 cc341 S337.Book :: ob62 Bn12 S342 ca343 cc344 ca345 cc346 :: ro2 ca343 cc344 S342.Held :: ro90 ca345 cc346 S342.Book :: ob30 b353 (at_ p2 g350.toNat) :: L)) _ := h
         refine then_normal ?_
         refine sr ?_
         refine o1 hr (pA Bn12 0) fun a hr => ?_
         refine ldm (wn rfl) hr (ag_T_plunderlaw2_Move (at_ p2 g350.toNat)) (cs := cl_T_plunderlaw2_Move (at_ p2 g350.toNat)) ((h.pick 9).held 0 rfl) fun a hr => ?_
         obtain ⟨r378, e379, H⟩ := bd1 H
         have hc := plunderlaw2_act_ok (H := e379) (h := h)
         refine cl (wn rfl) hr hc ?_; clear hc h
         rintro _ w ⟨rfl, h⟩; refine ⟨_, rfl, fun a hr => ?_⟩
         obtain ⟨r380, S381, e382, H⟩ := bd2 H
         replace h : Fit z (sepL (ob62 Bn12 S342 ca343 cc344 ca345 cc346 :: ro2 ca343 cc344 S342.Held :: ro90 ca345 cc346 S342.Book :: ob39 b377 r372 :: ob110 Bn313 S373 caq375 ccq376 :: ro107 caq375 ccq376 S373.cell :: ob62 Bn4 S337 ca338 cc339 ca340 cc341 :: ro2 ca338 cc339 S337.Held :: ro90 ca340 cc341 S337.Book :: ob30 b353 (at_ p2 g350.toNat) :: L)) _ := h.sel 10 [6, 7, 8, 0, 1, 2, 3, 4, 5, 9] (by kernel_rfl) (by kernel_rfl)
         have hc := plunderref2_Arena_Do_ok (H := e382) (h := h)
         refine cl (wn rfl) hr hc ?_; clear hc h
         rintro _ w ⟨caq383, ccq384, caq385, ccq386, rfl, h⟩; refine ⟨_, rfl, fun a hr => ?_⟩
         refine onew (wn rfl) hr h nb (#[vI 0, vB false, vI 0]) 39 fun b387 w a h hr => ?_
         refine stos (wn rfl) hr h 0 (cl_T_api_Effect r380) (ca_T_api_Effect r380) fun w h => ?_
         refine wpList_nil ?_
         replace h : Fit z (sepL (ob39 b387 r380 :: ob62 Bn12 S381 caq383 ccq384 caq385 ccq386 :: ro2 caq383 ccq384 S381.Held :: ro90 caq385 ccq386 S381.Book :: ob39 b377 r372 :: ob110 Bn313 S373 caq375 ccq376 :: ro107 caq375 ccq376 S373.cell :: ob62 Bn4 S337 ca338 cc339 ca340 cc341 :: ro2 ca338 cc339 S337.Held :: ro90 ca340 cc341 S337.Book :: ob30 b353 (at_ p2 g350.toNat) :: L)) _ := h
         refine then_normal ?_
         refine sr ?_
         refine ldm (wn rfl) hr (ag_T_api_Effect r372) (cs := cl_T_api_Effect r372) ((h.pick 4).held 0 rfl) fun a hr => ?_
         refine ldm (wn rfl) hr (ag_T_api_Effect r380) (cs := cl_T_api_Effect r380) (h.held 0 rfl) fun a hr => ?_
         refine opv (wn rfl) hr (vB (!(decide (r372 = r380)))) (rb (rne rfl (by kernel_rfl) (by kernel_rfl) (by kernel_rfl) (by kernel_rfl) (by kernel_rfl) (by kernel_rfl)) (congrArg (!·) (eq_T_api_Effect r372 r380))) fun a hr => ?_
         refine ln ?_
         by_cases c388 : r372 = r380
         ·
          replace H := ifT c388 H
          refine cond_ff hr (b := (!(decide (r372 = r380)))) (by rw [show (decide (r372 = r380)) = true from (decide_eq_true c388)]; rfl) ?_
          refine wp_skip ?_
          refine then_normal ?_
          replace hr := hr.fold2 [(2, .slice va2 p2.length vc2), (7, pA Bn4 0), (9, pA Bn12 0), (11, pN), (13, pA Bn313 0), (15, vI g350), (16, pA b353 0), (17, pA Bn313 0), (18, pA Bn12 0)] (by kernel_rfl); obtain ⟨j, hr⟩ := hr
          replace h : Fit z (sepL (ob62 Bn4 S337 ca338 cc339 ca340 cc341 :: ro2 ca338 cc339 S337.Held :: ro90 ca340 cc341 S337.Book :: ob62 Bn12 S381 caq383 ccq384 caq385 ccq386 :: ro2 caq383 ccq384 S381.Held :: ro90 caq385 ccq386 S381.Book :: ob110 Bn313 S373 caq375 ccq376 :: ro107 caq375 ccq376 S373.cell :: ob30 b353 (at_ p2 g350.toNat) :: L)) _ := h.sel 11 [7, 8, 9, 1, 2, 3, 5, 6, 10] (by kernel_rfl) (by kernel_rfl)
          exact ⟨(), caq383, ccq384, caq385, ccq386, caq375, ccq376, S381, S373, sinj H, j, hr, h⟩
         ·
          replace H := ifF c388 H
          refine cond_tt hr (b := (!(decide (r372 = r380)))) (by rw [show (decide (r372 = r380)) = false from (decide_eq_false c388)]; rfl) ?_
          refine sr ?_
          refine o1 hr (vB false) fun a hr => ?_
          refine ln ?_
          refine wp_ret ?_
          refine then_ret ?_
          refine blk_ret ?_
          refine then_ret ?_
          refine then_ret ?_
          refine blk_ret ?_
          refine then_ret ?_
          refine end_ret1 (v := vB false) rfl hr (by kernel_rfl) ?_
          replace H := jx2 H hK365
          replace H := jx3 H hK335
          replace h : Fit z (sepL (L)) _ := h.sel 11 [] (by kernel_rfl) (by kernel_rfl)
          replace H := ej1 H; subst H
          exact ⟨rfl, h⟩
        ·
         replace H := ifF c371 H
         refine cond_ff hr (bF c371) ?_
         refine wp_skip ?_
         refine then_normal ?_
         replace hr := hr.fold2 [(2, .slice va2 p2.length vc2), (7, pA Bn4 0), (9, pA Bn12 0), (11, pN), (13, pA Bn313 0), (15, vI g350), (16, pA b353 0), (17, pA Bn313 0), (18, pA Bn12 0)] (by kernel_rfl); obtain ⟨j, hr⟩ := hr
         exact ⟨(), ca343, cc344, ca345, cc346, ca348, cc349, S342, S347, sinj H, j, hr, h⟩
       clear h hr a; rintro _ a w ⟨ca358, cc359, ca360, cc361, ca363, cc364, S357, S362, rfl, j, hr, h⟩
       replace H := jk2 hK365
       obtain ⟨o390, H, hK389⟩ := jd0 H
       refine cut_rule (β := Unit) (fun _ a w => .inl () = o390 ∧ ∃ j, Rep 138 (lk [(2, .slice va2 p2.length vc2), (7, pA Bn4 0), (9, pA Bn12 0), (11, pN), (13, pA Bn313 0), (15, vI g350), (16, pA b353 0), (17, pA Bn313 0), (18, pA Bn12 0)] j) a ∧ Fit z (sepL (ob62 Bn4 S337 ca338 cc339 ca340 cc341 :: ro2 ca338 cc339 S337.Held :: ro90 ca340 cc341 S337.Book :: ob62 Bn12 S357 ca358 cc359 ca360 cc361 :: ro2 ca358 cc359 S357.Held :: ro90 ca360 cc361 S357.Book :: ob110 Bn313 S362 ca363 cc364 :: ro107 ca363 cc364 S362.cell :: ob30 b353 (at_ p2 g350.toNat) :: L)) w) ?_ ?_
       ·
        refine wp_seq ?_
        by_cases c391 : (at_ p2 g350.toNat).Kind = 7
        ·
         replace H := ifT c391 H
         obtain ⟨r392, e393, H⟩ := bd1 H
         refine reg_E (fun w => heldC w b353 1 ([vI (at_ p2 g350.toNat).Kind]) ∧ heldC w Bn12 0 ([vI S357.Most]) ∧ True) [0, 2, 5, 7, 8] h (by kernel_rfl) ?_; intro w h
         change wpAnyE _ _ _ _ _ _ 12 (Array.replicate 12 false) a w
         have hgo : ∀ w w', CellsGo w w' → (heldC w b353 1 ([vI (at_ p2 g350.toNat).Kind]) ∧ heldC w Bn12 0 ([vI S357.Most]) ∧ True) → heldC w' b353 1 ([vI (at_ p2 g350.toNat).Kind]) ∧ heldC w' Bn12 0 ([vI S357.Most]) ∧ True := fun w w' g hD => ⟨heldC_go _ _ _ _ _ g hD.1, heldC_go _ _ _ _ _ g hD.2.1, trivial⟩
         refine evDs hgo ⟨⟨(h.pick 8).cell 1 rfl, trivial⟩, ⟨(h.pick 3).cell 0 rfl, trivial⟩, trivial⟩ 11 0 rfl (wn rfl) hr (pA b353 1) fun a hr => ?_
         refine el [0, 2, 5, 7, 8] (b := b353) (off := 1) (cs := [vI (at_ p2 g350.toNat).Kind]) (fun _ hk => ⟨hk, fun w hD => hD.1⟩) 10 1 rfl (by kernel_rfl) (wn rfl) hr (vI (at_ p2 g350.toNat).Kind) ⟨(h.pick 8).cell 1 rfl, trivial⟩ (fun w hc => rl rfl (by kernel_rfl) (by kernel_rfl) hc.1) fun a hr => ?_
         refine evDs hgo ⟨⟨(h.pick 8).cell 1 rfl, trivial⟩, ⟨(h.pick 3).cell 0 rfl, trivial⟩, trivial⟩ 9 2 rfl (wn rfl) hr (vB ((at_ p2 g350.toNat).Kind == 7)) fun a hr => ?_
         refine evs 8 3 rfl (wn rfl) hr (vB ((at_ p2 g350.toNat).Kind == 7)) fun a hr => ?_
         refine evs 7 4 rfl (wgt hr (beq_iff_eq.mpr c391)) hr (pA Bn313 0) fun a hr => ?_
         refine evs 6 6 rfl (wgt hr (beq_iff_eq.mpr c391)) hr (pA Bn12 0) fun a hr => ?_
         refine evDs hgo ⟨⟨(h.pick 8).cell 1 rfl, trivial⟩, ⟨(h.pick 3).cell 0 rfl, trivial⟩, trivial⟩ 5 7 rfl (wgt hr (beq_iff_eq.mpr c391)) hr (pA Bn12 0) fun a hr => ?_
         refine evDs hgo ⟨⟨(h.pick 8).cell 1 rfl, trivial⟩, ⟨(h.pick 3).cell 0 rfl, trivial⟩, trivial⟩ 4 8 rfl (wgt hr (beq_iff_eq.mpr c391)) hr (pA Bn12 0) fun a hr => ?_
         refine el [0, 2, 5, 7, 8] (b := Bn12) (off := 0) (cs := [vI S357.Most]) (fun _ hk => ⟨hk, fun w hD => hD.2.1⟩) 3 9 rfl (by kernel_rfl) (wgt hr (beq_iff_eq.mpr c391)) hr (vI S357.Most) ⟨(h.pick 3).cell 0 rfl, trivial⟩ (fun w hc => rl rfl (by kernel_rfl) (by kernel_rfl) hc.1) fun a hr => ?_
         refine e_one (fuel := 2) (i := 5) (by kernel_rfl) rfl ?_
         replace h : Fit z (sepL (ob110 Bn313 S362 ca363 cc364 :: ro107 ca363 cc364 S362.cell :: ob62 Bn4 S337 ca338 cc339 ca340 cc341 :: ro2 ca338 cc339 S337.Held :: ro90 ca340 cc341 S337.Book :: ob62 Bn12 S357 ca358 cc359 ca360 cc361 :: ro2 ca358 cc359 S357.Held :: ro90 ca360 cc361 S357.Book :: ob30 b353 (at_ p2 g350.toNat) :: L)) _ := h.sel 9 [6, 7, 0, 1, 2, 3, 4, 5, 8] (by kernel_rfl) (by kernel_rfl)
         have hc := cells_Shared_Size_ok (H := e393) (h := h)
         refine cl (wgt hr (beq_iff_eq.mpr c391)) hr hc ?_; clear hc h
         rintro _ w ⟨rfl, h⟩; refine ⟨_, rfl, fun a hr => ?_⟩
         refine wpList_nil ?_; refine then_normal ?_
         refine ⟨fun _ => ⟨⟨(h.pick 8).cell 1 rfl, trivial⟩, ⟨(h.pick 5).cell 0 rfl, trivial⟩, trivial⟩, ?_⟩
         refine evs 1 10 rfl (wgt hr (beq_iff_eq.mpr c391)) hr (vB (r392 != S357.Most)) fun a hr => ?_
         refine ev 0 11 rfl (by kernel_rfl) (wn rfl) hr (vB (r392 != S357.Most)) (fun w => rp_t (b := ((at_ p2 g350.toNat).Kind == 7)) rfl (by kernel_rfl) (beq_iff_eq.mpr c391) (by kernel_rfl)) fun a hr => ?_
         refine e_end (by kernel_rfl) ?_
         refine then_normal ?_
         by_cases c394 : r392 = S357.Most
         ·
          replace H := ifT c394 H
          refine cond_ff hr (bne_eq_false_iff_eq.mpr c394) ?_
          refine wp_skip ?_
          refine then_normal ?_
          replace hr := hr.fold2 [(2, .slice va2 p2.length vc2), (7, pA Bn4 0), (9, pA Bn12 0), (11, pN), (13, pA Bn313 0), (15, vI g350), (16, pA b353 0), (17, pA Bn313 0), (18, pA Bn12 0)] (by kernel_rfl); obtain ⟨j, hr⟩ := hr
          replace h : Fit z (sepL (ob62 Bn4 S337 ca338 cc339 ca340 cc341 :: ro2 ca338 cc339 S337.Held :: ro90 ca340 cc341 S337.Book :: ob62 Bn12 S357 ca358 cc359 ca360 cc361 :: ro2 ca358 cc359 S357.Held :: ro90 ca360 cc361 S357.Book :: ob110 Bn313 S362 ca363 cc364 :: ro107 ca363 cc364 S362.cell :: ob30 b353 (at_ p2 g350.toNat) :: L)) _ := h.sel 9 [2, 3, 4, 5, 6, 7, 0, 1, 8] (by kernel_rfl) (by kernel_rfl)
          exact ⟨(), sinj H, j, hr, h⟩
         ·
          replace H := ifF c394 H
          refine cond_tt hr (bne_iff_ne.mpr c394) ?_
          refine sr ?_
          refine o1 hr (vB false) fun a hr => ?_
          refine ln ?_
          refine wp_ret ?_
          refine then_ret ?_
          refine blk_ret ?_
          refine then_ret ?_
          refine then_ret ?_
          refine blk_ret ?_
          refine then_ret ?_
          refine end_ret1 (v := vB false) rfl hr (by kernel_rfl) ?_
          replace H := jx0 H hK389
          replace H := jx3 H hK335
          replace h : Fit z (sepL (L)) _ := h.sel 9 [] (by kernel_rfl) (by kernel_rfl)
          replace H := ej1 H; subst H
          exact ⟨rfl, h⟩
        ·
         replace H := ifF c391 H
         refine reg_E (fun w => heldC w b353 1 ([vI (at_ p2 g350.toNat).Kind]) ∧ True) [0] h (by kernel_rfl) ?_; intro w h
         change wpAnyE _ _ _ _ _ _ 12 (Array.replicate 12 false) a w
         have hgo : ∀ w w', CellsGo w w' → (heldC w b353 1 ([vI (at_ p2 g350.toNat).Kind]) ∧ True) → heldC w' b353 1 ([vI (at_ p2 g350.toNat).Kind]) ∧ True := fun w w' g hD => ⟨heldC_go _ _ _ _ _ g hD.1, trivial⟩
         refine evDs hgo ⟨⟨(h.pick 8).cell 1 rfl, trivial⟩, trivial⟩ 11 0 rfl (wn rfl) hr (pA b353 1) fun a hr => ?_
         refine el [0] (b := b353) (off := 1) (cs := [vI (at_ p2 g350.toNat).Kind]) (fun _ hk => ⟨hk, fun w hD => hD.1⟩) 10 1 rfl (by kernel_rfl) (wn rfl) hr (vI (at_ p2 g350.toNat).Kind) ⟨(h.pick 8).cell 1 rfl, trivial⟩ (fun w hc => rl rfl (by kernel_rfl) (by kernel_rfl) hc.1) fun a hr => ?_
         refine evs 9 2 rfl (wn rfl) hr (vB ((at_ p2 g350.toNat).Kind == 7)) fun a hr => ?_
         refine evs 8 3 rfl (wn rfl) hr (vB ((at_ p2 g350.toNat).Kind == 7)) fun a hr => ?_
         refine eos 7 4 rfl (wgt hr (beq_eq_false_iff_ne.mpr c391)) hr fun a hr => ?_
         refine eos 6 6 rfl (wgt hr (beq_eq_false_iff_ne.mpr c391)) hr fun a hr => ?_
         refine eos 5 7 rfl (wgt hr (beq_eq_false_iff_ne.mpr c391)) hr fun a hr => ?_
         refine eos 4 8 rfl (wgt hr (beq_eq_false_iff_ne.mpr c391)) hr fun a hr => ?_
         refine eos 3 9 rfl (wgt hr (beq_eq_false_iff_ne.mpr c391)) hr fun a hr => ?_
         refine e_one (fuel := 2) (i := 5) (by kernel_rfl) rfl ?_
         refine offg (wgt hr (beq_eq_false_iff_ne.mpr c391)) hr fun a hr => ?_
         refine wpList_nil ?_; refine then_normal ?_
         refine ⟨fun hE => absurd hE (by decide), ?_⟩
         refine eos 1 10 rfl (wgt hr (beq_eq_false_iff_ne.mpr c391)) hr fun a hr => ?_
         refine ev 0 11 rfl (by kernel_rfl) (wn rfl) hr (vB false) (fun w => rp_f (b := ((at_ p2 g350.toNat).Kind == 7)) rfl (by kernel_rfl) (beq_eq_false_iff_ne.mpr c391) (by kernel_rfl)) fun a hr => ?_
         refine e_end (by kernel_rfl) ?_
         refine then_normal ?_
         refine cond_ff hr (b := false) rfl ?_
         refine wp_skip ?_
         refine then_normal ?_
         replace hr := hr.fold2 [(2, .slice va2 p2.length vc2), (7, pA Bn4 0), (9, pA Bn12 0), (11, pN), (13, pA Bn313 0), (15, vI g350), (16, pA b353 0), (17, pA Bn313 0), (18, pA Bn12 0)] (by kernel_rfl); obtain ⟨j, hr⟩ := hr
         exact ⟨(), sinj H, j, hr, h⟩
       clear h hr a; rintro _ a w ⟨rfl, j, hr, h⟩
       replace H := jk0 hK389
       refine wp_seq ?_
       by_cases c395 : (at_ p2 g350.toNat).Kind = 8
       ·
        replace H := ifT c395 H
        obtain ⟨r396, S397, e398, H⟩ := bd2 H
        refine reg_E (fun w => heldC w b353 1 ([vI (at_ p2 g350.toNat).Kind]) ∧ heldC w Bn12 1 ([.slice ca358 S357.Held.length cc359]) ∧ True) [0, 2, 5, 7, 8] h (by kernel_rfl) ?_; intro w h
        change wpAnyE _ _ _ _ _ _ 13 (Array.replicate 13 false) a w
        have hgo : ∀ w w', CellsGo w w' → (heldC w b353 1 ([vI (at_ p2 g350.toNat).Kind]) ∧ heldC w Bn12 1 ([.slice ca358 S357.Held.length cc359]) ∧ True) → heldC w' b353 1 ([vI (at_ p2 g350.toNat).Kind]) ∧ heldC w' Bn12 1 ([.slice ca358 S357.Held.length cc359]) ∧ True := fun w w' g hD => ⟨heldC_go _ _ _ _ _ g hD.1, heldC_go _ _ _ _ _ g hD.2.1, trivial⟩
        refine evDs hgo ⟨⟨(h.pick 8).cell 1 rfl, trivial⟩, ⟨(h.pick 3).cell 1 rfl, trivial⟩, trivial⟩ 12 0 rfl (wn rfl) hr (pA b353 1) fun a hr => ?_
        refine el [0, 2, 5, 7, 8] (b := b353) (off := 1) (cs := [vI (at_ p2 g350.toNat).Kind]) (fun _ hk => ⟨hk, fun w hD => hD.1⟩) 11 1 rfl (by kernel_rfl) (wn rfl) hr (vI (at_ p2 g350.toNat).Kind) ⟨(h.pick 8).cell 1 rfl, trivial⟩ (fun w hc => rl rfl (by kernel_rfl) (by kernel_rfl) hc.1) fun a hr => ?_
        refine evDs hgo ⟨⟨(h.pick 8).cell 1 rfl, trivial⟩, ⟨(h.pick 3).cell 1 rfl, trivial⟩, trivial⟩ 10 2 rfl (wn rfl) hr (vB ((at_ p2 g350.toNat).Kind == 8)) fun a hr => ?_
        refine evs 9 3 rfl (wn rfl) hr (vB ((at_ p2 g350.toNat).Kind == 8)) fun a hr => ?_
        refine evs 8 4 rfl (wgt hr (beq_iff_eq.mpr c395)) hr (pA Bn313 0) fun a hr => ?_
        refine evs 7 6 rfl (wgt hr (beq_iff_eq.mpr c395)) hr (pA Bn12 0) fun a hr => ?_
        refine evDs hgo ⟨⟨(h.pick 8).cell 1 rfl, trivial⟩, ⟨(h.pick 3).cell 1 rfl, trivial⟩, trivial⟩ 6 7 rfl (wgt hr (beq_iff_eq.mpr c395)) hr (pA Bn12 0) fun a hr => ?_
        refine evDs hgo ⟨⟨(h.pick 8).cell 1 rfl, trivial⟩, ⟨(h.pick 3).cell 1 rfl, trivial⟩, trivial⟩ 5 8 rfl (wgt hr (beq_iff_eq.mpr c395)) hr (pA Bn12 1) fun a hr => ?_
        refine el [0, 2, 5, 7, 8] (b := Bn12) (off := 1) (cs := [.slice ca358 S357.Held.length cc359]) (fun _ hk => ⟨hk, fun w hD => hD.2.1⟩) 4 9 rfl (by kernel_rfl) (wgt hr (beq_iff_eq.mpr c395)) hr (.slice ca358 S357.Held.length cc359) ⟨(h.pick 3).cell 1 rfl, trivial⟩ (fun w hc => rl rfl (by kernel_rfl) (by kernel_rfl) hc.1) fun a hr => ?_
        refine evs 3 10 rfl (wgt hr (beq_iff_eq.mpr c395)) hr (vI ((S357.Held.length : Nat) : Int)) fun a hr => ?_
        refine e_one (fuel := 2) (i := 5) (by kernel_rfl) rfl ?_
        replace h : Fit z (sepL (ob110 Bn313 S362 ca363 cc364 :: ro107 ca363 cc364 S362.cell :: ob62 Bn4 S337 ca338 cc339 ca340 cc341 :: ro2 ca338 cc339 S337.Held :: ro90 ca340 cc341 S337.Book :: ob62 Bn12 S357 ca358 cc359 ca360 cc361 :: ro2 ca358 cc359 S357.Held :: ro90 ca360 cc361 S357.Book :: ob30 b353 (at_ p2 g350.toNat) :: L)) _ := h.sel 9 [6, 7, 0, 1, 2, 3, 4, 5, 8] (by kernel_rfl) (by kernel_rfl)
        have hc := cells_Shared_Mark_ok (H := e398) (h := h)
        refine cl (wgt hr (beq_iff_eq.mpr c395)) hr hc ?_; clear hc h
        rintro _ w ⟨caq399, ccq400, rfl, h⟩; refine ⟨_, rfl, fun a hr => ?_⟩
        refine wpList_nil ?_; refine then_normal ?_
        refine ⟨fun _ => ⟨⟨(h.pick 8).cell 1 rfl, trivial⟩, ⟨(h.pick 5).cell 1 rfl, trivial⟩, trivial⟩, ?_⟩
        refine evs 1 11 rfl (wgt hr (beq_iff_eq.mpr c395)) hr (vB (r396 != ((S357.Held.length : Nat) : Int))) fun a hr => ?_
        refine ev 0 12 rfl (by kernel_rfl) (wn rfl) hr (vB (r396 != ((S357.Held.length : Nat) : Int))) (fun w => rp_t (b := ((at_ p2 g350.toNat).Kind == 8)) rfl (by kernel_rfl) (beq_iff_eq.mpr c395) (by kernel_rfl)) fun a hr => ?_
        refine e_end (by kernel_rfl) ?_
        refine then_normal ?_
        by_cases c401 : r396 = ((S357.Held.length : Nat) : Int)
        ·
         replace H := ifT c401 H
         refine cond_ff hr (bne_eq_false_iff_eq.mpr c401) ?_
         refine wp_skip ?_
         refine blk_normal ?_
         refine then_normal ?_
         refine wp_region_lit ?_
         refine oo [67, 68, 15] [vI g350, vI (wi (g350 + 1)), vI (wi (g350 + 1))] hr fun a hr => ?_
         refine ln ?_
         replace hr := hr.fold2 [(2, .slice va2 p2.length vc2), (7, pA Bn4 0), (9, pA Bn12 0), (11, pN), (13, pA Bn313 0), (15, vI (wi (g350 + 1)))] (by kernel_rfl); obtain ⟨j, hr⟩ := hr
         replace h : Fit z (sepL (ob62 Bn4 S337 ca338 cc339 ca340 cc341 :: ro2 ca338 cc339 S337.Held :: ro90 ca340 cc341 S337.Book :: ob62 Bn12 S357 ca358 cc359 ca360 cc361 :: ro2 ca358 cc359 S357.Held :: ro90 ca360 cc361 S357.Book :: ob110 Bn313 S397 caq399 ccq400 :: ro107 caq399 ccq400 S397.cell :: L)) _ := h.sel 9 [2, 3, 4, 5, 6, 7, 0, 1] (by kernel_rfl) (by kernel_rfl)
         exact ⟨_, ⟨ca338, cc339, ca340, cc341, ca358, cc359, ca360, cc361, caq399, ccq400, S337, S357, S397, (wi (g350 + 1)), H, j, hr, h⟩, Nat.lt_succ_self _⟩
        ·
         replace H := ifF c401 H
         refine cond_tt hr (bne_iff_ne.mpr c401) ?_
         refine sr ?_
         refine o1 hr (vB false) fun a hr => ?_
         refine ln ?_
         refine wp_ret ?_
         refine blk_ret ?_
         refine then_ret ?_
         refine then_ret ?_
         refine blk_ret ?_
         refine then_ret ?_
         refine end_ret1 (v := vB false) rfl hr (by kernel_rfl) ?_
         replace H := jx3 H hK335
         replace h : Fit z (sepL (L)) _ := h.sel 9 [] (by kernel_rfl) (by kernel_rfl)
         replace H := ej1 H; subst H
         exact ⟨rfl, h⟩
       ·
        replace H := ifF c395 H
        refine reg_E (fun w => heldC w b353 1 ([vI (at_ p2 g350.toNat).Kind]) ∧ True) [0] h (by kernel_rfl) ?_; intro w h
        change wpAnyE _ _ _ _ _ _ 13 (Array.replicate 13 false) a w
        have hgo : ∀ w w', CellsGo w w' → (heldC w b353 1 ([vI (at_ p2 g350.toNat).Kind]) ∧ True) → heldC w' b353 1 ([vI (at_ p2 g350.toNat).Kind]) ∧ True := fun w w' g hD => ⟨heldC_go _ _ _ _ _ g hD.1, trivial⟩
        refine evDs hgo ⟨⟨(h.pick 8).cell 1 rfl, trivial⟩, trivial⟩ 12 0 rfl (wn rfl) hr (pA b353 1) fun a hr => ?_
        refine el [0] (b := b353) (off := 1) (cs := [vI (at_ p2 g350.toNat).Kind]) (fun _ hk => ⟨hk, fun w hD => hD.1⟩) 11 1 rfl (by kernel_rfl) (wn rfl) hr (vI (at_ p2 g350.toNat).Kind) ⟨(h.pick 8).cell 1 rfl, trivial⟩ (fun w hc => rl rfl (by kernel_rfl) (by kernel_rfl) hc.1) fun a hr => ?_
        refine evs 10 2 rfl (wn rfl) hr (vB ((at_ p2 g350.toNat).Kind == 8)) fun a hr => ?_
        refine evs 9 3 rfl (wn rfl) hr (vB ((at_ p2 g350.toNat).Kind == 8)) fun a hr => ?_
        refine eos 8 4 rfl (wgt hr (beq_eq_false_iff_ne.mpr c395)) hr fun a hr => ?_
        refine eos 7 6 rfl (wgt hr (beq_eq_false_iff_ne.mpr c395)) hr fun a hr => ?_
        refine eos 6 7 rfl (wgt hr (beq_eq_false_iff_ne.mpr c395)) hr fun a hr => ?_
        refine eos 5 8 rfl (wgt hr (beq_eq_false_iff_ne.mpr c395)) hr fun a hr => ?_
        refine eos 4 9 rfl (wgt hr (beq_eq_false_iff_ne.mpr c395)) hr fun a hr => ?_
        refine eos 3 10 rfl (wgt hr (beq_eq_false_iff_ne.mpr c395)) hr fun a hr => ?_
        refine e_one (fuel := 2) (i := 5) (by kernel_rfl) rfl ?_
        refine offg (wgt hr (beq_eq_false_iff_ne.mpr c395)) hr fun a hr => ?_
        refine wpList_nil ?_; refine then_normal ?_
        refine ⟨fun hE => absurd hE (by decide), ?_⟩
        refine eos 1 11 rfl (wgt hr (beq_eq_false_iff_ne.mpr c395)) hr fun a hr => ?_
        refine ev 0 12 rfl (by kernel_rfl) (wn rfl) hr (vB false) (fun w => rp_f (b := ((at_ p2 g350.toNat).Kind == 8)) rfl (by kernel_rfl) (beq_eq_false_iff_ne.mpr c395) (by kernel_rfl)) fun a hr => ?_
        refine e_end (by kernel_rfl) ?_
        refine then_normal ?_
        refine cond_ff hr (b := false) rfl ?_
        refine wp_skip ?_
        refine blk_normal ?_
        refine then_normal ?_
        refine wp_region_lit ?_
        refine oo [67, 68, 15] [vI g350, vI (wi (g350 + 1)), vI (wi (g350 + 1))] hr fun a hr => ?_
        refine ln ?_
        replace hr := hr.fold2 [(2, .slice va2 p2.length vc2), (7, pA Bn4 0), (9, pA Bn12 0), (11, pN), (13, pA Bn313 0), (15, vI (wi (g350 + 1)))] (by kernel_rfl); obtain ⟨j, hr⟩ := hr
        replace h : Fit z (sepL (ob62 Bn4 S337 ca338 cc339 ca340 cc341 :: ro2 ca338 cc339 S337.Held :: ro90 ca340 cc341 S337.Book :: ob62 Bn12 S357 ca358 cc359 ca360 cc361 :: ro2 ca358 cc359 S357.Held :: ro90 ca360 cc361 S357.Book :: ob110 Bn313 S362 ca363 cc364 :: ro107 ca363 cc364 S362.cell :: L)) _ := h.sel 9 [0, 1, 2, 3, 4, 5, 6, 7] (by kernel_rfl) (by kernel_rfl)
        exact ⟨_, ⟨ca338, cc339, ca340, cc341, ca358, cc359, ca360, cc361, ca363, cc364, S337, S357, S362, (wi (g350 + 1)), H, j, hr, h⟩, Nat.lt_succ_self _⟩
      ·
       replace H := ifF c356 H
       refine cond_ff hr (beq_eq_false_iff_ne.mpr c356) ?_
       refine wp_skip ?_
       refine then_normal ?_
       obtain ⟨o408, H, hK407⟩ := jd1 H
       refine cut_rule (β := Unit) (fun _ a w => ∃ ca403 : Option Addr, ∃ cc404 : Nat, ∃ ca405 : Option Addr, ∃ cc406 : Nat, ∃ S402 : T_plunderref2_Arena, .inl S402 = o408 ∧ ∃ j, Rep 138 (lk [(2, .slice va2 p2.length vc2), (7, pA Bn4 0), (9, pA Bn12 0), (11, pN), (13, pA Bn313 0), (15, vI g350), (16, pA b353 0), (17, pN), (18, pA Bn4 0)] j) a ∧ Fit z (sepL (ob62 Bn4 S402 ca403 cc404 ca405 cc406 :: ro2 ca403 cc404 S402.Held :: ro90 ca405 cc406 S402.Book :: ob62 Bn12 S342 ca343 cc344 ca345 cc346 :: ro2 ca343 cc344 S342.Held :: ro90 ca345 cc346 S342.Book :: ob110 Bn313 S347 ca348 cc349 :: ro107 ca348 cc349 S347.cell :: ob30 b353 (at_ p2 g350.toNat) :: L)) w) ?_ ?_
       ·
        obtain ⟨o411, H, hK410⟩ := kd1 H
        refine cut_rule (β := Unit) (fun _ a w => ∃ g409 : Bool, g409 = o411 ∧ ∃ j, Rep 138 (lk [(2, .slice va2 p2.length vc2), (7, pA Bn4 0), (9, pA Bn12 0), (11, pN), (13, pA Bn313 0), (15, vI g350), (16, pA b353 0), (17, pN), (18, pA Bn4 0), (88, vB g409)] j) a ∧ Fit z (sepL (ob62 Bn4 S337 ca338 cc339 ca340 cc341 :: ro2 ca338 cc339 S337.Held :: ro90 ca340 cc341 S337.Book :: ob62 Bn12 S342 ca343 cc344 ca345 cc346 :: ro2 ca343 cc344 S342.Held :: ro90 ca345 cc346 S342.Book :: ob110 Bn313 S347 ca348 cc349 :: ro107 ca348 cc349 S347.cell :: ob30 b353 (at_ p2 g350.toNat) :: L)) w) ?_ ?_
        ·
         refine wp_region_lit ?_
         refine o1 hr (pA b353 1) fun a hr => ?_
         refine ld (wn rfl) hr (vI (at_ p2 g350.toNat).Kind) (h.cell 1 rfl) fun a hr => ?_
         refine oo [83, 84] [vB (decide ((at_ p2 g350.toNat).Kind ≥ 0)), vB (decide ((at_ p2 g350.toNat).Kind ≥ 0))] hr fun a hr => ?_
         by_cases c412 : (at_ p2 g350.toNat).Kind ≥ 0
         ·
          replace H := ifT c412 H
          refine opv (wgt hr (decide_eq_true c412)) hr (pA b353 1) (by kernel_rfl) fun a hr => ?_
          refine ld (wgt hr (decide_eq_true c412)) hr (vI (at_ p2 g350.toNat).Kind) (h.cell 1 rfl) fun a hr => ?_
          refine opv (wgt hr (decide_eq_true c412)) hr (vB (decide ((at_ p2 g350.toNat).Kind ≤ 4))) (by kernel_rfl) fun a hr => ?_
          refine opv (wn rfl) hr (vB (decide ((at_ p2 g350.toNat).Kind ≤ 4))) (rp_t (b := (decide ((at_ p2 g350.toNat).Kind ≥ 0))) rfl (by kernel_rfl) (decide_eq_true c412) (by kernel_rfl)) fun a hr => ?_
          refine ln ?_
          replace hr := hr.fold2 [(2, .slice va2 p2.length vc2), (7, pA Bn4 0), (9, pA Bn12 0), (11, pN), (13, pA Bn313 0), (15, vI g350), (16, pA b353 0), (17, pN), (18, pA Bn4 0), (88, vB (decide ((at_ p2 g350.toNat).Kind ≤ 4)))] (by kernel_rfl); obtain ⟨j, hr⟩ := hr
          replace h : Fit z (sepL (ob62 Bn4 S337 ca338 cc339 ca340 cc341 :: ro2 ca338 cc339 S337.Held :: ro90 ca340 cc341 S337.Book :: ob62 Bn12 S342 ca343 cc344 ca345 cc346 :: ro2 ca343 cc344 S342.Held :: ro90 ca345 cc346 S342.Book :: ob110 Bn313 S347 ca348 cc349 :: ro107 ca348 cc349 S347.cell :: ob30 b353 (at_ p2 g350.toNat) :: L)) _ := h.sel 9 [1, 2, 3, 4, 5, 6, 7, 8, 0] (by kernel_rfl) (by kernel_rfl)
          exact ⟨(), (decide ((at_ p2 g350.toNat).Kind ≤ 4)), sinj H, j, hr, h⟩
         ·
          replace H := ifF c412 H
          refine offg (wgt hr (decide_eq_false c412)) hr fun a hr => ?_
          refine offg (wgt hr (decide_eq_false c412)) hr fun a hr => ?_
          refine offg (wgt hr (decide_eq_false c412)) hr fun a hr => ?_
          refine opv (wn rfl) hr (vB false) (rp_f (b := (decide ((at_ p2 g350.toNat).Kind ≥ 0))) rfl (by kernel_rfl) (decide_eq_false c412) (by kernel_rfl)) fun a hr => ?_
          refine ln ?_
          replace hr := hr.fold2 [(2, .slice va2 p2.length vc2), (7, pA Bn4 0), (9, pA Bn12 0), (11, pN), (13, pA Bn313 0), (15, vI g350), (16, pA b353 0), (17, pN), (18, pA Bn4 0), (88, vB false)] (by kernel_rfl); obtain ⟨j, hr⟩ := hr
          replace h : Fit z (sepL (ob62 Bn4 S337 ca338 cc339 ca340 cc341 :: ro2 ca338 cc339 S337.Held :: ro90 ca340 cc341 S337.Book :: ob62 Bn12 S342 ca343 cc344 ca345 cc346 :: ro2 ca343 cc344 S342.Held :: ro90 ca345 cc346 S342.Book :: ob110 Bn313 S347 ca348 cc349 :: ro107 ca348 cc349 S347.cell :: ob30 b353 (at_ p2 g350.toNat) :: L)) _ := h.sel 9 [1, 2, 3, 4, 5, 6, 7, 8, 0] (by kernel_rfl) (by kernel_rfl)
          exact ⟨(), false, sinj H, j, hr, h⟩
        clear h hr a; rintro _ a w ⟨g409, rfl, j, hr, h⟩
        replace H := kk1 hK410
        by_cases c413 : g409 = true
        ·
         replace H := ifT c413 H
         refine cond_tt hr (c413) ?_
         refine sr ?_
         refine o1 hr (pN) fun a hr => ?_
         refine ldm (wn rfl) hr (ag_T_plunderlaw2_Move (at_ p2 g350.toNat)) (cs := cl_T_plunderlaw2_Move (at_ p2 g350.toNat)) ((h.pick 8).held 0 rfl) fun a hr => ?_
         obtain ⟨r414, e415, H⟩ := bd1 H
         have hc := plunderlaw2_shared_nil_ok (H := e415) (h := h)
         refine cl (wn rfl) hr hc ?_; clear hc h
         rintro _ w ⟨rfl, h⟩; refine ⟨_, rfl, fun a hr => ?_⟩
         refine onew (wn rfl) hr h nb (#[vI 0, vB false, vI 0]) 39 fun b416 w a h hr => ?_
         refine stos (wn rfl) hr h 0 (cl_T_api_Effect r414) (ca_T_api_Effect r414) fun w h => ?_
         refine wpList_nil ?_
         replace h : Fit z (sepL (ob39 b416 r414 :: ob62 Bn4 S337 ca338 cc339 ca340 cc341 :: ro2 ca338 cc339 S337.Held :: ro90 ca340 cc341 S337.Book :: ob62 Bn12 S342 ca343 cc344 ca345 cc346 :: ro2 ca343 cc344 S342.Held :: ro90 ca345 cc346 S342.Book :: ob110 Bn313 S347 ca348 cc349 :: ro107 ca348 cc349 S347.cell :: ob30 b353 (at_ p2 g350.toNat) :: L)) _ := h
         refine then_normal ?_
         refine sr ?_
         refine o1 hr (pA Bn4 0) fun a hr => ?_
         refine ldm (wn rfl) hr (ag_T_plunderlaw2_Move (at_ p2 g350.toNat)) (cs := cl_T_plunderlaw2_Move (at_ p2 g350.toNat)) ((h.pick 9).held 0 rfl) fun a hr => ?_
         obtain ⟨r417, e418, H⟩ := bd1 H
         have hc := plunderlaw2_act_ok (H := e418) (h := h)
         refine cl (wn rfl) hr hc ?_; clear hc h
         rintro _ w ⟨rfl, h⟩; refine ⟨_, rfl, fun a hr => ?_⟩
         obtain ⟨r419, S420, e421, H⟩ := bd2 H
         replace h : Fit z (sepL (ob62 Bn4 S337 ca338 cc339 ca340 cc341 :: ro2 ca338 cc339 S337.Held :: ro90 ca340 cc341 S337.Book :: ob39 b416 r414 :: ob62 Bn12 S342 ca343 cc344 ca345 cc346 :: ro2 ca343 cc344 S342.Held :: ro90 ca345 cc346 S342.Book :: ob110 Bn313 S347 ca348 cc349 :: ro107 ca348 cc349 S347.cell :: ob30 b353 (at_ p2 g350.toNat) :: L)) _ := h.sel 10 [1, 2, 3, 0, 4, 5, 6, 7, 8, 9] (by kernel_rfl) (by kernel_rfl)
         have hc := plunderref2_Arena_Do_ok (H := e421) (h := h)
         refine cl (wn rfl) hr hc ?_; clear hc h
         rintro _ w ⟨caq422, ccq423, caq424, ccq425, rfl, h⟩; refine ⟨_, rfl, fun a hr => ?_⟩
         refine onew (wn rfl) hr h nb (#[vI 0, vB false, vI 0]) 39 fun b426 w a h hr => ?_
         refine stos (wn rfl) hr h 0 (cl_T_api_Effect r419) (ca_T_api_Effect r419) fun w h => ?_
         refine wpList_nil ?_
         replace h : Fit z (sepL (ob39 b426 r419 :: ob62 Bn4 S420 caq422 ccq423 caq424 ccq425 :: ro2 caq422 ccq423 S420.Held :: ro90 caq424 ccq425 S420.Book :: ob39 b416 r414 :: ob62 Bn12 S342 ca343 cc344 ca345 cc346 :: ro2 ca343 cc344 S342.Held :: ro90 ca345 cc346 S342.Book :: ob110 Bn313 S347 ca348 cc349 :: ro107 ca348 cc349 S347.cell :: ob30 b353 (at_ p2 g350.toNat) :: L)) _ := h
         refine then_normal ?_
         refine sr ?_
         refine ldm (wn rfl) hr (ag_T_api_Effect r414) (cs := cl_T_api_Effect r414) ((h.pick 4).held 0 rfl) fun a hr => ?_
         refine ldm (wn rfl) hr (ag_T_api_Effect r419) (cs := cl_T_api_Effect r419) (h.held 0 rfl) fun a hr => ?_
         refine opv (wn rfl) hr (vB (!(decide (r414 = r419)))) (rb (rne rfl (by kernel_rfl) (by kernel_rfl) (by kernel_rfl) (by kernel_rfl) (by kernel_rfl) (by kernel_rfl)) (congrArg (!·) (eq_T_api_Effect r414 r419))) fun a hr => ?_
         refine ln ?_
         by_cases c427 : r414 = r419
         ·
          replace H := ifT c427 H
          refine cond_ff hr (b := (!(decide (r414 = r419)))) (by rw [show (decide (r414 = r419)) = true from (decide_eq_true c427)]; rfl) ?_
          refine wp_skip ?_
          refine then_normal ?_
          replace hr := hr.fold2 [(2, .slice va2 p2.length vc2), (7, pA Bn4 0), (9, pA Bn12 0), (11, pN), (13, pA Bn313 0), (15, vI g350), (16, pA b353 0), (17, pN), (18, pA Bn4 0)] (by kernel_rfl); obtain ⟨j, hr⟩ := hr
          replace h : Fit z (sepL (ob62 Bn4 S420 caq422 ccq423 caq424 ccq425 :: ro2 caq422 ccq423 S420.Held :: ro90 caq424 ccq425 S420.Book :: ob62 Bn12 S342 ca343 cc344 ca345 cc346 :: ro2 ca343 cc344 S342.Held :: ro90 ca345 cc346 S342.Book :: ob110 Bn313 S347 ca348 cc349 :: ro107 ca348 cc349 S347.cell :: ob30 b353 (at_ p2 g350.toNat) :: L)) _ := h.sel 11 [1, 2, 3, 5, 6, 7, 8, 9, 10] (by kernel_rfl) (by kernel_rfl)
          exact ⟨(), caq422, ccq423, caq424, ccq425, S420, sinj H, j, hr, h⟩
         ·
          replace H := ifF c427 H
          refine cond_tt hr (b := (!(decide (r414 = r419)))) (by rw [show (decide (r414 = r419)) = false from (decide_eq_false c427)]; rfl) ?_
          refine sr ?_
          refine o1 hr (vB false) fun a hr => ?_
          refine ln ?_
          refine wp_ret ?_
          refine then_ret ?_
          refine blk_ret ?_
          refine then_ret ?_
          refine then_ret ?_
          refine blk_ret ?_
          refine then_ret ?_
          refine end_ret1 (v := vB false) rfl hr (by kernel_rfl) ?_
          replace H := jx1 H hK407
          replace H := jx3 H hK335
          replace h : Fit z (sepL (L)) _ := h.sel 11 [] (by kernel_rfl) (by kernel_rfl)
          replace H := ej1 H; subst H
          exact ⟨rfl, h⟩
        ·
         replace H := ifF c413 H
         refine cond_ff hr (bF c413) ?_
         refine wp_skip ?_
         refine then_normal ?_
         replace hr := hr.fold2 [(2, .slice va2 p2.length vc2), (7, pA Bn4 0), (9, pA Bn12 0), (11, pN), (13, pA Bn313 0), (15, vI g350), (16, pA b353 0), (17, pN), (18, pA Bn4 0)] (by kernel_rfl); obtain ⟨j, hr⟩ := hr
         exact ⟨(), ca338, cc339, ca340, cc341, S337, sinj H, j, hr, h⟩
       clear h hr a; rintro _ a w ⟨ca403, cc404, ca405, cc406, S402, rfl, j, hr, h⟩
       replace H := jk1 hK407
       obtain ⟨o429, H, hK428⟩ := jd0 H
       refine cut_rule (β := Unit) (fun _ a w => .inl () = o429 ∧ ∃ j, Rep 138 (lk [(2, .slice va2 p2.length vc2), (7, pA Bn4 0), (9, pA Bn12 0), (11, pN), (13, pA Bn313 0), (15, vI g350), (16, pA b353 0), (17, pN), (18, pA Bn4 0)] j) a ∧ Fit z (sepL (ob62 Bn4 S402 ca403 cc404 ca405 cc406 :: ro2 ca403 cc404 S402.Held :: ro90 ca405 cc406 S402.Book :: ob62 Bn12 S342 ca343 cc344 ca345 cc346 :: ro2 ca343 cc344 S342.Held :: ro90 ca345 cc346 S342.Book :: ob110 Bn313 S347 ca348 cc349 :: ro107 ca348 cc349 S347.cell :: ob30 b353 (at_ p2 g350.toNat) :: L)) w) ?_ ?_
       ·
        refine wp_seq ?_
        by_cases c430 : (at_ p2 g350.toNat).Kind = 7
        ·
         replace H := ifT c430 H
         obtain ⟨r431, e432, H⟩ := bd1 H
         refine reg_E (fun w => heldC w b353 1 ([vI (at_ p2 g350.toNat).Kind]) ∧ heldC w Bn4 0 ([vI S402.Most]) ∧ True) [0, 2, 5, 7, 8] h (by kernel_rfl) ?_; intro w h
         change wpAnyE _ _ _ _ _ _ 12 (Array.replicate 12 false) a w
         have hgo : ∀ w w', CellsGo w w' → (heldC w b353 1 ([vI (at_ p2 g350.toNat).Kind]) ∧ heldC w Bn4 0 ([vI S402.Most]) ∧ True) → heldC w' b353 1 ([vI (at_ p2 g350.toNat).Kind]) ∧ heldC w' Bn4 0 ([vI S402.Most]) ∧ True := fun w w' g hD => ⟨heldC_go _ _ _ _ _ g hD.1, heldC_go _ _ _ _ _ g hD.2.1, trivial⟩
         refine evDs hgo ⟨⟨(h.pick 8).cell 1 rfl, trivial⟩, ⟨h.cell 0 rfl, trivial⟩, trivial⟩ 11 0 rfl (wn rfl) hr (pA b353 1) fun a hr => ?_
         refine el [0, 2, 5, 7, 8] (b := b353) (off := 1) (cs := [vI (at_ p2 g350.toNat).Kind]) (fun _ hk => ⟨hk, fun w hD => hD.1⟩) 10 1 rfl (by kernel_rfl) (wn rfl) hr (vI (at_ p2 g350.toNat).Kind) ⟨(h.pick 8).cell 1 rfl, trivial⟩ (fun w hc => rl rfl (by kernel_rfl) (by kernel_rfl) hc.1) fun a hr => ?_
         refine evDs hgo ⟨⟨(h.pick 8).cell 1 rfl, trivial⟩, ⟨h.cell 0 rfl, trivial⟩, trivial⟩ 9 2 rfl (wn rfl) hr (vB ((at_ p2 g350.toNat).Kind == 7)) fun a hr => ?_
         refine evs 8 3 rfl (wn rfl) hr (vB ((at_ p2 g350.toNat).Kind == 7)) fun a hr => ?_
         refine evs 7 4 rfl (wgt hr (beq_iff_eq.mpr c430)) hr (pN) fun a hr => ?_
         refine evs 6 6 rfl (wgt hr (beq_iff_eq.mpr c430)) hr (pA Bn4 0) fun a hr => ?_
         refine evDs hgo ⟨⟨(h.pick 8).cell 1 rfl, trivial⟩, ⟨h.cell 0 rfl, trivial⟩, trivial⟩ 5 7 rfl (wgt hr (beq_iff_eq.mpr c430)) hr (pA Bn4 0) fun a hr => ?_
         refine evDs hgo ⟨⟨(h.pick 8).cell 1 rfl, trivial⟩, ⟨h.cell 0 rfl, trivial⟩, trivial⟩ 4 8 rfl (wgt hr (beq_iff_eq.mpr c430)) hr (pA Bn4 0) fun a hr => ?_
         refine el [0, 2, 5, 7, 8] (b := Bn4) (off := 0) (cs := [vI S402.Most]) (fun _ hk => ⟨hk, fun w hD => hD.2.1⟩) 3 9 rfl (by kernel_rfl) (wgt hr (beq_iff_eq.mpr c430)) hr (vI S402.Most) ⟨h.cell 0 rfl, trivial⟩ (fun w hc => rl rfl (by kernel_rfl) (by kernel_rfl) hc.1) fun a hr => ?_
         refine e_one (fuel := 2) (i := 5) (by kernel_rfl) rfl ?_
         have hc := cells_Shared_Size_nil_ok (H := e432) (h := h)
         refine cl (wgt hr (beq_iff_eq.mpr c430)) hr hc ?_; clear hc h
         rintro _ w ⟨rfl, h⟩; refine ⟨_, rfl, fun a hr => ?_⟩
         refine wpList_nil ?_; refine then_normal ?_
         refine ⟨fun _ => ⟨⟨(h.pick 8).cell 1 rfl, trivial⟩, ⟨h.cell 0 rfl, trivial⟩, trivial⟩, ?_⟩
         refine evs 1 10 rfl (wgt hr (beq_iff_eq.mpr c430)) hr (vB (r431 != S402.Most)) fun a hr => ?_
         refine ev 0 11 rfl (by kernel_rfl) (wn rfl) hr (vB (r431 != S402.Most)) (fun w => rp_t (b := ((at_ p2 g350.toNat).Kind == 7)) rfl (by kernel_rfl) (beq_iff_eq.mpr c430) (by kernel_rfl)) fun a hr => ?_
         refine e_end (by kernel_rfl) ?_
         refine then_normal ?_
         by_cases c433 : r431 = S402.Most
         ·
          replace H := ifT c433 H
          refine cond_ff hr (bne_eq_false_iff_eq.mpr c433) ?_
          refine wp_skip ?_
          refine then_normal ?_
          replace hr := hr.fold2 [(2, .slice va2 p2.length vc2), (7, pA Bn4 0), (9, pA Bn12 0), (11, pN), (13, pA Bn313 0), (15, vI g350), (16, pA b353 0), (17, pN), (18, pA Bn4 0)] (by kernel_rfl); obtain ⟨j, hr⟩ := hr
          exact ⟨(), sinj H, j, hr, h⟩
         ·
          replace H := ifF c433 H
          refine cond_tt hr (bne_iff_ne.mpr c433) ?_
          refine sr ?_
          refine o1 hr (vB false) fun a hr => ?_
          refine ln ?_
          refine wp_ret ?_
          refine then_ret ?_
          refine blk_ret ?_
          refine then_ret ?_
          refine then_ret ?_
          refine blk_ret ?_
          refine then_ret ?_
          refine end_ret1 (v := vB false) rfl hr (by kernel_rfl) ?_
          replace H := jx0 H hK428
          replace H := jx3 H hK335
          replace h : Fit z (sepL (L)) _ := h.sel 9 [] (by kernel_rfl) (by kernel_rfl)
          replace H := ej1 H; subst H
          exact ⟨rfl, h⟩
        ·
         replace H := ifF c430 H
         refine reg_E (fun w => heldC w b353 1 ([vI (at_ p2 g350.toNat).Kind]) ∧ True) [0] h (by kernel_rfl) ?_; intro w h
         change wpAnyE _ _ _ _ _ _ 12 (Array.replicate 12 false) a w
         have hgo : ∀ w w', CellsGo w w' → (heldC w b353 1 ([vI (at_ p2 g350.toNat).Kind]) ∧ True) → heldC w' b353 1 ([vI (at_ p2 g350.toNat).Kind]) ∧ True := fun w w' g hD => ⟨heldC_go _ _ _ _ _ g hD.1, trivial⟩
         refine evDs hgo ⟨⟨(h.pick 8).cell 1 rfl, trivial⟩, trivial⟩ 11 0 rfl (wn rfl) hr (pA b353 1) fun a hr => ?_
         refine el [0] (b := b353) (off := 1) (cs := [vI (at_ p2 g350.toNat).Kind]) (fun _ hk => ⟨hk, fun w hD => hD.1⟩) 10 1 rfl (by kernel_rfl) (wn rfl) hr (vI (at_ p2 g350.toNat).Kind) ⟨(h.pick 8).cell 1 rfl, trivial⟩ (fun w hc => rl rfl (by kernel_rfl) (by kernel_rfl) hc.1) fun a hr => ?_
         refine evs 9 2 rfl (wn rfl) hr (vB ((at_ p2 g350.toNat).Kind == 7)) fun a hr => ?_
         refine evs 8 3 rfl (wn rfl) hr (vB ((at_ p2 g350.toNat).Kind == 7)) fun a hr => ?_
         refine eos 7 4 rfl (wgt hr (beq_eq_false_iff_ne.mpr c430)) hr fun a hr => ?_
         refine eos 6 6 rfl (wgt hr (beq_eq_false_iff_ne.mpr c430)) hr fun a hr => ?_
         refine eos 5 7 rfl (wgt hr (beq_eq_false_iff_ne.mpr c430)) hr fun a hr => ?_
         refine eos 4 8 rfl (wgt hr (beq_eq_false_iff_ne.mpr c430)) hr fun a hr => ?_
         refine eos 3 9 rfl (wgt hr (beq_eq_false_iff_ne.mpr c430)) hr fun a hr => ?_
         refine e_one (fuel := 2) (i := 5) (by kernel_rfl) rfl ?_
         refine offg (wgt hr (beq_eq_false_iff_ne.mpr c430)) hr fun a hr => ?_
         refine wpList_nil ?_; refine then_normal ?_
         refine ⟨fun hE => absurd hE (by decide), ?_⟩
         refine eos 1 10 rfl (wgt hr (beq_eq_false_iff_ne.mpr c430)) hr fun a hr => ?_
         refine ev 0 11 rfl (by kernel_rfl) (wn rfl) hr (vB false) (fun w => rp_f (b := ((at_ p2 g350.toNat).Kind == 7)) rfl (by kernel_rfl) (beq_eq_false_iff_ne.mpr c430) (by kernel_rfl)) fun a hr => ?_
         refine e_end (by kernel_rfl) ?_
         refine then_normal ?_
         refine cond_ff hr (b := false) rfl ?_
         refine wp_skip ?_
         refine then_normal ?_
         replace hr := hr.fold2 [(2, .slice va2 p2.length vc2), (7, pA Bn4 0), (9, pA Bn12 0), (11, pN), (13, pA Bn313 0), (15, vI g350), (16, pA b353 0), (17, pN), (18, pA Bn4 0)] (by kernel_rfl); obtain ⟨j, hr⟩ := hr
         exact ⟨(), sinj H, j, hr, h⟩
       clear h hr a; rintro _ a w ⟨rfl, j, hr, h⟩
       replace H := jk0 hK428
       refine wp_seq ?_
       by_cases c434 : (at_ p2 g350.toNat).Kind = 8
       ·
        replace H := ifT c434 H
        obtain ⟨r435, e436, H⟩ := bd1 H
        refine reg_E (fun w => heldC w b353 1 ([vI (at_ p2 g350.toNat).Kind]) ∧ heldC w Bn4 1 ([.slice ca403 S402.Held.length cc404]) ∧ True) [0, 2, 5, 7, 8] h (by kernel_rfl) ?_; intro w h
        change wpAnyE _ _ _ _ _ _ 13 (Array.replicate 13 false) a w
        have hgo : ∀ w w', CellsGo w w' → (heldC w b353 1 ([vI (at_ p2 g350.toNat).Kind]) ∧ heldC w Bn4 1 ([.slice ca403 S402.Held.length cc404]) ∧ True) → heldC w' b353 1 ([vI (at_ p2 g350.toNat).Kind]) ∧ heldC w' Bn4 1 ([.slice ca403 S402.Held.length cc404]) ∧ True := fun w w' g hD => ⟨heldC_go _ _ _ _ _ g hD.1, heldC_go _ _ _ _ _ g hD.2.1, trivial⟩
        refine evDs hgo ⟨⟨(h.pick 8).cell 1 rfl, trivial⟩, ⟨h.cell 1 rfl, trivial⟩, trivial⟩ 12 0 rfl (wn rfl) hr (pA b353 1) fun a hr => ?_
        refine el [0, 2, 5, 7, 8] (b := b353) (off := 1) (cs := [vI (at_ p2 g350.toNat).Kind]) (fun _ hk => ⟨hk, fun w hD => hD.1⟩) 11 1 rfl (by kernel_rfl) (wn rfl) hr (vI (at_ p2 g350.toNat).Kind) ⟨(h.pick 8).cell 1 rfl, trivial⟩ (fun w hc => rl rfl (by kernel_rfl) (by kernel_rfl) hc.1) fun a hr => ?_
        refine evDs hgo ⟨⟨(h.pick 8).cell 1 rfl, trivial⟩, ⟨h.cell 1 rfl, trivial⟩, trivial⟩ 10 2 rfl (wn rfl) hr (vB ((at_ p2 g350.toNat).Kind == 8)) fun a hr => ?_
        refine evs 9 3 rfl (wn rfl) hr (vB ((at_ p2 g350.toNat).Kind == 8)) fun a hr => ?_
        refine evs 8 4 rfl (wgt hr (beq_iff_eq.mpr c434)) hr (pN) fun a hr => ?_
        refine evs 7 6 rfl (wgt hr (beq_iff_eq.mpr c434)) hr (pA Bn4 0) fun a hr => ?_
        refine evDs hgo ⟨⟨(h.pick 8).cell 1 rfl, trivial⟩, ⟨h.cell 1 rfl, trivial⟩, trivial⟩ 6 7 rfl (wgt hr (beq_iff_eq.mpr c434)) hr (pA Bn4 0) fun a hr => ?_
        refine evDs hgo ⟨⟨(h.pick 8).cell 1 rfl, trivial⟩, ⟨h.cell 1 rfl, trivial⟩, trivial⟩ 5 8 rfl (wgt hr (beq_iff_eq.mpr c434)) hr (pA Bn4 1) fun a hr => ?_
        refine el [0, 2, 5, 7, 8] (b := Bn4) (off := 1) (cs := [.slice ca403 S402.Held.length cc404]) (fun _ hk => ⟨hk, fun w hD => hD.2.1⟩) 4 9 rfl (by kernel_rfl) (wgt hr (beq_iff_eq.mpr c434)) hr (.slice ca403 S402.Held.length cc404) ⟨h.cell 1 rfl, trivial⟩ (fun w hc => rl rfl (by kernel_rfl) (by kernel_rfl) hc.1) fun a hr => ?_
        refine evs 3 10 rfl (wgt hr (beq_iff_eq.mpr c434)) hr (vI ((S402.Held.length : Nat) : Int)) fun a hr => ?_
        refine e_one (fuel := 2) (i := 5) (by kernel_rfl) rfl ?_
        have hc := cells_Shared_Mark_nil_ok (H := e436) (h := h)
        refine cl (wgt hr (beq_iff_eq.mpr c434)) hr hc ?_; clear hc h
        rintro _ w ⟨rfl, h⟩; refine ⟨_, rfl, fun a hr => ?_⟩
        refine wpList_nil ?_; refine then_normal ?_
        refine ⟨fun _ => ⟨⟨(h.pick 8).cell 1 rfl, trivial⟩, ⟨h.cell 1 rfl, trivial⟩, trivial⟩, ?_⟩
        refine evs 1 11 rfl (wgt hr (beq_iff_eq.mpr c434)) hr (vB (r435 != ((S402.Held.length : Nat) : Int))) fun a hr => ?_
        refine ev 0 12 rfl (by kernel_rfl) (wn rfl) hr (vB (r435 != ((S402.Held.length : Nat) : Int))) (fun w => rp_t (b := ((at_ p2 g350.toNat).Kind == 8)) rfl (by kernel_rfl) (beq_iff_eq.mpr c434) (by kernel_rfl)) fun a hr => ?_
        refine e_end (by kernel_rfl) ?_
        refine then_normal ?_
        by_cases c437 : r435 = ((S402.Held.length : Nat) : Int)
        ·
         replace H := ifT c437 H
         refine cond_ff hr (bne_eq_false_iff_eq.mpr c437) ?_
         refine wp_skip ?_
         refine blk_normal ?_
         refine then_normal ?_
         refine wp_region_lit ?_
         refine oo [67, 68, 15] [vI g350, vI (wi (g350 + 1)), vI (wi (g350 + 1))] hr fun a hr => ?_
         refine ln ?_
         replace hr := hr.fold2 [(2, .slice va2 p2.length vc2), (7, pA Bn4 0), (9, pA Bn12 0), (11, pN), (13, pA Bn313 0), (15, vI (wi (g350 + 1)))] (by kernel_rfl); obtain ⟨j, hr⟩ := hr
         replace h : Fit z (sepL (ob62 Bn4 S402 ca403 cc404 ca405 cc406 :: ro2 ca403 cc404 S402.Held :: ro90 ca405 cc406 S402.Book :: ob62 Bn12 S342 ca343 cc344 ca345 cc346 :: ro2 ca343 cc344 S342.Held :: ro90 ca345 cc346 S342.Book :: ob110 Bn313 S347 ca348 cc349 :: ro107 ca348 cc349 S347.cell :: L)) _ := h.sel 9 [0, 1, 2, 3, 4, 5, 6, 7] (by kernel_rfl) (by kernel_rfl)
         exact ⟨_, ⟨ca403, cc404, ca405, cc406, ca343, cc344, ca345, cc346, ca348, cc349, S402, S342, S347, (wi (g350 + 1)), H, j, hr, h⟩, Nat.lt_succ_self _⟩
        ·
         replace H := ifF c437 H
         refine cond_tt hr (bne_iff_ne.mpr c437) ?_
         refine sr ?_
         refine o1 hr (vB false) fun a hr => ?_
         refine ln ?_
         refine wp_ret ?_
         refine blk_ret ?_
         refine then_ret ?_
         refine then_ret ?_
         refine blk_ret ?_
         refine then_ret ?_
         refine end_ret1 (v := vB false) rfl hr (by kernel_rfl) ?_
         replace H := jx3 H hK335
         replace h : Fit z (sepL (L)) _ := h.sel 9 [] (by kernel_rfl) (by kernel_rfl)
         replace H := ej1 H; subst H
         exact ⟨rfl, h⟩
       ·
        replace H := ifF c434 H
        refine reg_E (fun w => heldC w b353 1 ([vI (at_ p2 g350.toNat).Kind]) ∧ True) [0] h (by kernel_rfl) ?_; intro w h
        change wpAnyE _ _ _ _ _ _ 13 (Array.replicate 13 false) a w
        have hgo : ∀ w w', CellsGo w w' → (heldC w b353 1 ([vI (at_ p2 g350.toNat).Kind]) ∧ True) → heldC w' b353 1 ([vI (at_ p2 g350.toNat).Kind]) ∧ True := fun w w' g hD => ⟨heldC_go _ _ _ _ _ g hD.1, trivial⟩
        refine evDs hgo ⟨⟨(h.pick 8).cell 1 rfl, trivial⟩, trivial⟩ 12 0 rfl (wn rfl) hr (pA b353 1) fun a hr => ?_
        refine el [0] (b := b353) (off := 1) (cs := [vI (at_ p2 g350.toNat).Kind]) (fun _ hk => ⟨hk, fun w hD => hD.1⟩) 11 1 rfl (by kernel_rfl) (wn rfl) hr (vI (at_ p2 g350.toNat).Kind) ⟨(h.pick 8).cell 1 rfl, trivial⟩ (fun w hc => rl rfl (by kernel_rfl) (by kernel_rfl) hc.1) fun a hr => ?_
        refine evs 10 2 rfl (wn rfl) hr (vB ((at_ p2 g350.toNat).Kind == 8)) fun a hr => ?_
        refine evs 9 3 rfl (wn rfl) hr (vB ((at_ p2 g350.toNat).Kind == 8)) fun a hr => ?_
        refine eos 8 4 rfl (wgt hr (beq_eq_false_iff_ne.mpr c434)) hr fun a hr => ?_
        refine eos 7 6 rfl (wgt hr (beq_eq_false_iff_ne.mpr c434)) hr fun a hr => ?_
        refine eos 6 7 rfl (wgt hr (beq_eq_false_iff_ne.mpr c434)) hr fun a hr => ?_
        refine eos 5 8 rfl (wgt hr (beq_eq_false_iff_ne.mpr c434)) hr fun a hr => ?_
        refine eos 4 9 rfl (wgt hr (beq_eq_false_iff_ne.mpr c434)) hr fun a hr => ?_
        refine eos 3 10 rfl (wgt hr (beq_eq_false_iff_ne.mpr c434)) hr fun a hr => ?_
        refine e_one (fuel := 2) (i := 5) (by kernel_rfl) rfl ?_
        refine offg (wgt hr (beq_eq_false_iff_ne.mpr c434)) hr fun a hr => ?_
        refine wpList_nil ?_; refine then_normal ?_
        refine ⟨fun hE => absurd hE (by decide), ?_⟩
        refine eos 1 11 rfl (wgt hr (beq_eq_false_iff_ne.mpr c434)) hr fun a hr => ?_
        refine ev 0 12 rfl (by kernel_rfl) (wn rfl) hr (vB false) (fun w => rp_f (b := ((at_ p2 g350.toNat).Kind == 8)) rfl (by kernel_rfl) (beq_eq_false_iff_ne.mpr c434) (by kernel_rfl)) fun a hr => ?_
        refine e_end (by kernel_rfl) ?_
        refine then_normal ?_
        refine cond_ff hr (b := false) rfl ?_
        refine wp_skip ?_
        refine blk_normal ?_
        refine then_normal ?_
        refine wp_region_lit ?_
        refine oo [67, 68, 15] [vI g350, vI (wi (g350 + 1)), vI (wi (g350 + 1))] hr fun a hr => ?_
        refine ln ?_
        replace hr := hr.fold2 [(2, .slice va2 p2.length vc2), (7, pA Bn4 0), (9, pA Bn12 0), (11, pN), (13, pA Bn313 0), (15, vI (wi (g350 + 1)))] (by kernel_rfl); obtain ⟨j, hr⟩ := hr
        replace h : Fit z (sepL (ob62 Bn4 S402 ca403 cc404 ca405 cc406 :: ro2 ca403 cc404 S402.Held :: ro90 ca405 cc406 S402.Book :: ob62 Bn12 S342 ca343 cc344 ca345 cc346 :: ro2 ca343 cc344 S342.Held :: ro90 ca345 cc346 S342.Book :: ob110 Bn313 S347 ca348 cc349 :: ro107 ca348 cc349 S347.cell :: L)) _ := h.sel 9 [0, 1, 2, 3, 4, 5, 6, 7] (by kernel_rfl) (by kernel_rfl)
        exact ⟨_, ⟨ca403, cc404, ca405, cc406, ca343, cc344, ca345, cc346, ca348, cc349, S402, S342, S347, (wi (g350 + 1)), H, j, hr, h⟩, Nat.lt_succ_self _⟩
     ·
      replace H := ifF c351 H
      refine cond_ff hr (decide_eq_false c351) ?_
      refine wp_exit ?_
      refine then_exit ?_
      refine then_exit ?_
      refine blk_here ?_
      refine then_normal ?_
      replace hr := hr.fold2 [(7, pA Bn4 0), (9, pA Bn12 0), (11, pN), (13, pA Bn313 0)] (by kernel_rfl); obtain ⟨j, hr⟩ := hr
      exact ⟨(), ca338, cc339, ca340, cc341, ca343, cc344, ca345, cc346, ca348, cc349, S337, S342, S347, sinj H, j, hr, h⟩
   clear h hr a; rintro _ a w ⟨ca323, cc324, ca325, cc326, ca328, cc329, ca330, cc331, ca333, cc334, S322, S327, S332, rfl, j, hr, h⟩
   replace H := jk3 hK335
   refine sr ?_
   refine oo [124, 125, 126, 127] [pN, pA Bn4 0, pA Bn4 0, pA Bn4 1] hr fun a hr => ?_
   refine ld (wn rfl) hr (.slice ca323 S322.Held.length cc324) (h.cell 1 rfl) fun a hr => ?_
   obtain ⟨r438, e439, H⟩ := bd1 H
   have hc := plunderlaw2_holds_nil_ok (va1 := ca323) (vc1 := cc324) (hv1 := (RdRow.of_row encZ_i64_ok (h.pick 1) (fun h => (h.pick 1)))) (H := e439) (h := h)
   refine cl (wn rfl) hr hc ?_; clear hc h
   rintro _ w ⟨rfl, h⟩; refine ⟨_, rfl, fun a hr => ?_⟩
   refine o1 hr (vB r438) fun a hr => ?_
   by_cases c440 : r438 = true
   ·
    replace H := ifT c440 H
    refine opv (wgt hr (c440)) hr (pA Bn313 0) (by kernel_rfl) fun a hr => ?_
    refine opv (wgt hr (c440)) hr (pA Bn12 0) (by kernel_rfl) fun a hr => ?_
    refine opv (wgt hr (c440)) hr (pA Bn12 0) (by kernel_rfl) fun a hr => ?_
    refine opv (wgt hr (c440)) hr (pA Bn12 1) (by kernel_rfl) fun a hr => ?_
    refine ld (wgt hr (c440)) hr (.slice ca328 S327.Held.length cc329) ((h.pick 3).cell 1 rfl) fun a hr => ?_
    obtain ⟨r441, S442, e443, H⟩ := bd2 H
    replace h : Fit z (sepL (ob110 Bn313 S332 ca333 cc334 :: ro107 ca333 cc334 S332.cell :: ob62 Bn4 S322 ca323 cc324 ca325 cc326 :: ro2 ca323 cc324 S322.Held :: ro90 ca325 cc326 S322.Book :: ob62 Bn12 S327 ca328 cc329 ca330 cc331 :: ro2 ca328 cc329 S327.Held :: ro90 ca330 cc331 S327.Book :: L)) _ := h.sel 8 [6, 7, 0, 1, 2, 3, 4, 5] (by kernel_rfl) (by kernel_rfl)
    have hc := plunderlaw2_holds_ok (va1 := ca328) (vc1 := cc329) (hv1 := (RdRow.of_row encZ_i64_ok (h.pick 6) (fun h => (h.pick 4)))) (H := e443) (h := h)
    refine cl (wgt hr (c440)) hr hc ?_; clear hc h
    rintro _ w ⟨caq444, ccq445, rfl, h⟩; refine ⟨_, rfl, fun a hr => ?_⟩
    refine opv (wn rfl) hr (vB r441) (rp_t (b := r438) rfl (by kernel_rfl) (c440) (by kernel_rfl)) fun a hr => ?_
    refine o1 hr (vB r441) fun a hr => ?_
    refine ln ?_
    refine wp_ret ?_
    refine end_ret1 (v := vB r441) rfl hr (by kernel_rfl) ?_
    replace h : Fit z (sepL (L)) _ := h.sel 8 [] (by kernel_rfl) (by kernel_rfl)
    replace H := ej1 H; subst H
    exact ⟨rfl, h⟩
   ·
    replace H := ifF c440 H
    refine offg (wgt hr (bF c440)) hr fun a hr => ?_
    refine offg (wgt hr (bF c440)) hr fun a hr => ?_
    refine offg (wgt hr (bF c440)) hr fun a hr => ?_
    refine offg (wgt hr (bF c440)) hr fun a hr => ?_
    refine offg (wgt hr (bF c440)) hr fun a hr => ?_
    refine offg (wgt hr (bF c440)) hr fun a hr => ?_
    refine opv (wn rfl) hr (vB false) (rp_f (b := r438) rfl (by kernel_rfl) (bF c440) (by kernel_rfl)) fun a hr => ?_
    refine o1 hr (vB false) fun a hr => ?_
    refine ln ?_
    refine wp_ret ?_
    refine end_ret1 (v := vB false) rfl hr (by kernel_rfl) ?_
    replace h : Fit z (sepL (L)) _ := h.sel 8 [] (by kernel_rfl) (by kernel_rfl)
    replace H := ej1 H; subst H
    exact ⟨rfl, h⟩
  | none =>
   have hc := cells_NewShared_ok1 (H := e311) (h := h)
   refine cl (wn rfl) hr hc ?_; clear hc h
   rintro _ w ⟨rfl, h⟩; refine ⟨_, rfl, fun a hr => ?_⟩
   refine oo [36, 39, 40, 13, 14] [.tuple #[pN, vI r310], pN, vI r310, pN, vI r310] hr fun a hr => ?_
   refine ln ?_
   obtain ⟨o447, H, hK446⟩ := jd0 H
   refine cut_rule (β := Unit) (fun _ a w => .inl () = o447 ∧ ∃ j, Rep 138 (lk [(2, .slice va2 p2.length vc2), (7, pA Bn4 0), (9, pA Bn12 0), (11, pN), (13, pN)] j) a ∧ Fit z (sepL (ob62 Bn4 r1 car5 ccr6 car7 ccr8 :: ro2 car5 ccr6 r1.Held :: ro90 car7 ccr8 r1.Book :: ob62 Bn12 r9 car13 ccr14 car15 ccr16 :: ro2 car13 ccr14 r9.Held :: ro90 car15 ccr16 r9.Book :: L)) w) ?_ ?_
   ·
    refine sr ?_
    refine oo [41, 42, 43, 44] [vI r18, vI r2, vB (r18 != r2), vB (r18 != r2)] hr fun a hr => ?_
    by_cases c448 : r18 = r2
    ·
     replace H := ifT c448 H
     refine opv (wgt hr (bne_eq_false_iff_eq.mpr c448)) hr (vI r310) (by kernel_rfl) fun a hr => ?_
     refine opv (wgt hr (bne_eq_false_iff_eq.mpr c448)) hr (vI r10) (by kernel_rfl) fun a hr => ?_
     refine opv (wgt hr (bne_eq_false_iff_eq.mpr c448)) hr (vB (r310 != r10)) (by kernel_rfl) fun a hr => ?_
     refine opv (wn rfl) hr (vB (r310 != r10)) (rp_f (b := (r18 != r2)) rfl (by kernel_rfl) (bne_eq_false_iff_eq.mpr c448) (by kernel_rfl)) fun a hr => ?_
     refine o1 hr (vB (r310 != r10)) fun a hr => ?_
     by_cases c449 : r310 = r10
     ·
      replace H := ifT c449 H
      refine opv (wgt hr (bne_eq_false_iff_eq.mpr c449)) hr (pN) (by kernel_rfl) fun a hr => ?_
      refine opv (wgt hr (bne_eq_false_iff_eq.mpr c449)) hr (vB true) (by kernel_rfl) fun a hr => ?_
      refine opv (wgt hr (bne_eq_false_iff_eq.mpr c449)) hr (vI r2) (by kernel_rfl) fun a hr => ?_
      refine opv (wgt hr (bne_eq_false_iff_eq.mpr c449)) hr (vB (r2 != 0)) (by kernel_rfl) fun a hr => ?_
      refine opv (wgt hr (bne_eq_false_iff_eq.mpr c449)) hr (vB (!(true == (r2 != 0)))) (by kernel_rfl) fun a hr => ?_
      refine opv (wn rfl) hr (vB (!(true == (r2 != 0)))) (rp_f (b := (r310 != r10)) rfl (by kernel_rfl) (bne_eq_false_iff_eq.mpr c449) (by kernel_rfl)) fun a hr => ?_
      refine o1 hr (vB (!(true == (r2 != 0)))) fun a hr => ?_
      by_cases c450 : true = (r2 != 0)
      ·
       replace H := ifT c450 H
       refine opv (wgt hr (x := !(true == (r2 != 0))) (c := false) (by rw [show (true == (r2 != 0)) = true from (beq_iff_eq.mpr c450)]; rfl)) hr (pN) (by kernel_rfl) fun a hr => ?_
       refine opv (wgt hr (x := !(true == (r2 != 0))) (c := false) (by rw [show (true == (r2 != 0)) = true from (beq_iff_eq.mpr c450)]; rfl)) hr (vB true) (by kernel_rfl) fun a hr => ?_
       refine opv (wgt hr (x := !(true == (r2 != 0))) (c := false) (by rw [show (true == (r2 != 0)) = true from (beq_iff_eq.mpr c450)]; rfl)) hr (vI r10) (by kernel_rfl) fun a hr => ?_
       refine opv (wgt hr (x := !(true == (r2 != 0))) (c := false) (by rw [show (true == (r2 != 0)) = true from (beq_iff_eq.mpr c450)]; rfl)) hr (vB (r10 != 0)) (by kernel_rfl) fun a hr => ?_
       refine opv (wgt hr (x := !(true == (r2 != 0))) (c := false) (by rw [show (true == (r2 != 0)) = true from (beq_iff_eq.mpr c450)]; rfl)) hr (vB (!(true == (r10 != 0)))) (by kernel_rfl) fun a hr => ?_
       refine opv (wn rfl) hr (vB (!(true == (r10 != 0)))) (rp_f (b := (!(true == (r2 != 0)))) rfl (by kernel_rfl) (by rw [show (true == (r2 != 0)) = true from (beq_iff_eq.mpr c450)]; rfl) (by kernel_rfl)) fun a hr => ?_
       refine ln ?_
       by_cases c451 : true = (r10 != 0)
       ·
        replace H := ifT c451 H
        refine cond_ff hr (b := (!(true == (r10 != 0)))) (by rw [show (true == (r10 != 0)) = true from (beq_iff_eq.mpr c451)]; rfl) ?_
        refine wp_skip ?_
        refine then_normal ?_
        replace hr := hr.fold2 [(2, .slice va2 p2.length vc2), (7, pA Bn4 0), (9, pA Bn12 0), (11, pN), (13, pN)] (by kernel_rfl); obtain ⟨j, hr⟩ := hr
        replace h : Fit z (sepL (ob62 Bn4 r1 car5 ccr6 car7 ccr8 :: ro2 car5 ccr6 r1.Held :: ro90 car7 ccr8 r1.Book :: ob62 Bn12 r9 car13 ccr14 car15 ccr16 :: ro2 car13 ccr14 r9.Held :: ro90 car15 ccr16 r9.Book :: L)) _ := h.sel 6 [3, 4, 5, 0, 1, 2] (by kernel_rfl) (by kernel_rfl)
        exact ⟨(), sinj H, j, hr, h⟩
       ·
        replace H := ifF c451 H
        refine cond_tt hr (b := (!(true == (r10 != 0)))) (by rw [show (true == (r10 != 0)) = false from (beq_eq_false_iff_ne.mpr c451)]; rfl) ?_
        refine sr ?_
        refine o1 hr (vB false) fun a hr => ?_
        refine ln ?_
        refine wp_ret ?_
        refine then_ret ?_
        refine end_ret1 (v := vB false) rfl hr (by kernel_rfl) ?_
        replace H := jx0 H hK446
        replace h : Fit z (sepL (L)) _ := h.sel 6 [] (by kernel_rfl) (by kernel_rfl)
        replace H := ej1 H; subst H
        exact ⟨rfl, h⟩
      ·
       replace H := ifF c450 H
       refine offg (wgt hr (x := !(true == (r2 != 0))) (c := true) (by rw [show (true == (r2 != 0)) = false from (beq_eq_false_iff_ne.mpr c450)]; rfl)) hr fun a hr => ?_
       refine offg (wgt hr (x := !(true == (r2 != 0))) (c := true) (by rw [show (true == (r2 != 0)) = false from (beq_eq_false_iff_ne.mpr c450)]; rfl)) hr fun a hr => ?_
       refine offg (wgt hr (x := !(true == (r2 != 0))) (c := true) (by rw [show (true == (r2 != 0)) = false from (beq_eq_false_iff_ne.mpr c450)]; rfl)) hr fun a hr => ?_
       refine offg (wgt hr (x := !(true == (r2 != 0))) (c := true) (by rw [show (true == (r2 != 0)) = false from (beq_eq_false_iff_ne.mpr c450)]; rfl)) hr fun a hr => ?_
       refine offg (wgt hr (x := !(true == (r2 != 0))) (c := true) (by rw [show (true == (r2 != 0)) = false from (beq_eq_false_iff_ne.mpr c450)]; rfl)) hr fun a hr => ?_
       refine opv (wn rfl) hr (vB true) (rp_t (b := (!(true == (r2 != 0)))) rfl (by kernel_rfl) (by rw [show (true == (r2 != 0)) = false from (beq_eq_false_iff_ne.mpr c450)]; rfl) (by kernel_rfl)) fun a hr => ?_
       refine ln ?_
       refine cond_tt hr (b := true) rfl ?_
       refine sr ?_
       refine o1 hr (vB false) fun a hr => ?_
       refine ln ?_
       refine wp_ret ?_
       refine then_ret ?_
       refine end_ret1 (v := vB false) rfl hr (by kernel_rfl) ?_
       replace H := jx0 H hK446
       replace h : Fit z (sepL (L)) _ := h.sel 6 [] (by kernel_rfl) (by kernel_rfl)
       replace H := ej1 H; subst H
       exact ⟨rfl, h⟩
     ·
      replace H := ifF c449 H
      refine offg (wgt hr (bne_iff_ne.mpr c449)) hr fun a hr => ?_
      refine offg (wgt hr (bne_iff_ne.mpr c449)) hr fun a hr => ?_
      refine offg (wgt hr (bne_iff_ne.mpr c449)) hr fun a hr => ?_
      refine offg (wgt hr (bne_iff_ne.mpr c449)) hr fun a hr => ?_
      refine offg (wgt hr (bne_iff_ne.mpr c449)) hr fun a hr => ?_
      refine opv (wn rfl) hr (vB true) (rp_t (b := (r310 != r10)) rfl (by kernel_rfl) (bne_iff_ne.mpr c449) (by kernel_rfl)) fun a hr => ?_
      refine o1 hr (vB true) fun a hr => ?_
      refine offg (wgt hr (c := true) rfl) hr fun a hr => ?_
      refine offg (wgt hr (c := true) rfl) hr fun a hr => ?_
      refine offg (wgt hr (c := true) rfl) hr fun a hr => ?_
      refine offg (wgt hr (c := true) rfl) hr fun a hr => ?_
      refine offg (wgt hr (c := true) rfl) hr fun a hr => ?_
      refine o1 hr (vB true) fun a hr => ?_
      refine ln ?_
      refine cond_tt hr (b := true) rfl ?_
      refine sr ?_
      refine o1 hr (vB false) fun a hr => ?_
      refine ln ?_
      refine wp_ret ?_
      refine then_ret ?_
      refine end_ret1 (v := vB false) rfl hr (by kernel_rfl) ?_
      replace H := jx0 H hK446
      replace h : Fit z (sepL (L)) _ := h.sel 6 [] (by kernel_rfl) (by kernel_rfl)
      replace H := ej1 H; subst H
      exact ⟨rfl, h⟩
    ·
     replace H := ifF c448 H
     refine offg (wgt hr (bne_iff_ne.mpr c448)) hr fun a hr => ?_
     refine offg (wgt hr (bne_iff_ne.mpr c448)) hr fun a hr => ?_
     refine offg (wgt hr (bne_iff_ne.mpr c448)) hr fun a hr => ?_
     refine opv (wn rfl) hr (vB true) (rp_t (b := (r18 != r2)) rfl (by kernel_rfl) (bne_iff_ne.mpr c448) (by kernel_rfl)) fun a hr => ?_
     refine o1 hr (vB true) fun a hr => ?_
     refine offg (wgt hr (c := true) rfl) hr fun a hr => ?_
     refine offg (wgt hr (c := true) rfl) hr fun a hr => ?_
     refine offg (wgt hr (c := true) rfl) hr fun a hr => ?_
     refine offg (wgt hr (c := true) rfl) hr fun a hr => ?_
     refine offg (wgt hr (c := true) rfl) hr fun a hr => ?_
     refine oo [55, 56] [vB true, vB true] hr fun a hr => ?_
     refine offg (wgt hr (c := true) rfl) hr fun a hr => ?_
     refine offg (wgt hr (c := true) rfl) hr fun a hr => ?_
     refine offg (wgt hr (c := true) rfl) hr fun a hr => ?_
     refine offg (wgt hr (c := true) rfl) hr fun a hr => ?_
     refine offg (wgt hr (c := true) rfl) hr fun a hr => ?_
     refine o1 hr (vB true) fun a hr => ?_
     refine ln ?_
     refine cond_tt hr (b := true) rfl ?_
     refine sr ?_
     refine o1 hr (vB false) fun a hr => ?_
     refine ln ?_
     refine wp_ret ?_
     refine then_ret ?_
     refine end_ret1 (v := vB false) rfl hr (by kernel_rfl) ?_
     replace H := jx0 H hK446
     replace h : Fit z (sepL (L)) _ := h.sel 6 [] (by kernel_rfl) (by kernel_rfl)
     replace H := ej1 H; subst H
     exact ⟨rfl, h⟩
   clear h hr a; rintro _ a w ⟨rfl, j, hr, h⟩
   replace H := jk0 hK446
   obtain ⟨o463, H, hK462⟩ := jd2 H
   refine cut_rule (β := Unit) (fun _ a w => ∃ ca453 : Option Addr, ∃ cc454 : Nat, ∃ ca455 : Option Addr, ∃ cc456 : Nat, ∃ ca458 : Option Addr, ∃ cc459 : Nat, ∃ ca460 : Option Addr, ∃ cc461 : Nat, ∃ S452 : T_plunderref2_Arena, ∃ S457 : T_plunderref2_Arena, .inl (S452, S457) = o463 ∧ ∃ j, Rep 138 (lk [(7, pA Bn4 0), (9, pA Bn12 0), (11, pN), (13, pN)] j) a ∧ Fit z (sepL (ob62 Bn4 S452 ca453 cc454 ca455 cc456 :: ro2 ca453 cc454 S452.Held :: ro90 ca455 cc456 S452.Book :: ob62 Bn12 S457 ca458 cc459 ca460 cc461 :: ro2 ca458 cc459 S457.Held :: ro90 ca460 cc461 S457.Book :: L)) w) ?_ ?_
   ·
    refine sr ?_
    refine o1 hr (vI 0) fun a hr => ?_
    refine ln ?_
    refine wp_block ?_
    replace hr := hr.fold2 [(2, .slice va2 p2.length vc2), (7, pA Bn4 0), (9, pA Bn12 0), (11, pN), (13, pN), (15, vI 0)] (by kernel_rfl); obtain ⟨j, hr⟩ := hr
    refine loop_rule (β := Nat) id (fun m a w => ∃ ca465 : Option Addr, ∃ cc466 : Nat, ∃ ca467 : Option Addr, ∃ cc468 : Nat, ∃ ca470 : Option Addr, ∃ cc471 : Nat, ∃ ca472 : Option Addr, ∃ cc473 : Nat, ∃ S464 : T_plunderref2_Arena, ∃ S469 : T_plunderref2_Arena, ∃ g474 : Int, (plunderlaw2_CellsShared_l4 K p2 m S464 S469 g474) = some o463 ∧ ∃ j, Rep 138 (lk [(2, .slice va2 p2.length vc2), (7, pA Bn4 0), (9, pA Bn12 0), (11, pN), (13, pN), (15, vI g474)] j) a ∧ Fit z (sepL (ob62 Bn4 S464 ca465 cc466 ca467 cc468 :: ro2 ca465 cc466 S464.Held :: ro90 ca467 cc468 S464.Book :: ob62 Bn12 S469 ca470 cc471 ca472 cc473 :: ro2 ca470 cc471 S469.Held :: ro90 ca472 cc473 S469.Book :: L)) w) K ⟨car5, ccr6, car7, ccr8, car13, ccr14, car15, ccr16, r1, r9, 0, H, j, hr, h⟩ ?_
    clear h hr a H; rintro k4 a w ⟨ca465, cc466, ca467, cc468, ca470, cc471, ca472, cc473, S464, S469, g474, H, j, hr, h⟩
    cases k4 with
    | zero => exact absurd H (by simp [plunderlaw2_CellsShared_l4])
    | succ k4 =>
     rw [plunderlaw2_CellsShared_l4] at H
     refine wp_seq ?_
     refine sr ?_
     refine oo [63, 64, 65, 66] [vI g474, .slice va2 p2.length vc2, vI ((p2.length : Nat) : Int), vB (decide (g474 < ((p2.length : Nat) : Int)))] hr fun a hr => ?_
     refine ln ?_
     by_cases c475 : g474 < ((p2.length : Nat) : Int)
     ·
      replace H := ifT c475 H
      refine cond_tt hr (decide_eq_true c475) ?_
      refine wp_skip ?_
      refine then_normal ?_
      refine wp_seq ?_
      refine wp_block ?_
      refine sr ?_
      obtain ⟨c476, H⟩ := gd H
      refine oo [69, 70] [.slice va2 p2.length vc2, vI g474] hr fun a hr => ?_
      refine opv (wn rfl) hr (pA (blk va2) (offs va2 + g474.toNat * 5)) (ri_rd (k := .i64) (E := 30) (cc := vc2) rfl (by kernel_rfl) (by kernel_rfl) rfl (by kernel_rfl) (by kernel_rfl) hv2 c476) fun a hr => ?_
      refine ldm (wn rfl) hr (ag_T_plunderlaw2_Move (at_ p2 g474.toNat)) (cs := cl_T_plunderlaw2_Move (at_ p2 g474.toNat)) ⟨hv2.cell c476 (h.dn 6) 0 rfl, hv2.cell c476 (h.dn 6) 1 rfl, hv2.cell c476 (h.dn 6) 2 rfl, hv2.cell c476 (h.dn 6) 3 rfl, hv2.cell c476 (h.dn 6) 4 rfl, trivial⟩ fun a hr => ?_
      refine onew (wn rfl) hr h nb (#[vI 0, vI 0, vI 0, vI 0, vI 0]) 30 fun b477 w a h hr => ?_
      refine stos (wn rfl) hr h 0 (cl_T_plunderlaw2_Move (at_ p2 g474.toNat)) (ca_T_plunderlaw2_Move (at_ p2 g474.toNat)) fun w h => ?_
      refine wpList_nil ?_
      replace h : Fit z (sepL (ob30 b477 (at_ p2 g474.toNat) :: ob62 Bn4 S464 ca465 cc466 ca467 cc468 :: ro2 ca465 cc466 S464.Held :: ro90 ca467 cc468 S464.Book :: ob62 Bn12 S469 ca470 cc471 ca472 cc473 :: ro2 ca470 cc471 S469.Held :: ro90 ca472 cc473 S469.Book :: L)) _ := h
      refine then_normal ?_
      refine sr ?_
      refine oo [73, 17] [pN, pN] hr fun a hr => ?_
      refine ln ?_
      refine sr ?_
      refine oo [74, 18] [pA Bn4 0, pA Bn4 0] hr fun a hr => ?_
      refine ln ?_
      refine wp_seq ?_
      refine sr ?_
      refine o1 hr (pA b477 0) fun a hr => ?_
      refine ld (wn rfl) hr (vI (at_ p2 g474.toNat).Side) (h.cell 0 rfl) fun a hr => ?_
      obtain ⟨r478, e479, H⟩ := bd1 H
      have hc := plunderlaw2_mod_ok (H := e479) (h := h)
      refine cl (wn rfl) hr hc ?_; clear hc h
      rintro _ w ⟨rfl, h⟩; refine ⟨_, rfl, fun a hr => ?_⟩
      refine o1 hr (vB (r478 == 1)) fun a hr => ?_
      refine ln ?_
      by_cases c480 : r478 = 1
      ·
       replace H := ifT c480 H
       refine cond_tt hr (beq_iff_eq.mpr c480) ?_
       refine sr ?_
       refine oo [79, 17] [pN, pN] hr fun a hr => ?_
       refine ln ?_
       refine wp_region_lit ?_
       refine oo [80, 18] [pA Bn12 0, pA Bn12 0] hr fun a hr => ?_
       refine ln ?_
       obtain ⟨o487, H, hK486⟩ := jd1 H
       refine cut_rule (β := Unit) (fun _ a w => ∃ ca482 : Option Addr, ∃ cc483 : Nat, ∃ ca484 : Option Addr, ∃ cc485 : Nat, ∃ S481 : T_plunderref2_Arena, .inl S481 = o487 ∧ ∃ j, Rep 138 (lk [(2, .slice va2 p2.length vc2), (7, pA Bn4 0), (9, pA Bn12 0), (11, pN), (13, pN), (15, vI g474), (16, pA b477 0), (17, pN), (18, pA Bn12 0)] j) a ∧ Fit z (sepL (ob62 Bn4 S464 ca465 cc466 ca467 cc468 :: ro2 ca465 cc466 S464.Held :: ro90 ca467 cc468 S464.Book :: ob62 Bn12 S481 ca482 cc483 ca484 cc485 :: ro2 ca482 cc483 S481.Held :: ro90 ca484 cc485 S481.Book :: ob30 b477 (at_ p2 g474.toNat) :: L)) w) ?_ ?_
       ·
        obtain ⟨o490, H, hK489⟩ := kd1 H
        refine cut_rule (β := Unit) (fun _ a w => ∃ g488 : Bool, g488 = o490 ∧ ∃ j, Rep 138 (lk [(2, .slice va2 p2.length vc2), (7, pA Bn4 0), (9, pA Bn12 0), (11, pN), (13, pN), (15, vI g474), (16, pA b477 0), (17, pN), (18, pA Bn12 0), (88, vB g488)] j) a ∧ Fit z (sepL (ob62 Bn4 S464 ca465 cc466 ca467 cc468 :: ro2 ca465 cc466 S464.Held :: ro90 ca467 cc468 S464.Book :: ob62 Bn12 S469 ca470 cc471 ca472 cc473 :: ro2 ca470 cc471 S469.Held :: ro90 ca472 cc473 S469.Book :: ob30 b477 (at_ p2 g474.toNat) :: L)) w) ?_ ?_
        ·
         refine wp_region_lit ?_
         refine o1 hr (pA b477 1) fun a hr => ?_
         refine ld (wn rfl) hr (vI (at_ p2 g474.toNat).Kind) (h.cell 1 rfl) fun a hr => ?_
         refine oo [83, 84] [vB (decide ((at_ p2 g474.toNat).Kind ≥ 0)), vB (decide ((at_ p2 g474.toNat).Kind ≥ 0))] hr fun a hr => ?_
         by_cases c491 : (at_ p2 g474.toNat).Kind ≥ 0
         ·
          replace H := ifT c491 H
          refine opv (wgt hr (decide_eq_true c491)) hr (pA b477 1) (by kernel_rfl) fun a hr => ?_
          refine ld (wgt hr (decide_eq_true c491)) hr (vI (at_ p2 g474.toNat).Kind) (h.cell 1 rfl) fun a hr => ?_
          refine opv (wgt hr (decide_eq_true c491)) hr (vB (decide ((at_ p2 g474.toNat).Kind ≤ 4))) (by kernel_rfl) fun a hr => ?_
          refine opv (wn rfl) hr (vB (decide ((at_ p2 g474.toNat).Kind ≤ 4))) (rp_t (b := (decide ((at_ p2 g474.toNat).Kind ≥ 0))) rfl (by kernel_rfl) (decide_eq_true c491) (by kernel_rfl)) fun a hr => ?_
          refine ln ?_
          replace hr := hr.fold2 [(2, .slice va2 p2.length vc2), (7, pA Bn4 0), (9, pA Bn12 0), (11, pN), (13, pN), (15, vI g474), (16, pA b477 0), (17, pN), (18, pA Bn12 0), (88, vB (decide ((at_ p2 g474.toNat).Kind ≤ 4)))] (by kernel_rfl); obtain ⟨j, hr⟩ := hr
          replace h : Fit z (sepL (ob62 Bn4 S464 ca465 cc466 ca467 cc468 :: ro2 ca465 cc466 S464.Held :: ro90 ca467 cc468 S464.Book :: ob62 Bn12 S469 ca470 cc471 ca472 cc473 :: ro2 ca470 cc471 S469.Held :: ro90 ca472 cc473 S469.Book :: ob30 b477 (at_ p2 g474.toNat) :: L)) _ := h.sel 7 [1, 2, 3, 4, 5, 6, 0] (by kernel_rfl) (by kernel_rfl)
          exact ⟨(), (decide ((at_ p2 g474.toNat).Kind ≤ 4)), sinj H, j, hr, h⟩
         ·
          replace H := ifF c491 H
          refine offg (wgt hr (decide_eq_false c491)) hr fun a hr => ?_
          refine offg (wgt hr (decide_eq_false c491)) hr fun a hr => ?_
          refine offg (wgt hr (decide_eq_false c491)) hr fun a hr => ?_
          refine opv (wn rfl) hr (vB false) (rp_f (b := (decide ((at_ p2 g474.toNat).Kind ≥ 0))) rfl (by kernel_rfl) (decide_eq_false c491) (by kernel_rfl)) fun a hr => ?_
          refine ln ?_
          replace hr := hr.fold2 [(2, .slice va2 p2.length vc2), (7, pA Bn4 0), (9, pA Bn12 0), (11, pN), (13, pN), (15, vI g474), (16, pA b477 0), (17, pN), (18, pA Bn12 0), (88, vB false)] (by kernel_rfl); obtain ⟨j, hr⟩ := hr
          replace h : Fit z (sepL (ob62 Bn4 S464 ca465 cc466 ca467 cc468 :: ro2 ca465 cc466 S464.Held :: ro90 ca467 cc468 S464.Book :: ob62 Bn12 S469 ca470 cc471 ca472 cc473 :: ro2 ca470 cc471 S469.Held :: ro90 ca472 cc473 S469.Book :: ob30 b477 (at_ p2 g474.toNat) :: L)) _ := h.sel 7 [1, 2, 3, 4, 5, 6, 0] (by kernel_rfl) (by kernel_rfl)
          exact ⟨(), false, sinj H, j, hr, h⟩
        clear h hr a; rintro _ a w ⟨g488, rfl, j, hr, h⟩
        replace H := kk1 hK489
        by_cases c492 : g488 = true
        ·
         replace H := ifT c492 H
         refine cond_tt hr (c492) ?_
         refine sr ?_
         refine o1 hr (pN) fun a hr => ?_
         refine ldm (wn rfl) hr (ag_T_plunderlaw2_Move (at_ p2 g474.toNat)) (cs := cl_T_plunderlaw2_Move (at_ p2 g474.toNat)) ((h.pick 6).held 0 rfl) fun a hr => ?_
         obtain ⟨r493, e494, H⟩ := bd1 H
         have hc := plunderlaw2_shared_nil_ok (H := e494) (h := h)
         refine cl (wn rfl) hr hc ?_; clear hc h
         rintro _ w ⟨rfl, h⟩; refine ⟨_, rfl, fun a hr => ?_⟩
         refine onew (wn rfl) hr h nb (#[vI 0, vB false, vI 0]) 39 fun b495 w a h hr => ?_
         refine stos (wn rfl) hr h 0 (cl_T_api_Effect r493) (ca_T_api_Effect r493) fun w h => ?_
         refine wpList_nil ?_
         replace h : Fit z (sepL (ob39 b495 r493 :: ob62 Bn4 S464 ca465 cc466 ca467 cc468 :: ro2 ca465 cc466 S464.Held :: ro90 ca467 cc468 S464.Book :: ob62 Bn12 S469 ca470 cc471 ca472 cc473 :: ro2 ca470 cc471 S469.Held :: ro90 ca472 cc473 S469.Book :: ob30 b477 (at_ p2 g474.toNat) :: L)) _ := h
         refine then_normal ?_
         refine sr ?_
         refine o1 hr (pA Bn12 0) fun a hr => ?_
         refine ldm (wn rfl) hr (ag_T_plunderlaw2_Move (at_ p2 g474.toNat)) (cs := cl_T_plunderlaw2_Move (at_ p2 g474.toNat)) ((h.pick 7).held 0 rfl) fun a hr => ?_
         obtain ⟨r496, e497, H⟩ := bd1 H
         have hc := plunderlaw2_act_ok (H := e497) (h := h)
         refine cl (wn rfl) hr hc ?_; clear hc h
         rintro _ w ⟨rfl, h⟩; refine ⟨_, rfl, fun a hr => ?_⟩
         obtain ⟨r498, S499, e500, H⟩ := bd2 H
         replace h : Fit z (sepL (ob62 Bn12 S469 ca470 cc471 ca472 cc473 :: ro2 ca470 cc471 S469.Held :: ro90 ca472 cc473 S469.Book :: ob39 b495 r493 :: ob62 Bn4 S464 ca465 cc466 ca467 cc468 :: ro2 ca465 cc466 S464.Held :: ro90 ca467 cc468 S464.Book :: ob30 b477 (at_ p2 g474.toNat) :: L)) _ := h.sel 8 [4, 5, 6, 0, 1, 2, 3, 7] (by kernel_rfl) (by kernel_rfl)
         have hc := plunderref2_Arena_Do_ok (H := e500) (h := h)
         refine cl (wn rfl) hr hc ?_; clear hc h
         rintro _ w ⟨caq501, ccq502, caq503, ccq504, rfl, h⟩; refine ⟨_, rfl, fun a hr => ?_⟩
         refine onew (wn rfl) hr h nb (#[vI 0, vB false, vI 0]) 39 fun b505 w a h hr => ?_
         refine stos (wn rfl) hr h 0 (cl_T_api_Effect r498) (ca_T_api_Effect r498) fun w h => ?_
         refine wpList_nil ?_
         replace h : Fit z (sepL (ob39 b505 r498 :: ob62 Bn12 S499 caq501 ccq502 caq503 ccq504 :: ro2 caq501 ccq502 S499.Held :: ro90 caq503 ccq504 S499.Book :: ob39 b495 r493 :: ob62 Bn4 S464 ca465 cc466 ca467 cc468 :: ro2 ca465 cc466 S464.Held :: ro90 ca467 cc468 S464.Book :: ob30 b477 (at_ p2 g474.toNat) :: L)) _ := h
         refine then_normal ?_
         refine sr ?_
         refine ldm (wn rfl) hr (ag_T_api_Effect r493) (cs := cl_T_api_Effect r493) ((h.pick 4).held 0 rfl) fun a hr => ?_
         refine ldm (wn rfl) hr (ag_T_api_Effect r498) (cs := cl_T_api_Effect r498) (h.held 0 rfl) fun a hr => ?_
         refine opv (wn rfl) hr (vB (!(decide (r493 = r498)))) (rb (rne rfl (by kernel_rfl) (by kernel_rfl) (by kernel_rfl) (by kernel_rfl) (by kernel_rfl) (by kernel_rfl)) (congrArg (!·) (eq_T_api_Effect r493 r498))) fun a hr => ?_
         refine ln ?_
         by_cases c506 : r493 = r498
         ·
          replace H := ifT c506 H
          refine cond_ff hr (b := (!(decide (r493 = r498)))) (by rw [show (decide (r493 = r498)) = true from (decide_eq_true c506)]; rfl) ?_
          refine wp_skip ?_
          refine then_normal ?_
          replace hr := hr.fold2 [(2, .slice va2 p2.length vc2), (7, pA Bn4 0), (9, pA Bn12 0), (11, pN), (13, pN), (15, vI g474), (16, pA b477 0), (17, pN), (18, pA Bn12 0)] (by kernel_rfl); obtain ⟨j, hr⟩ := hr
          replace h : Fit z (sepL (ob62 Bn4 S464 ca465 cc466 ca467 cc468 :: ro2 ca465 cc466 S464.Held :: ro90 ca467 cc468 S464.Book :: ob62 Bn12 S499 caq501 ccq502 caq503 ccq504 :: ro2 caq501 ccq502 S499.Held :: ro90 caq503 ccq504 S499.Book :: ob30 b477 (at_ p2 g474.toNat) :: L)) _ := h.sel 9 [5, 6, 7, 1, 2, 3, 8] (by kernel_rfl) (by kernel_rfl)
          exact ⟨(), caq501, ccq502, caq503, ccq504, S499, sinj H, j, hr, h⟩
         ·
          replace H := ifF c506 H
          refine cond_tt hr (b := (!(decide (r493 = r498)))) (by rw [show (decide (r493 = r498)) = false from (decide_eq_false c506)]; rfl) ?_
          refine sr ?_
          refine o1 hr (vB false) fun a hr => ?_
          refine ln ?_
          refine wp_ret ?_
          refine then_ret ?_
          refine blk_ret ?_
          refine then_ret ?_
          refine then_ret ?_
          refine blk_ret ?_
          refine then_ret ?_
          refine end_ret1 (v := vB false) rfl hr (by kernel_rfl) ?_
          replace H := jx1 H hK486
          replace H := jx2 H hK462
          replace h : Fit z (sepL (L)) _ := h.sel 9 [] (by kernel_rfl) (by kernel_rfl)
          replace H := ej1 H; subst H
          exact ⟨rfl, h⟩
        ·
         replace H := ifF c492 H
         refine cond_ff hr (bF c492) ?_
         refine wp_skip ?_
         refine then_normal ?_
         replace hr := hr.fold2 [(2, .slice va2 p2.length vc2), (7, pA Bn4 0), (9, pA Bn12 0), (11, pN), (13, pN), (15, vI g474), (16, pA b477 0), (17, pN), (18, pA Bn12 0)] (by kernel_rfl); obtain ⟨j, hr⟩ := hr
         exact ⟨(), ca470, cc471, ca472, cc473, S469, sinj H, j, hr, h⟩
       clear h hr a; rintro _ a w ⟨ca482, cc483, ca484, cc485, S481, rfl, j, hr, h⟩
       replace H := jk1 hK486
       obtain ⟨o508, H, hK507⟩ := jd0 H
       refine cut_rule (β := Unit) (fun _ a w => .inl () = o508 ∧ ∃ j, Rep 138 (lk [(2, .slice va2 p2.length vc2), (7, pA Bn4 0), (9, pA Bn12 0), (11, pN), (13, pN), (15, vI g474), (16, pA b477 0), (17, pN), (18, pA Bn12 0)] j) a ∧ Fit z (sepL (ob62 Bn4 S464 ca465 cc466 ca467 cc468 :: ro2 ca465 cc466 S464.Held :: ro90 ca467 cc468 S464.Book :: ob62 Bn12 S481 ca482 cc483 ca484 cc485 :: ro2 ca482 cc483 S481.Held :: ro90 ca484 cc485 S481.Book :: ob30 b477 (at_ p2 g474.toNat) :: L)) w) ?_ ?_
       ·
        refine wp_seq ?_
        by_cases c509 : (at_ p2 g474.toNat).Kind = 7
        ·
         replace H := ifT c509 H
         obtain ⟨r510, e511, H⟩ := bd1 H
         refine reg_E (fun w => heldC w b477 1 ([vI (at_ p2 g474.toNat).Kind]) ∧ heldC w Bn12 0 ([vI S481.Most]) ∧ True) [0, 2, 5, 7, 8] h (by kernel_rfl) ?_; intro w h
         change wpAnyE _ _ _ _ _ _ 12 (Array.replicate 12 false) a w
         have hgo : ∀ w w', CellsGo w w' → (heldC w b477 1 ([vI (at_ p2 g474.toNat).Kind]) ∧ heldC w Bn12 0 ([vI S481.Most]) ∧ True) → heldC w' b477 1 ([vI (at_ p2 g474.toNat).Kind]) ∧ heldC w' Bn12 0 ([vI S481.Most]) ∧ True := fun w w' g hD => ⟨heldC_go _ _ _ _ _ g hD.1, heldC_go _ _ _ _ _ g hD.2.1, trivial⟩
         refine evDs hgo ⟨⟨(h.pick 6).cell 1 rfl, trivial⟩, ⟨(h.pick 3).cell 0 rfl, trivial⟩, trivial⟩ 11 0 rfl (wn rfl) hr (pA b477 1) fun a hr => ?_
         refine el [0, 2, 5, 7, 8] (b := b477) (off := 1) (cs := [vI (at_ p2 g474.toNat).Kind]) (fun _ hk => ⟨hk, fun w hD => hD.1⟩) 10 1 rfl (by kernel_rfl) (wn rfl) hr (vI (at_ p2 g474.toNat).Kind) ⟨(h.pick 6).cell 1 rfl, trivial⟩ (fun w hc => rl rfl (by kernel_rfl) (by kernel_rfl) hc.1) fun a hr => ?_
         refine evDs hgo ⟨⟨(h.pick 6).cell 1 rfl, trivial⟩, ⟨(h.pick 3).cell 0 rfl, trivial⟩, trivial⟩ 9 2 rfl (wn rfl) hr (vB ((at_ p2 g474.toNat).Kind == 7)) fun a hr => ?_
         refine evs 8 3 rfl (wn rfl) hr (vB ((at_ p2 g474.toNat).Kind == 7)) fun a hr => ?_
         refine evs 7 4 rfl (wgt hr (beq_iff_eq.mpr c509)) hr (pN) fun a hr => ?_
         refine evs 6 6 rfl (wgt hr (beq_iff_eq.mpr c509)) hr (pA Bn12 0) fun a hr => ?_
         refine evDs hgo ⟨⟨(h.pick 6).cell 1 rfl, trivial⟩, ⟨(h.pick 3).cell 0 rfl, trivial⟩, trivial⟩ 5 7 rfl (wgt hr (beq_iff_eq.mpr c509)) hr (pA Bn12 0) fun a hr => ?_
         refine evDs hgo ⟨⟨(h.pick 6).cell 1 rfl, trivial⟩, ⟨(h.pick 3).cell 0 rfl, trivial⟩, trivial⟩ 4 8 rfl (wgt hr (beq_iff_eq.mpr c509)) hr (pA Bn12 0) fun a hr => ?_
         refine el [0, 2, 5, 7, 8] (b := Bn12) (off := 0) (cs := [vI S481.Most]) (fun _ hk => ⟨hk, fun w hD => hD.2.1⟩) 3 9 rfl (by kernel_rfl) (wgt hr (beq_iff_eq.mpr c509)) hr (vI S481.Most) ⟨(h.pick 3).cell 0 rfl, trivial⟩ (fun w hc => rl rfl (by kernel_rfl) (by kernel_rfl) hc.1) fun a hr => ?_
         refine e_one (fuel := 2) (i := 5) (by kernel_rfl) rfl ?_
         have hc := cells_Shared_Size_nil_ok (H := e511) (h := h)
         refine cl (wgt hr (beq_iff_eq.mpr c509)) hr hc ?_; clear hc h
         rintro _ w ⟨rfl, h⟩; refine ⟨_, rfl, fun a hr => ?_⟩
         refine wpList_nil ?_; refine then_normal ?_
         refine ⟨fun _ => ⟨⟨(h.pick 6).cell 1 rfl, trivial⟩, ⟨(h.pick 3).cell 0 rfl, trivial⟩, trivial⟩, ?_⟩
         refine evs 1 10 rfl (wgt hr (beq_iff_eq.mpr c509)) hr (vB (r510 != S481.Most)) fun a hr => ?_
         refine ev 0 11 rfl (by kernel_rfl) (wn rfl) hr (vB (r510 != S481.Most)) (fun w => rp_t (b := ((at_ p2 g474.toNat).Kind == 7)) rfl (by kernel_rfl) (beq_iff_eq.mpr c509) (by kernel_rfl)) fun a hr => ?_
         refine e_end (by kernel_rfl) ?_
         refine then_normal ?_
         by_cases c512 : r510 = S481.Most
         ·
          replace H := ifT c512 H
          refine cond_ff hr (bne_eq_false_iff_eq.mpr c512) ?_
          refine wp_skip ?_
          refine then_normal ?_
          replace hr := hr.fold2 [(2, .slice va2 p2.length vc2), (7, pA Bn4 0), (9, pA Bn12 0), (11, pN), (13, pN), (15, vI g474), (16, pA b477 0), (17, pN), (18, pA Bn12 0)] (by kernel_rfl); obtain ⟨j, hr⟩ := hr
          exact ⟨(), sinj H, j, hr, h⟩
         ·
          replace H := ifF c512 H
          refine cond_tt hr (bne_iff_ne.mpr c512) ?_
          refine sr ?_
          refine o1 hr (vB false) fun a hr => ?_
          refine ln ?_
          refine wp_ret ?_
          refine then_ret ?_
          refine blk_ret ?_
          refine then_ret ?_
          refine then_ret ?_
          refine blk_ret ?_
          refine then_ret ?_
          refine end_ret1 (v := vB false) rfl hr (by kernel_rfl) ?_
          replace H := jx0 H hK507
          replace H := jx2 H hK462
          replace h : Fit z (sepL (L)) _ := h.sel 7 [] (by kernel_rfl) (by kernel_rfl)
          replace H := ej1 H; subst H
          exact ⟨rfl, h⟩
        ·
         replace H := ifF c509 H
         refine reg_E (fun w => heldC w b477 1 ([vI (at_ p2 g474.toNat).Kind]) ∧ True) [0] h (by kernel_rfl) ?_; intro w h
         change wpAnyE _ _ _ _ _ _ 12 (Array.replicate 12 false) a w
         have hgo : ∀ w w', CellsGo w w' → (heldC w b477 1 ([vI (at_ p2 g474.toNat).Kind]) ∧ True) → heldC w' b477 1 ([vI (at_ p2 g474.toNat).Kind]) ∧ True := fun w w' g hD => ⟨heldC_go _ _ _ _ _ g hD.1, trivial⟩
         refine evDs hgo ⟨⟨(h.pick 6).cell 1 rfl, trivial⟩, trivial⟩ 11 0 rfl (wn rfl) hr (pA b477 1) fun a hr => ?_
         refine el [0] (b := b477) (off := 1) (cs := [vI (at_ p2 g474.toNat).Kind]) (fun _ hk => ⟨hk, fun w hD => hD.1⟩) 10 1 rfl (by kernel_rfl) (wn rfl) hr (vI (at_ p2 g474.toNat).Kind) ⟨(h.pick 6).cell 1 rfl, trivial⟩ (fun w hc => rl rfl (by kernel_rfl) (by kernel_rfl) hc.1) fun a hr => ?_
         refine evs 9 2 rfl (wn rfl) hr (vB ((at_ p2 g474.toNat).Kind == 7)) fun a hr => ?_
         refine evs 8 3 rfl (wn rfl) hr (vB ((at_ p2 g474.toNat).Kind == 7)) fun a hr => ?_
         refine eos 7 4 rfl (wgt hr (beq_eq_false_iff_ne.mpr c509)) hr fun a hr => ?_
         refine eos 6 6 rfl (wgt hr (beq_eq_false_iff_ne.mpr c509)) hr fun a hr => ?_
         refine eos 5 7 rfl (wgt hr (beq_eq_false_iff_ne.mpr c509)) hr fun a hr => ?_
         refine eos 4 8 rfl (wgt hr (beq_eq_false_iff_ne.mpr c509)) hr fun a hr => ?_
         refine eos 3 9 rfl (wgt hr (beq_eq_false_iff_ne.mpr c509)) hr fun a hr => ?_
         refine e_one (fuel := 2) (i := 5) (by kernel_rfl) rfl ?_
         refine offg (wgt hr (beq_eq_false_iff_ne.mpr c509)) hr fun a hr => ?_
         refine wpList_nil ?_; refine then_normal ?_
         refine ⟨fun hE => absurd hE (by decide), ?_⟩
         refine eos 1 10 rfl (wgt hr (beq_eq_false_iff_ne.mpr c509)) hr fun a hr => ?_
         refine ev 0 11 rfl (by kernel_rfl) (wn rfl) hr (vB false) (fun w => rp_f (b := ((at_ p2 g474.toNat).Kind == 7)) rfl (by kernel_rfl) (beq_eq_false_iff_ne.mpr c509) (by kernel_rfl)) fun a hr => ?_
         refine e_end (by kernel_rfl) ?_
         refine then_normal ?_
         refine cond_ff hr (b := false) rfl ?_
         refine wp_skip ?_
         refine then_normal ?_
         replace hr := hr.fold2 [(2, .slice va2 p2.length vc2), (7, pA Bn4 0), (9, pA Bn12 0), (11, pN), (13, pN), (15, vI g474), (16, pA b477 0), (17, pN), (18, pA Bn12 0)] (by kernel_rfl); obtain ⟨j, hr⟩ := hr
         exact ⟨(), sinj H, j, hr, h⟩
       clear h hr a; rintro _ a w ⟨rfl, j, hr, h⟩
       replace H := jk0 hK507
       refine wp_seq ?_
       by_cases c513 : (at_ p2 g474.toNat).Kind = 8
       ·
        replace H := ifT c513 H
        obtain ⟨r514, e515, H⟩ := bd1 H
        refine reg_E (fun w => heldC w b477 1 ([vI (at_ p2 g474.toNat).Kind]) ∧ heldC w Bn12 1 ([.slice ca482 S481.Held.length cc483]) ∧ True) [0, 2, 5, 7, 8] h (by kernel_rfl) ?_; intro w h
        change wpAnyE _ _ _ _ _ _ 13 (Array.replicate 13 false) a w
        have hgo : ∀ w w', CellsGo w w' → (heldC w b477 1 ([vI (at_ p2 g474.toNat).Kind]) ∧ heldC w Bn12 1 ([.slice ca482 S481.Held.length cc483]) ∧ True) → heldC w' b477 1 ([vI (at_ p2 g474.toNat).Kind]) ∧ heldC w' Bn12 1 ([.slice ca482 S481.Held.length cc483]) ∧ True := fun w w' g hD => ⟨heldC_go _ _ _ _ _ g hD.1, heldC_go _ _ _ _ _ g hD.2.1, trivial⟩
        refine evDs hgo ⟨⟨(h.pick 6).cell 1 rfl, trivial⟩, ⟨(h.pick 3).cell 1 rfl, trivial⟩, trivial⟩ 12 0 rfl (wn rfl) hr (pA b477 1) fun a hr => ?_
        refine el [0, 2, 5, 7, 8] (b := b477) (off := 1) (cs := [vI (at_ p2 g474.toNat).Kind]) (fun _ hk => ⟨hk, fun w hD => hD.1⟩) 11 1 rfl (by kernel_rfl) (wn rfl) hr (vI (at_ p2 g474.toNat).Kind) ⟨(h.pick 6).cell 1 rfl, trivial⟩ (fun w hc => rl rfl (by kernel_rfl) (by kernel_rfl) hc.1) fun a hr => ?_
        refine evDs hgo ⟨⟨(h.pick 6).cell 1 rfl, trivial⟩, ⟨(h.pick 3).cell 1 rfl, trivial⟩, trivial⟩ 10 2 rfl (wn rfl) hr (vB ((at_ p2 g474.toNat).Kind == 8)) fun a hr => ?_
        refine evs 9 3 rfl (wn rfl) hr (vB ((at_ p2 g474.toNat).Kind == 8)) fun a hr => ?_
        refine evs 8 4 rfl (wgt hr (beq_iff_eq.mpr c513)) hr (pN) fun a hr => ?_
        refine evs 7 6 rfl (wgt hr (beq_iff_eq.mpr c513)) hr (pA Bn12 0) fun a hr => ?_
        refine evDs hgo ⟨⟨(h.pick 6).cell 1 rfl, trivial⟩, ⟨(h.pick 3).cell 1 rfl, trivial⟩, trivial⟩ 6 7 rfl (wgt hr (beq_iff_eq.mpr c513)) hr (pA Bn12 0) fun a hr => ?_
        refine evDs hgo ⟨⟨(h.pick 6).cell 1 rfl, trivial⟩, ⟨(h.pick 3).cell 1 rfl, trivial⟩, trivial⟩ 5 8 rfl (wgt hr (beq_iff_eq.mpr c513)) hr (pA Bn12 1) fun a hr => ?_
        refine el [0, 2, 5, 7, 8] (b := Bn12) (off := 1) (cs := [.slice ca482 S481.Held.length cc483]) (fun _ hk => ⟨hk, fun w hD => hD.2.1⟩) 4 9 rfl (by kernel_rfl) (wgt hr (beq_iff_eq.mpr c513)) hr (.slice ca482 S481.Held.length cc483) ⟨(h.pick 3).cell 1 rfl, trivial⟩ (fun w hc => rl rfl (by kernel_rfl) (by kernel_rfl) hc.1) fun a hr => ?_
        refine evs 3 10 rfl (wgt hr (beq_iff_eq.mpr c513)) hr (vI ((S481.Held.length : Nat) : Int)) fun a hr => ?_
        refine e_one (fuel := 2) (i := 5) (by kernel_rfl) rfl ?_
        have hc := cells_Shared_Mark_nil_ok (H := e515) (h := h)
        refine cl (wgt hr (beq_iff_eq.mpr c513)) hr hc ?_; clear hc h
        rintro _ w ⟨rfl, h⟩; refine ⟨_, rfl, fun a hr => ?_⟩
        refine wpList_nil ?_; refine then_normal ?_
        refine ⟨fun _ => ⟨⟨(h.pick 6).cell 1 rfl, trivial⟩, ⟨(h.pick 3).cell 1 rfl, trivial⟩, trivial⟩, ?_⟩
        refine evs 1 11 rfl (wgt hr (beq_iff_eq.mpr c513)) hr (vB (r514 != ((S481.Held.length : Nat) : Int))) fun a hr => ?_
        refine ev 0 12 rfl (by kernel_rfl) (wn rfl) hr (vB (r514 != ((S481.Held.length : Nat) : Int))) (fun w => rp_t (b := ((at_ p2 g474.toNat).Kind == 8)) rfl (by kernel_rfl) (beq_iff_eq.mpr c513) (by kernel_rfl)) fun a hr => ?_
        refine e_end (by kernel_rfl) ?_
        refine then_normal ?_
        by_cases c516 : r514 = ((S481.Held.length : Nat) : Int)
        ·
         replace H := ifT c516 H
         refine cond_ff hr (bne_eq_false_iff_eq.mpr c516) ?_
         refine wp_skip ?_
         refine blk_normal ?_
         refine then_normal ?_
         refine wp_region_lit ?_
         refine oo [67, 68, 15] [vI g474, vI (wi (g474 + 1)), vI (wi (g474 + 1))] hr fun a hr => ?_
         refine ln ?_
         replace hr := hr.fold2 [(2, .slice va2 p2.length vc2), (7, pA Bn4 0), (9, pA Bn12 0), (11, pN), (13, pN), (15, vI (wi (g474 + 1)))] (by kernel_rfl); obtain ⟨j, hr⟩ := hr
         replace h : Fit z (sepL (ob62 Bn4 S464 ca465 cc466 ca467 cc468 :: ro2 ca465 cc466 S464.Held :: ro90 ca467 cc468 S464.Book :: ob62 Bn12 S481 ca482 cc483 ca484 cc485 :: ro2 ca482 cc483 S481.Held :: ro90 ca484 cc485 S481.Book :: L)) _ := h.sel 7 [0, 1, 2, 3, 4, 5] (by kernel_rfl) (by kernel_rfl)
         exact ⟨_, ⟨ca465, cc466, ca467, cc468, ca482, cc483, ca484, cc485, S464, S481, (wi (g474 + 1)), H, j, hr, h⟩, Nat.lt_succ_self _⟩
        ·
         replace H := ifF c516 H
         refine cond_tt hr (bne_iff_ne.mpr c516) ?_
         refine sr ?_
         refine o1 hr (vB false) fun a hr => ?_
         refine ln ?_
         refine wp_ret ?_
         refine blk_ret ?_
         refine then_ret ?_
         refine then_ret ?_
         refine blk_ret ?_
         refine then_ret ?_
         refine end_ret1 (v := vB false) rfl hr (by kernel_rfl) ?_
         replace H := jx2 H hK462
         replace h : Fit z (sepL (L)) _ := h.sel 7 [] (by kernel_rfl) (by kernel_rfl)
         replace H := ej1 H; subst H
         exact ⟨rfl, h⟩
       ·
        replace H := ifF c513 H
        refine reg_E (fun w => heldC w b477 1 ([vI (at_ p2 g474.toNat).Kind]) ∧ True) [0] h (by kernel_rfl) ?_; intro w h
        change wpAnyE _ _ _ _ _ _ 13 (Array.replicate 13 false) a w
        have hgo : ∀ w w', CellsGo w w' → (heldC w b477 1 ([vI (at_ p2 g474.toNat).Kind]) ∧ True) → heldC w' b477 1 ([vI (at_ p2 g474.toNat).Kind]) ∧ True := fun w w' g hD => ⟨heldC_go _ _ _ _ _ g hD.1, trivial⟩
        refine evDs hgo ⟨⟨(h.pick 6).cell 1 rfl, trivial⟩, trivial⟩ 12 0 rfl (wn rfl) hr (pA b477 1) fun a hr => ?_
        refine el [0] (b := b477) (off := 1) (cs := [vI (at_ p2 g474.toNat).Kind]) (fun _ hk => ⟨hk, fun w hD => hD.1⟩) 11 1 rfl (by kernel_rfl) (wn rfl) hr (vI (at_ p2 g474.toNat).Kind) ⟨(h.pick 6).cell 1 rfl, trivial⟩ (fun w hc => rl rfl (by kernel_rfl) (by kernel_rfl) hc.1) fun a hr => ?_
        refine evs 10 2 rfl (wn rfl) hr (vB ((at_ p2 g474.toNat).Kind == 8)) fun a hr => ?_
        refine evs 9 3 rfl (wn rfl) hr (vB ((at_ p2 g474.toNat).Kind == 8)) fun a hr => ?_
        refine eos 8 4 rfl (wgt hr (beq_eq_false_iff_ne.mpr c513)) hr fun a hr => ?_
        refine eos 7 6 rfl (wgt hr (beq_eq_false_iff_ne.mpr c513)) hr fun a hr => ?_
        refine eos 6 7 rfl (wgt hr (beq_eq_false_iff_ne.mpr c513)) hr fun a hr => ?_
        refine eos 5 8 rfl (wgt hr (beq_eq_false_iff_ne.mpr c513)) hr fun a hr => ?_
        refine eos 4 9 rfl (wgt hr (beq_eq_false_iff_ne.mpr c513)) hr fun a hr => ?_
        refine eos 3 10 rfl (wgt hr (beq_eq_false_iff_ne.mpr c513)) hr fun a hr => ?_
        refine e_one (fuel := 2) (i := 5) (by kernel_rfl) rfl ?_
        refine offg (wgt hr (beq_eq_false_iff_ne.mpr c513)) hr fun a hr => ?_
        refine wpList_nil ?_; refine then_normal ?_
        refine ⟨fun hE => absurd hE (by decide), ?_⟩
        refine eos 1 11 rfl (wgt hr (beq_eq_false_iff_ne.mpr c513)) hr fun a hr => ?_
        refine ev 0 12 rfl (by kernel_rfl) (wn rfl) hr (vB false) (fun w => rp_f (b := ((at_ p2 g474.toNat).Kind == 8)) rfl (by kernel_rfl) (beq_eq_false_iff_ne.mpr c513) (by kernel_rfl)) fun a hr => ?_
        refine e_end (by kernel_rfl) ?_
        refine then_normal ?_
        refine cond_ff hr (b := false) rfl ?_
        refine wp_skip ?_
        refine blk_normal ?_
        refine then_normal ?_
        refine wp_region_lit ?_
        refine oo [67, 68, 15] [vI g474, vI (wi (g474 + 1)), vI (wi (g474 + 1))] hr fun a hr => ?_
        refine ln ?_
        replace hr := hr.fold2 [(2, .slice va2 p2.length vc2), (7, pA Bn4 0), (9, pA Bn12 0), (11, pN), (13, pN), (15, vI (wi (g474 + 1)))] (by kernel_rfl); obtain ⟨j, hr⟩ := hr
        replace h : Fit z (sepL (ob62 Bn4 S464 ca465 cc466 ca467 cc468 :: ro2 ca465 cc466 S464.Held :: ro90 ca467 cc468 S464.Book :: ob62 Bn12 S481 ca482 cc483 ca484 cc485 :: ro2 ca482 cc483 S481.Held :: ro90 ca484 cc485 S481.Book :: L)) _ := h.sel 7 [0, 1, 2, 3, 4, 5] (by kernel_rfl) (by kernel_rfl)
        exact ⟨_, ⟨ca465, cc466, ca467, cc468, ca482, cc483, ca484, cc485, S464, S481, (wi (g474 + 1)), H, j, hr, h⟩, Nat.lt_succ_self _⟩
      ·
       replace H := ifF c480 H
       refine cond_ff hr (beq_eq_false_iff_ne.mpr c480) ?_
       refine wp_skip ?_
       refine then_normal ?_
       obtain ⟨o523, H, hK522⟩ := jd1 H
       refine cut_rule (β := Unit) (fun _ a w => ∃ ca518 : Option Addr, ∃ cc519 : Nat, ∃ ca520 : Option Addr, ∃ cc521 : Nat, ∃ S517 : T_plunderref2_Arena, .inl S517 = o523 ∧ ∃ j, Rep 138 (lk [(2, .slice va2 p2.length vc2), (7, pA Bn4 0), (9, pA Bn12 0), (11, pN), (13, pN), (15, vI g474), (16, pA b477 0), (17, pN), (18, pA Bn4 0)] j) a ∧ Fit z (sepL (ob62 Bn4 S517 ca518 cc519 ca520 cc521 :: ro2 ca518 cc519 S517.Held :: ro90 ca520 cc521 S517.Book :: ob62 Bn12 S469 ca470 cc471 ca472 cc473 :: ro2 ca470 cc471 S469.Held :: ro90 ca472 cc473 S469.Book :: ob30 b477 (at_ p2 g474.toNat) :: L)) w) ?_ ?_
       ·
        obtain ⟨o526, H, hK525⟩ := kd1 H
        refine cut_rule (β := Unit) (fun _ a w => ∃ g524 : Bool, g524 = o526 ∧ ∃ j, Rep 138 (lk [(2, .slice va2 p2.length vc2), (7, pA Bn4 0), (9, pA Bn12 0), (11, pN), (13, pN), (15, vI g474), (16, pA b477 0), (17, pN), (18, pA Bn4 0), (88, vB g524)] j) a ∧ Fit z (sepL (ob62 Bn4 S464 ca465 cc466 ca467 cc468 :: ro2 ca465 cc466 S464.Held :: ro90 ca467 cc468 S464.Book :: ob62 Bn12 S469 ca470 cc471 ca472 cc473 :: ro2 ca470 cc471 S469.Held :: ro90 ca472 cc473 S469.Book :: ob30 b477 (at_ p2 g474.toNat) :: L)) w) ?_ ?_
        ·
         refine wp_region_lit ?_
         refine o1 hr (pA b477 1) fun a hr => ?_
         refine ld (wn rfl) hr (vI (at_ p2 g474.toNat).Kind) (h.cell 1 rfl) fun a hr => ?_
         refine oo [83, 84] [vB (decide ((at_ p2 g474.toNat).Kind ≥ 0)), vB (decide ((at_ p2 g474.toNat).Kind ≥ 0))] hr fun a hr => ?_
         by_cases c527 : (at_ p2 g474.toNat).Kind ≥ 0
         ·
          replace H := ifT c527 H
          refine opv (wgt hr (decide_eq_true c527)) hr (pA b477 1) (by kernel_rfl) fun a hr => ?_
          refine ld (wgt hr (decide_eq_true c527)) hr (vI (at_ p2 g474.toNat).Kind) (h.cell 1 rfl) fun a hr => ?_
          refine opv (wgt hr (decide_eq_true c527)) hr (vB (decide ((at_ p2 g474.toNat).Kind ≤ 4))) (by kernel_rfl) fun a hr => ?_
          refine opv (wn rfl) hr (vB (decide ((at_ p2 g474.toNat).Kind ≤ 4))) (rp_t (b := (decide ((at_ p2 g474.toNat).Kind ≥ 0))) rfl (by kernel_rfl) (decide_eq_true c527) (by kernel_rfl)) fun a hr => ?_
          refine ln ?_
          replace hr := hr.fold2 [(2, .slice va2 p2.length vc2), (7, pA Bn4 0), (9, pA Bn12 0), (11, pN), (13, pN), (15, vI g474), (16, pA b477 0), (17, pN), (18, pA Bn4 0), (88, vB (decide ((at_ p2 g474.toNat).Kind ≤ 4)))] (by kernel_rfl); obtain ⟨j, hr⟩ := hr
          replace h : Fit z (sepL (ob62 Bn4 S464 ca465 cc466 ca467 cc468 :: ro2 ca465 cc466 S464.Held :: ro90 ca467 cc468 S464.Book :: ob62 Bn12 S469 ca470 cc471 ca472 cc473 :: ro2 ca470 cc471 S469.Held :: ro90 ca472 cc473 S469.Book :: ob30 b477 (at_ p2 g474.toNat) :: L)) _ := h.sel 7 [1, 2, 3, 4, 5, 6, 0] (by kernel_rfl) (by kernel_rfl)
          exact ⟨(), (decide ((at_ p2 g474.toNat).Kind ≤ 4)), sinj H, j, hr, h⟩
         ·
          replace H := ifF c527 H
          refine offg (wgt hr (decide_eq_false c527)) hr fun a hr => ?_
          refine offg (wgt hr (decide_eq_false c527)) hr fun a hr => ?_
          refine offg (wgt hr (decide_eq_false c527)) hr fun a hr => ?_
          refine opv (wn rfl) hr (vB false) (rp_f (b := (decide ((at_ p2 g474.toNat).Kind ≥ 0))) rfl (by kernel_rfl) (decide_eq_false c527) (by kernel_rfl)) fun a hr => ?_
          refine ln ?_
          replace hr := hr.fold2 [(2, .slice va2 p2.length vc2), (7, pA Bn4 0), (9, pA Bn12 0), (11, pN), (13, pN), (15, vI g474), (16, pA b477 0), (17, pN), (18, pA Bn4 0), (88, vB false)] (by kernel_rfl); obtain ⟨j, hr⟩ := hr
          replace h : Fit z (sepL (ob62 Bn4 S464 ca465 cc466 ca467 cc468 :: ro2 ca465 cc466 S464.Held :: ro90 ca467 cc468 S464.Book :: ob62 Bn12 S469 ca470 cc471 ca472 cc473 :: ro2 ca470 cc471 S469.Held :: ro90 ca472 cc473 S469.Book :: ob30 b477 (at_ p2 g474.toNat) :: L)) _ := h.sel 7 [1, 2, 3, 4, 5, 6, 0] (by kernel_rfl) (by kernel_rfl)
          exact ⟨(), false, sinj H, j, hr, h⟩
        clear h hr a; rintro _ a w ⟨g524, rfl, j, hr, h⟩
        replace H := kk1 hK525
        by_cases c528 : g524 = true
        ·
         replace H := ifT c528 H
         refine cond_tt hr (c528) ?_
         refine sr ?_
         refine o1 hr (pN) fun a hr => ?_
         refine ldm (wn rfl) hr (ag_T_plunderlaw2_Move (at_ p2 g474.toNat)) (cs := cl_T_plunderlaw2_Move (at_ p2 g474.toNat)) ((h.pick 6).held 0 rfl) fun a hr => ?_
         obtain ⟨r529, e530, H⟩ := bd1 H
         have hc := plunderlaw2_shared_nil_ok (H := e530) (h := h)
         refine cl (wn rfl) hr hc ?_; clear hc h
         rintro _ w ⟨rfl, h⟩; refine ⟨_, rfl, fun a hr => ?_⟩
         refine onew (wn rfl) hr h nb (#[vI 0, vB false, vI 0]) 39 fun b531 w a h hr => ?_
         refine stos (wn rfl) hr h 0 (cl_T_api_Effect r529) (ca_T_api_Effect r529) fun w h => ?_
         refine wpList_nil ?_
         replace h : Fit z (sepL (ob39 b531 r529 :: ob62 Bn4 S464 ca465 cc466 ca467 cc468 :: ro2 ca465 cc466 S464.Held :: ro90 ca467 cc468 S464.Book :: ob62 Bn12 S469 ca470 cc471 ca472 cc473 :: ro2 ca470 cc471 S469.Held :: ro90 ca472 cc473 S469.Book :: ob30 b477 (at_ p2 g474.toNat) :: L)) _ := h
         refine then_normal ?_
         refine sr ?_
         refine o1 hr (pA Bn4 0) fun a hr => ?_
         refine ldm (wn rfl) hr (ag_T_plunderlaw2_Move (at_ p2 g474.toNat)) (cs := cl_T_plunderlaw2_Move (at_ p2 g474.toNat)) ((h.pick 7).held 0 rfl) fun a hr => ?_
         obtain ⟨r532, e533, H⟩ := bd1 H
         have hc := plunderlaw2_act_ok (H := e533) (h := h)
         refine cl (wn rfl) hr hc ?_; clear hc h
         rintro _ w ⟨rfl, h⟩; refine ⟨_, rfl, fun a hr => ?_⟩
         obtain ⟨r534, S535, e536, H⟩ := bd2 H
         replace h : Fit z (sepL (ob62 Bn4 S464 ca465 cc466 ca467 cc468 :: ro2 ca465 cc466 S464.Held :: ro90 ca467 cc468 S464.Book :: ob39 b531 r529 :: ob62 Bn12 S469 ca470 cc471 ca472 cc473 :: ro2 ca470 cc471 S469.Held :: ro90 ca472 cc473 S469.Book :: ob30 b477 (at_ p2 g474.toNat) :: L)) _ := h.sel 8 [1, 2, 3, 0, 4, 5, 6, 7] (by kernel_rfl) (by kernel_rfl)
         have hc := plunderref2_Arena_Do_ok (H := e536) (h := h)
         refine cl (wn rfl) hr hc ?_; clear hc h
         rintro _ w ⟨caq537, ccq538, caq539, ccq540, rfl, h⟩; refine ⟨_, rfl, fun a hr => ?_⟩
         refine onew (wn rfl) hr h nb (#[vI 0, vB false, vI 0]) 39 fun b541 w a h hr => ?_
         refine stos (wn rfl) hr h 0 (cl_T_api_Effect r534) (ca_T_api_Effect r534) fun w h => ?_
         refine wpList_nil ?_
         replace h : Fit z (sepL (ob39 b541 r534 :: ob62 Bn4 S535 caq537 ccq538 caq539 ccq540 :: ro2 caq537 ccq538 S535.Held :: ro90 caq539 ccq540 S535.Book :: ob39 b531 r529 :: ob62 Bn12 S469 ca470 cc471 ca472 cc473 :: ro2 ca470 cc471 S469.Held :: ro90 ca472 cc473 S469.Book :: ob30 b477 (at_ p2 g474.toNat) :: L)) _ := h
         refine then_normal ?_
         refine sr ?_
         refine ldm (wn rfl) hr (ag_T_api_Effect r529) (cs := cl_T_api_Effect r529) ((h.pick 4).held 0 rfl) fun a hr => ?_
         refine ldm (wn rfl) hr (ag_T_api_Effect r534) (cs := cl_T_api_Effect r534) (h.held 0 rfl) fun a hr => ?_
         refine opv (wn rfl) hr (vB (!(decide (r529 = r534)))) (rb (rne rfl (by kernel_rfl) (by kernel_rfl) (by kernel_rfl) (by kernel_rfl) (by kernel_rfl) (by kernel_rfl)) (congrArg (!·) (eq_T_api_Effect r529 r534))) fun a hr => ?_
         refine ln ?_
         by_cases c542 : r529 = r534
         ·
          replace H := ifT c542 H
          refine cond_ff hr (b := (!(decide (r529 = r534)))) (by rw [show (decide (r529 = r534)) = true from (decide_eq_true c542)]; rfl) ?_
          refine wp_skip ?_
          refine then_normal ?_
          replace hr := hr.fold2 [(2, .slice va2 p2.length vc2), (7, pA Bn4 0), (9, pA Bn12 0), (11, pN), (13, pN), (15, vI g474), (16, pA b477 0), (17, pN), (18, pA Bn4 0)] (by kernel_rfl); obtain ⟨j, hr⟩ := hr
          replace h : Fit z (sepL (ob62 Bn4 S535 caq537 ccq538 caq539 ccq540 :: ro2 caq537 ccq538 S535.Held :: ro90 caq539 ccq540 S535.Book :: ob62 Bn12 S469 ca470 cc471 ca472 cc473 :: ro2 ca470 cc471 S469.Held :: ro90 ca472 cc473 S469.Book :: ob30 b477 (at_ p2 g474.toNat) :: L)) _ := h.sel 9 [1, 2, 3, 5, 6, 7, 8] (by kernel_rfl) (by kernel_rfl)
          exact ⟨(), caq537, ccq538, caq539, ccq540, S535, sinj H, j, hr, h⟩
         ·
          replace H := ifF c542 H
          refine cond_tt hr (b := (!(decide (r529 = r534)))) (by rw [show (decide (r529 = r534)) = false from (decide_eq_false c542)]; rfl) ?_
          refine sr ?_
          refine o1 hr (vB false) fun a hr => ?_
          refine ln ?_
          refine wp_ret ?_
          refine then_ret ?_
          refine blk_ret ?_
          refine then_ret ?_
          refine then_ret ?_
          refine blk_ret ?_
          refine then_ret ?_
          refine end_ret1 (v := vB false) rfl hr (by kernel_rfl) ?_
          replace H := jx1 H hK522
          replace H := jx2 H hK462
          replace h : Fit z (sepL (L)) _ := h.sel 9 [] (by kernel_rfl) (by kernel_rfl)
          replace H := ej1 H; subst H
          exact ⟨rfl, h⟩
        ·
         replace H := ifF c528 H
         refine cond_ff hr (bF c528) ?_
         refine wp_skip ?_
         refine then_normal ?_
         replace hr := hr.fold2 [(2, .slice va2 p2.length vc2), (7, pA Bn4 0), (9, pA Bn12 0), (11, pN), (13, pN), (15, vI g474), (16, pA b477 0), (17, pN), (18, pA Bn4 0)] (by kernel_rfl); obtain ⟨j, hr⟩ := hr
         exact ⟨(), ca465, cc466, ca467, cc468, S464, sinj H, j, hr, h⟩
       clear h hr a; rintro _ a w ⟨ca518, cc519, ca520, cc521, S517, rfl, j, hr, h⟩
       replace H := jk1 hK522
       obtain ⟨o544, H, hK543⟩ := jd0 H
       refine cut_rule (β := Unit) (fun _ a w => .inl () = o544 ∧ ∃ j, Rep 138 (lk [(2, .slice va2 p2.length vc2), (7, pA Bn4 0), (9, pA Bn12 0), (11, pN), (13, pN), (15, vI g474), (16, pA b477 0), (17, pN), (18, pA Bn4 0)] j) a ∧ Fit z (sepL (ob62 Bn4 S517 ca518 cc519 ca520 cc521 :: ro2 ca518 cc519 S517.Held :: ro90 ca520 cc521 S517.Book :: ob62 Bn12 S469 ca470 cc471 ca472 cc473 :: ro2 ca470 cc471 S469.Held :: ro90 ca472 cc473 S469.Book :: ob30 b477 (at_ p2 g474.toNat) :: L)) w) ?_ ?_
       ·
        refine wp_seq ?_
        by_cases c545 : (at_ p2 g474.toNat).Kind = 7
        ·
         replace H := ifT c545 H
         obtain ⟨r546, e547, H⟩ := bd1 H
         refine reg_E (fun w => heldC w b477 1 ([vI (at_ p2 g474.toNat).Kind]) ∧ heldC w Bn4 0 ([vI S517.Most]) ∧ True) [0, 2, 5, 7, 8] h (by kernel_rfl) ?_; intro w h
         change wpAnyE _ _ _ _ _ _ 12 (Array.replicate 12 false) a w
         have hgo : ∀ w w', CellsGo w w' → (heldC w b477 1 ([vI (at_ p2 g474.toNat).Kind]) ∧ heldC w Bn4 0 ([vI S517.Most]) ∧ True) → heldC w' b477 1 ([vI (at_ p2 g474.toNat).Kind]) ∧ heldC w' Bn4 0 ([vI S517.Most]) ∧ True := fun w w' g hD => ⟨heldC_go _ _ _ _ _ g hD.1, heldC_go _ _ _ _ _ g hD.2.1, trivial⟩
         refine evDs hgo ⟨⟨(h.pick 6).cell 1 rfl, trivial⟩, ⟨h.cell 0 rfl, trivial⟩, trivial⟩ 11 0 rfl (wn rfl) hr (pA b477 1) fun a hr => ?_
         refine el [0, 2, 5, 7, 8] (b := b477) (off := 1) (cs := [vI (at_ p2 g474.toNat).Kind]) (fun _ hk => ⟨hk, fun w hD => hD.1⟩) 10 1 rfl (by kernel_rfl) (wn rfl) hr (vI (at_ p2 g474.toNat).Kind) ⟨(h.pick 6).cell 1 rfl, trivial⟩ (fun w hc => rl rfl (by kernel_rfl) (by kernel_rfl) hc.1) fun a hr => ?_
         refine evDs hgo ⟨⟨(h.pick 6).cell 1 rfl, trivial⟩, ⟨h.cell 0 rfl, trivial⟩, trivial⟩ 9 2 rfl (wn rfl) hr (vB ((at_ p2 g474.toNat).Kind == 7)) fun a hr => ?_
         refine evs 8 3 rfl (wn rfl) hr (vB ((at_ p2 g474.toNat).Kind == 7)) fun a hr => ?_
         refine evs 7 4 rfl (wgt hr (beq_iff_eq.mpr c545)) hr (pN) fun a hr => ?_
         refine evs 6 6 rfl (wgt hr (beq_iff_eq.mpr c545)) hr (pA Bn4 0) fun a hr => ?_
         refine evDs hgo ⟨⟨(h.pick 6).cell 1 rfl, trivial⟩, ⟨h.cell 0 rfl, trivial⟩, trivial⟩ 5 7 rfl (wgt hr (beq_iff_eq.mpr c545)) hr (pA Bn4 0) fun a hr => ?_
         refine evDs hgo ⟨⟨(h.pick 6).cell 1 rfl, trivial⟩, ⟨h.cell 0 rfl, trivial⟩, trivial⟩ 4 8 rfl (wgt hr (beq_iff_eq.mpr c545)) hr (pA Bn4 0) fun a hr => ?_
         refine el [0, 2, 5, 7, 8] (b := Bn4) (off := 0) (cs := [vI S517.Most]) (fun _ hk => ⟨hk, fun w hD => hD.2.1⟩) 3 9 rfl (by kernel_rfl) (wgt hr (beq_iff_eq.mpr c545)) hr (vI S517.Most) ⟨h.cell 0 rfl, trivial⟩ (fun w hc => rl rfl (by kernel_rfl) (by kernel_rfl) hc.1) fun a hr => ?_
         refine e_one (fuel := 2) (i := 5) (by kernel_rfl) rfl ?_
         have hc := cells_Shared_Size_nil_ok (H := e547) (h := h)
         refine cl (wgt hr (beq_iff_eq.mpr c545)) hr hc ?_; clear hc h
         rintro _ w ⟨rfl, h⟩; refine ⟨_, rfl, fun a hr => ?_⟩
         refine wpList_nil ?_; refine then_normal ?_
         refine ⟨fun _ => ⟨⟨(h.pick 6).cell 1 rfl, trivial⟩, ⟨h.cell 0 rfl, trivial⟩, trivial⟩, ?_⟩
         refine evs 1 10 rfl (wgt hr (beq_iff_eq.mpr c545)) hr (vB (r546 != S517.Most)) fun a hr => ?_
         refine ev 0 11 rfl (by kernel_rfl) (wn rfl) hr (vB (r546 != S517.Most)) (fun w => rp_t (b := ((at_ p2 g474.toNat).Kind == 7)) rfl (by kernel_rfl) (beq_iff_eq.mpr c545) (by kernel_rfl)) fun a hr => ?_
         refine e_end (by kernel_rfl) ?_
         refine then_normal ?_
         by_cases c548 : r546 = S517.Most
         ·
          replace H := ifT c548 H
          refine cond_ff hr (bne_eq_false_iff_eq.mpr c548) ?_
          refine wp_skip ?_
          refine then_normal ?_
          replace hr := hr.fold2 [(2, .slice va2 p2.length vc2), (7, pA Bn4 0), (9, pA Bn12 0), (11, pN), (13, pN), (15, vI g474), (16, pA b477 0), (17, pN), (18, pA Bn4 0)] (by kernel_rfl); obtain ⟨j, hr⟩ := hr
          exact ⟨(), sinj H, j, hr, h⟩
         ·
          replace H := ifF c548 H
          refine cond_tt hr (bne_iff_ne.mpr c548) ?_
          refine sr ?_
          refine o1 hr (vB false) fun a hr => ?_
          refine ln ?_
          refine wp_ret ?_
          refine then_ret ?_
          refine blk_ret ?_
          refine then_ret ?_
          refine then_ret ?_
          refine blk_ret ?_
          refine then_ret ?_
          refine end_ret1 (v := vB false) rfl hr (by kernel_rfl) ?_
          replace H := jx0 H hK543
          replace H := jx2 H hK462
          replace h : Fit z (sepL (L)) _ := h.sel 7 [] (by kernel_rfl) (by kernel_rfl)
          replace H := ej1 H; subst H
          exact ⟨rfl, h⟩
        ·
         replace H := ifF c545 H
         refine reg_E (fun w => heldC w b477 1 ([vI (at_ p2 g474.toNat).Kind]) ∧ True) [0] h (by kernel_rfl) ?_; intro w h
         change wpAnyE _ _ _ _ _ _ 12 (Array.replicate 12 false) a w
         have hgo : ∀ w w', CellsGo w w' → (heldC w b477 1 ([vI (at_ p2 g474.toNat).Kind]) ∧ True) → heldC w' b477 1 ([vI (at_ p2 g474.toNat).Kind]) ∧ True := fun w w' g hD => ⟨heldC_go _ _ _ _ _ g hD.1, trivial⟩
         refine evDs hgo ⟨⟨(h.pick 6).cell 1 rfl, trivial⟩, trivial⟩ 11 0 rfl (wn rfl) hr (pA b477 1) fun a hr => ?_
         refine el [0] (b := b477) (off := 1) (cs := [vI (at_ p2 g474.toNat).Kind]) (fun _ hk => ⟨hk, fun w hD => hD.1⟩) 10 1 rfl (by kernel_rfl) (wn rfl) hr (vI (at_ p2 g474.toNat).Kind) ⟨(h.pick 6).cell 1 rfl, trivial⟩ (fun w hc => rl rfl (by kernel_rfl) (by kernel_rfl) hc.1) fun a hr => ?_
         refine evs 9 2 rfl (wn rfl) hr (vB ((at_ p2 g474.toNat).Kind == 7)) fun a hr => ?_
         refine evs 8 3 rfl (wn rfl) hr (vB ((at_ p2 g474.toNat).Kind == 7)) fun a hr => ?_
         refine eos 7 4 rfl (wgt hr (beq_eq_false_iff_ne.mpr c545)) hr fun a hr => ?_
         refine eos 6 6 rfl (wgt hr (beq_eq_false_iff_ne.mpr c545)) hr fun a hr => ?_
         refine eos 5 7 rfl (wgt hr (beq_eq_false_iff_ne.mpr c545)) hr fun a hr => ?_
         refine eos 4 8 rfl (wgt hr (beq_eq_false_iff_ne.mpr c545)) hr fun a hr => ?_
         refine eos 3 9 rfl (wgt hr (beq_eq_false_iff_ne.mpr c545)) hr fun a hr => ?_
         refine e_one (fuel := 2) (i := 5) (by kernel_rfl) rfl ?_
         refine offg (wgt hr (beq_eq_false_iff_ne.mpr c545)) hr fun a hr => ?_
         refine wpList_nil ?_; refine then_normal ?_
         refine ⟨fun hE => absurd hE (by decide), ?_⟩
         refine eos 1 10 rfl (wgt hr (beq_eq_false_iff_ne.mpr c545)) hr fun a hr => ?_
         refine ev 0 11 rfl (by kernel_rfl) (wn rfl) hr (vB false) (fun w => rp_f (b := ((at_ p2 g474.toNat).Kind == 7)) rfl (by kernel_rfl) (beq_eq_false_iff_ne.mpr c545) (by kernel_rfl)) fun a hr => ?_
         refine e_end (by kernel_rfl) ?_
         refine then_normal ?_
         refine cond_ff hr (b := false) rfl ?_
         refine wp_skip ?_
         refine then_normal ?_
         replace hr := hr.fold2 [(2, .slice va2 p2.length vc2), (7, pA Bn4 0), (9, pA Bn12 0), (11, pN), (13, pN), (15, vI g474), (16, pA b477 0), (17, pN), (18, pA Bn4 0)] (by kernel_rfl); obtain ⟨j, hr⟩ := hr
         exact ⟨(), sinj H, j, hr, h⟩
       clear h hr a; rintro _ a w ⟨rfl, j, hr, h⟩
       replace H := jk0 hK543
       refine wp_seq ?_
       by_cases c549 : (at_ p2 g474.toNat).Kind = 8
       ·
        replace H := ifT c549 H
        obtain ⟨r550, e551, H⟩ := bd1 H
        refine reg_E (fun w => heldC w b477 1 ([vI (at_ p2 g474.toNat).Kind]) ∧ heldC w Bn4 1 ([.slice ca518 S517.Held.length cc519]) ∧ True) [0, 2, 5, 7, 8] h (by kernel_rfl) ?_; intro w h
        change wpAnyE _ _ _ _ _ _ 13 (Array.replicate 13 false) a w
        have hgo : ∀ w w', CellsGo w w' → (heldC w b477 1 ([vI (at_ p2 g474.toNat).Kind]) ∧ heldC w Bn4 1 ([.slice ca518 S517.Held.length cc519]) ∧ True) → heldC w' b477 1 ([vI (at_ p2 g474.toNat).Kind]) ∧ heldC w' Bn4 1 ([.slice ca518 S517.Held.length cc519]) ∧ True := fun w w' g hD => ⟨heldC_go _ _ _ _ _ g hD.1, heldC_go _ _ _ _ _ g hD.2.1, trivial⟩
        refine evDs hgo ⟨⟨(h.pick 6).cell 1 rfl, trivial⟩, ⟨h.cell 1 rfl, trivial⟩, trivial⟩ 12 0 rfl (wn rfl) hr (pA b477 1) fun a hr => ?_
        refine el [0, 2, 5, 7, 8] (b := b477) (off := 1) (cs := [vI (at_ p2 g474.toNat).Kind]) (fun _ hk => ⟨hk, fun w hD => hD.1⟩) 11 1 rfl (by kernel_rfl) (wn rfl) hr (vI (at_ p2 g474.toNat).Kind) ⟨(h.pick 6).cell 1 rfl, trivial⟩ (fun w hc => rl rfl (by kernel_rfl) (by kernel_rfl) hc.1) fun a hr => ?_
        refine evDs hgo ⟨⟨(h.pick 6).cell 1 rfl, trivial⟩, ⟨h.cell 1 rfl, trivial⟩, trivial⟩ 10 2 rfl (wn rfl) hr (vB ((at_ p2 g474.toNat).Kind == 8)) fun a hr => ?_
        refine evs 9 3 rfl (wn rfl) hr (vB ((at_ p2 g474.toNat).Kind == 8)) fun a hr => ?_
        refine evs 8 4 rfl (wgt hr (beq_iff_eq.mpr c549)) hr (pN) fun a hr => ?_
        refine evs 7 6 rfl (wgt hr (beq_iff_eq.mpr c549)) hr (pA Bn4 0) fun a hr => ?_
        refine evDs hgo ⟨⟨(h.pick 6).cell 1 rfl, trivial⟩, ⟨h.cell 1 rfl, trivial⟩, trivial⟩ 6 7 rfl (wgt hr (beq_iff_eq.mpr c549)) hr (pA Bn4 0) fun a hr => ?_
        refine evDs hgo ⟨⟨(h.pick 6).cell 1 rfl, trivial⟩, ⟨h.cell 1 rfl, trivial⟩, trivial⟩ 5 8 rfl (wgt hr (beq_iff_eq.mpr c549)) hr (pA Bn4 1) fun a hr => ?_
        refine el [0, 2, 5, 7, 8] (b := Bn4) (off := 1) (cs := [.slice ca518 S517.Held.length cc519]) (fun _ hk => ⟨hk, fun w hD => hD.2.1⟩) 4 9 rfl (by kernel_rfl) (wgt hr (beq_iff_eq.mpr c549)) hr (.slice ca518 S517.Held.length cc519) ⟨h.cell 1 rfl, trivial⟩ (fun w hc => rl rfl (by kernel_rfl) (by kernel_rfl) hc.1) fun a hr => ?_
        refine evs 3 10 rfl (wgt hr (beq_iff_eq.mpr c549)) hr (vI ((S517.Held.length : Nat) : Int)) fun a hr => ?_
        refine e_one (fuel := 2) (i := 5) (by kernel_rfl) rfl ?_
        have hc := cells_Shared_Mark_nil_ok (H := e551) (h := h)
        refine cl (wgt hr (beq_iff_eq.mpr c549)) hr hc ?_; clear hc h
        rintro _ w ⟨rfl, h⟩; refine ⟨_, rfl, fun a hr => ?_⟩
        refine wpList_nil ?_; refine then_normal ?_
        refine ⟨fun _ => ⟨⟨(h.pick 6).cell 1 rfl, trivial⟩, ⟨h.cell 1 rfl, trivial⟩, trivial⟩, ?_⟩
        refine evs 1 11 rfl (wgt hr (beq_iff_eq.mpr c549)) hr (vB (r550 != ((S517.Held.length : Nat) : Int))) fun a hr => ?_
        refine ev 0 12 rfl (by kernel_rfl) (wn rfl) hr (vB (r550 != ((S517.Held.length : Nat) : Int))) (fun w => rp_t (b := ((at_ p2 g474.toNat).Kind == 8)) rfl (by kernel_rfl) (beq_iff_eq.mpr c549) (by kernel_rfl)) fun a hr => ?_
        refine e_end (by kernel_rfl) ?_
        refine then_normal ?_
        by_cases c552 : r550 = ((S517.Held.length : Nat) : Int)
        ·
         replace H := ifT c552 H
         refine cond_ff hr (bne_eq_false_iff_eq.mpr c552) ?_
         refine wp_skip ?_
         refine blk_normal ?_
         refine then_normal ?_
         refine wp_region_lit ?_
         refine oo [67, 68, 15] [vI g474, vI (wi (g474 + 1)), vI (wi (g474 + 1))] hr fun a hr => ?_
         refine ln ?_
         replace hr := hr.fold2 [(2, .slice va2 p2.length vc2), (7, pA Bn4 0), (9, pA Bn12 0), (11, pN), (13, pN), (15, vI (wi (g474 + 1)))] (by kernel_rfl); obtain ⟨j, hr⟩ := hr
         replace h : Fit z (sepL (ob62 Bn4 S517 ca518 cc519 ca520 cc521 :: ro2 ca518 cc519 S517.Held :: ro90 ca520 cc521 S517.Book :: ob62 Bn12 S469 ca470 cc471 ca472 cc473 :: ro2 ca470 cc471 S469.Held :: ro90 ca472 cc473 S469.Book :: L)) _ := h.sel 7 [0, 1, 2, 3, 4, 5] (by kernel_rfl) (by kernel_rfl)
         exact ⟨_, ⟨ca518, cc519, ca520, cc521, ca470, cc471, ca472, cc473, S517, S469, (wi (g474 + 1)), H, j, hr, h⟩, Nat.lt_succ_self _⟩
        ·
         replace H := ifF c552 H
         refine cond_tt hr (bne_iff_ne.mpr c552) ?_
         refine sr ?_
         refine o1 hr (vB false) fun a hr => ?_
         refine ln ?_
         refine wp_ret ?_
         refine blk_ret ?_
         refine then_ret ?_
         refine then_ret ?_
         refine blk_ret ?_
         refine then_ret ?_
         refine end_ret1 (v := vB false) rfl hr (by kernel_rfl) ?_
         replace H := jx2 H hK462
         replace h : Fit z (sepL (L)) _ := h.sel 7 [] (by kernel_rfl) (by kernel_rfl)
         replace H := ej1 H; subst H
         exact ⟨rfl, h⟩
       ·
        replace H := ifF c549 H
        refine reg_E (fun w => heldC w b477 1 ([vI (at_ p2 g474.toNat).Kind]) ∧ True) [0] h (by kernel_rfl) ?_; intro w h
        change wpAnyE _ _ _ _ _ _ 13 (Array.replicate 13 false) a w
        have hgo : ∀ w w', CellsGo w w' → (heldC w b477 1 ([vI (at_ p2 g474.toNat).Kind]) ∧ True) → heldC w' b477 1 ([vI (at_ p2 g474.toNat).Kind]) ∧ True := fun w w' g hD => ⟨heldC_go _ _ _ _ _ g hD.1, trivial⟩
        refine evDs hgo ⟨⟨(h.pick 6).cell 1 rfl, trivial⟩, trivial⟩ 12 0 rfl (wn rfl) hr (pA b477 1) fun a hr => ?_
        refine el [0] (b := b477) (off := 1) (cs := [vI (at_ p2 g474.toNat).Kind]) (fun _ hk => ⟨hk, fun w hD => hD.1⟩) 11 1 rfl (by kernel_rfl) (wn rfl) hr (vI (at_ p2 g474.toNat).Kind) ⟨(h.pick 6).cell 1 rfl, trivial⟩ (fun w hc => rl rfl (by kernel_rfl) (by kernel_rfl) hc.1) fun a hr => ?_
        refine evs 10 2 rfl (wn rfl) hr (vB ((at_ p2 g474.toNat).Kind == 8)) fun a hr => ?_
        refine evs 9 3 rfl (wn rfl) hr (vB ((at_ p2 g474.toNat).Kind == 8)) fun a hr => ?_
        refine eos 8 4 rfl (wgt hr (beq_eq_false_iff_ne.mpr c549)) hr fun a hr => ?_
        refine eos 7 6 rfl (wgt hr (beq_eq_false_iff_ne.mpr c549)) hr fun a hr => ?_
        refine eos 6 7 rfl (wgt hr (beq_eq_false_iff_ne.mpr c549)) hr fun a hr => ?_
        refine eos 5 8 rfl (wgt hr (beq_eq_false_iff_ne.mpr c549)) hr fun a hr => ?_
        refine eos 4 9 rfl (wgt hr (beq_eq_false_iff_ne.mpr c549)) hr fun a hr => ?_
        refine eos 3 10 rfl (wgt hr (beq_eq_false_iff_ne.mpr c549)) hr fun a hr => ?_
        refine e_one (fuel := 2) (i := 5) (by kernel_rfl) rfl ?_
        refine offg (wgt hr (beq_eq_false_iff_ne.mpr c549)) hr fun a hr => ?_
        refine wpList_nil ?_; refine then_normal ?_
        refine ⟨fun hE => absurd hE (by decide), ?_⟩
        refine eos 1 11 rfl (wgt hr (beq_eq_false_iff_ne.mpr c549)) hr fun a hr => ?_
        refine ev 0 12 rfl (by kernel_rfl) (wn rfl) hr (vB false) (fun w => rp_f (b := ((at_ p2 g474.toNat).Kind == 8)) rfl (by kernel_rfl) (beq_eq_false_iff_ne.mpr c549) (by kernel_rfl)) fun a hr => ?_
        refine e_end (by kernel_rfl) ?_
        refine then_normal ?_
        refine cond_ff hr (b := false) rfl ?_
        refine wp_skip ?_
        refine blk_normal ?_
        refine then_normal ?_
        refine wp_region_lit ?_
        refine oo [67, 68, 15] [vI g474, vI (wi (g474 + 1)), vI (wi (g474 + 1))] hr fun a hr => ?_
        refine ln ?_
        replace hr := hr.fold2 [(2, .slice va2 p2.length vc2), (7, pA Bn4 0), (9, pA Bn12 0), (11, pN), (13, pN), (15, vI (wi (g474 + 1)))] (by kernel_rfl); obtain ⟨j, hr⟩ := hr
        replace h : Fit z (sepL (ob62 Bn4 S517 ca518 cc519 ca520 cc521 :: ro2 ca518 cc519 S517.Held :: ro90 ca520 cc521 S517.Book :: ob62 Bn12 S469 ca470 cc471 ca472 cc473 :: ro2 ca470 cc471 S469.Held :: ro90 ca472 cc473 S469.Book :: L)) _ := h.sel 7 [0, 1, 2, 3, 4, 5] (by kernel_rfl) (by kernel_rfl)
        exact ⟨_, ⟨ca518, cc519, ca520, cc521, ca470, cc471, ca472, cc473, S517, S469, (wi (g474 + 1)), H, j, hr, h⟩, Nat.lt_succ_self _⟩
     ·
      replace H := ifF c475 H
      refine cond_ff hr (decide_eq_false c475) ?_
      refine wp_exit ?_
      refine then_exit ?_
      refine then_exit ?_
      refine blk_here ?_
      refine then_normal ?_
      replace hr := hr.fold2 [(7, pA Bn4 0), (9, pA Bn12 0), (11, pN), (13, pN)] (by kernel_rfl); obtain ⟨j, hr⟩ := hr
      exact ⟨(), ca465, cc466, ca467, cc468, ca470, cc471, ca472, cc473, S464, S469, sinj H, j, hr, h⟩
   clear h hr a; rintro _ a w ⟨ca453, cc454, ca455, cc456, ca458, cc459, ca460, cc461, S452, S457, rfl, j, hr, h⟩
   replace H := jk2 hK462
   refine sr ?_
   refine oo [124, 125, 126, 127] [pN, pA Bn4 0, pA Bn4 0, pA Bn4 1] hr fun a hr => ?_
   refine ld (wn rfl) hr (.slice ca453 S452.Held.length cc454) (h.cell 1 rfl) fun a hr => ?_
   obtain ⟨r553, e554, H⟩ := bd1 H
   have hc := plunderlaw2_holds_nil_ok (va1 := ca453) (vc1 := cc454) (hv1 := (RdRow.of_row encZ_i64_ok (h.pick 1) (fun h => (h.pick 1)))) (H := e554) (h := h)
   refine cl (wn rfl) hr hc ?_; clear hc h
   rintro _ w ⟨rfl, h⟩; refine ⟨_, rfl, fun a hr => ?_⟩
   refine o1 hr (vB r553) fun a hr => ?_
   by_cases c555 : r553 = true
   ·
    replace H := ifT c555 H
    refine opv (wgt hr (c555)) hr (pN) (by kernel_rfl) fun a hr => ?_
    refine opv (wgt hr (c555)) hr (pA Bn12 0) (by kernel_rfl) fun a hr => ?_
    refine opv (wgt hr (c555)) hr (pA Bn12 0) (by kernel_rfl) fun a hr => ?_
    refine opv (wgt hr (c555)) hr (pA Bn12 1) (by kernel_rfl) fun a hr => ?_
    refine ld (wgt hr (c555)) hr (.slice ca458 S457.Held.length cc459) ((h.pick 3).cell 1 rfl) fun a hr => ?_
    obtain ⟨r556, e557, H⟩ := bd1 H
    have hc := plunderlaw2_holds_nil_ok (va1 := ca458) (vc1 := cc459) (hv1 := (RdRow.of_row encZ_i64_ok (h.pick 4) (fun h => (h.pick 4)))) (H := e557) (h := h)
    refine cl (wgt hr (c555)) hr hc ?_; clear hc h
    rintro _ w ⟨rfl, h⟩; refine ⟨_, rfl, fun a hr => ?_⟩
    refine opv (wn rfl) hr (vB r556) (rp_t (b := r553) rfl (by kernel_rfl) (c555) (by kernel_rfl)) fun a hr => ?_
    refine o1 hr (vB r556) fun a hr => ?_
    refine ln ?_
    refine wp_ret ?_
    refine end_ret1 (v := vB r556) rfl hr (by kernel_rfl) ?_
    replace h : Fit z (sepL (L)) _ := h.sel 6 [] (by kernel_rfl) (by kernel_rfl)
    replace H := ej1 H; subst H
    exact ⟨rfl, h⟩
   ·
    replace H := ifF c555 H
    refine offg (wgt hr (bF c555)) hr fun a hr => ?_
    refine offg (wgt hr (bF c555)) hr fun a hr => ?_
    refine offg (wgt hr (bF c555)) hr fun a hr => ?_
    refine offg (wgt hr (bF c555)) hr fun a hr => ?_
    refine offg (wgt hr (bF c555)) hr fun a hr => ?_
    refine offg (wgt hr (bF c555)) hr fun a hr => ?_
    refine opv (wn rfl) hr (vB false) (rp_f (b := r553) rfl (by kernel_rfl) (bF c555) (by kernel_rfl)) fun a hr => ?_
    refine o1 hr (vB false) fun a hr => ?_
    refine ln ?_
    refine wp_ret ?_
    refine end_ret1 (v := vB false) rfl hr (by kernel_rfl) ?_
    replace h : Fit z (sepL (L)) _ := h.sel 6 [] (by kernel_rfl) (by kernel_rfl)
    replace H := ej1 H; subst H
    exact ⟨rfl, h⟩


end Go.Proofs.Ytacgigkonoegiaa.Mo
