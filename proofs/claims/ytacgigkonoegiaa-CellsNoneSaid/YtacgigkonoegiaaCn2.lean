/- what the functions compute, as plain Lean functions, and that they do -/
import Derived.Test.YtacgigkonoegiaaCn1
namespace Go.Proofs.Ytacgigkonoegiaa.Mo
open Go Go.RowKit Go.Proofs.Ytacgigkonoegiaa.SL Go.Proofs.Ytacgigkonoegiaa.GX
set_option linter.unusedVariables false
set_option linter.unusedSimpArgs false

/-- plunder/plunderlaw2.none -/
def plunderlaw2_none (p0 : T_cells_Arena) : Option (Bool × T_cells_Arena) :=
  ob1 (cells_Arena_Watch p0 true) (fun S5 => ob1 (cells_Arena_Who S5 3) (fun S11 => ob3 (cells_Arena_Load S11 0) (fun r17 r18 S19 => ob2 (cells_Arena_Store S19 0 1) (fun r25 S26 => ob3 (cells_Arena_CAS S26 0 0 1) (fun r32 r33 S34 => ob3 (cells_Arena_Add S34 0 1) (fun r40 r41 S42 => ob3 (cells_Arena_Reserve S42 1) (fun r48 r49 S50 => ob3 (cells_Arena_Reserve S50 0) (fun r56 r57 S58 => jn0 ((if r17 = (0 : Int) then (if r32 = true then some (.inr (false, S58)) else (if r40 = (0 : Int) then (if r48 = (0 : Int) then (if r56 = (0 : Int) then (if r18 = (20 : Int) then (if r25 = (20 : Int) then (if r33 = (20 : Int) then (if r41 = (20 : Int) then (if r49 = (22 : Int) then (if r57 = (21 : Int) then some (.inl ()) else some (.inr (false, S58))) else some (.inr (false, S58))) else some (.inr (false, S58))) else some (.inr (false, S58))) else some (.inr (false, S58))) else some (.inr (false, S58))) else some (.inr (false, S58))) else some (.inr (false, S58))) else some (.inr (false, S58)))) else some (.inr (false, S58)))) (ob1 (cells_Arena_Size S58) (fun r77 => (if r77 = (0 : Int) then ob1 (cells_Arena_Mark S58) (fun r80 => (if r80 = (0 : Int) then ob1 (cells_Arena_Cells S58) (fun r83 => (if ((r83.length : Nat) : Int) = (0 : Int) then ob1 (cells_Arena_Log S58) (fun r87 => some (((r87.length : Nat) : Int) == (0 : Int), S58)) else some (false, S58))) else some (false, S58))) else some (false, S58))))))))))))
set_option maxRecDepth 100000 in
set_option maxHeartbeats 4000000 in
theorem plunderlaw2_none_ok {z w : World} {L : List HProp} {p0 : T_cells_Arena} {B0 : Nat} {ca1 : Option Addr} {cc2 : Nat} {ca3 : Option Addr} {cc4 : Nat} {r0 : Bool} {q0 : T_cells_Arena} (H : plunderlaw2_none p0 = some (r0, q0)) (h : Fit z (sepL (ob96 B0 p0 ca1 cc2 ca3 cc4 :: ro2 ca1 cc2 p0.cell :: ro90 ca3 cc4 p0.log :: L)) w)  :
    Calls Try.prog 48 #[pA B0 0] w fun e w => ∃ caq0_1 : Option Addr, ∃ ccq0_2 : Nat, ∃ caq0_3 : Option Addr, ∃ ccq0_4 : Nat, e = .returned (vB r0) ∧ Fit z (sepL (ob96 B0 q0 caq0_1 ccq0_2 caq0_3 ccq0_4 :: ro2 caq0_1 ccq0_2 q0.cell :: ro90 caq0_3 ccq0_4 q0.log :: L)) w := by
 unfold plunderlaw2_none at H
 refine enter Try.func48 rfl 106 rfl rfl [(0, pA B0 0)] ⟨rfl, trivial⟩ ?_
 intro j a hr
 refine sr ?_
 refine ov hr (vB false) (by kernel_rfl) ?_; clear hr a; intro a hr
 refine ln ?_
 refine sr ?_
 replace H := bd1 H; obtain ⟨S5, e6, H⟩ := H
 refine ov hr (pA B0 0) (by kernel_rfl) ?_; clear hr a; intro a hr
 have hc := cells_Arena_Watch_ok (H := e6) (h := h)
 refine op_call (wn rfl) rfl rfl hr (f := 88) (args := #[pA B0 0, vB true]) (by kernel_rfl) hc ?_; clear hc h
 rintro _ w ⟨caq7, ccq8, caq9, ccq10, rfl, h⟩; refine ⟨_, rfl, ?_⟩
 clear hr a; intro a hr
 refine ln ?_
 refine sr ?_
 replace H := bd1 H; obtain ⟨S11, e12, H⟩ := H
 refine ov hr (pA B0 0) (by kernel_rfl) ?_; clear hr a; intro a hr
 have hc := cells_Arena_Who_ok (H := e12) (h := h)
 refine op_call (wn rfl) rfl rfl hr (f := 96) (args := #[pA B0 0, vI 3]) (by kernel_rfl) hc ?_; clear hc h
 rintro _ w ⟨caq13, ccq14, caq15, ccq16, rfl, h⟩; refine ⟨_, rfl, ?_⟩
 clear hr a; intro a hr
 refine ln ?_
 refine sr ?_
 replace H := bd3 H; obtain ⟨r17, r18, S19, e20, H⟩ := H
 refine ov hr (pA B0 0) (by kernel_rfl) ?_; clear hr a; intro a hr
 have hc := cells_Arena_Load_ok (H := e20) (h := h)
 refine op_call (wn rfl) rfl rfl hr (f := 66) (args := #[pA B0 0, vI 0]) (by kernel_rfl) hc ?_; clear hc h
 rintro _ w ⟨caq21, ccq22, caq23, ccq24, rfl, h⟩; refine ⟨_, rfl, ?_⟩
 clear hr a; intro a hr
 refine ovs [18, 21, 22, 3, 4] [.tuple #[vI r17, vI r18], vI r17, vI r18, vI r17, vI r18] hr ⟨rfl, rfl⟩ (by kernel_rfl) ?_; clear hr a; intro a hr
 refine ln ?_
 refine sr ?_
 replace H := bd2 H; obtain ⟨r25, S26, e27, H⟩ := H
 refine ov hr (pA B0 0) (by kernel_rfl) ?_; clear hr a; intro a hr
 have hc := cells_Arena_Store_ok (H := e27) (h := h)
 refine op_call (wn rfl) rfl rfl hr (f := 21) (args := #[pA B0 0, vI 0, vI 1]) (by kernel_rfl) hc ?_; clear hc h
 rintro _ w ⟨caq28, ccq29, caq30, ccq31, rfl, h⟩; refine ⟨_, rfl, ?_⟩
 clear hr a; intro a hr
 refine ov hr (vI r25) (by kernel_rfl) ?_; clear hr a; intro a hr
 refine ln ?_
 refine sr ?_
 replace H := bd3 H; obtain ⟨r32, r33, S34, e35, H⟩ := H
 refine ov hr (pA B0 0) (by kernel_rfl) ?_; clear hr a; intro a hr
 have hc := cells_Arena_CAS_ok (H := e35) (h := h)
 refine op_call (wn rfl) rfl rfl hr (f := 67) (args := #[pA B0 0, vI 0, vI 0, vI 1]) (by kernel_rfl) hc ?_; clear hc h
 rintro _ w ⟨caq36, ccq37, caq38, ccq39, rfl, h⟩; refine ⟨_, rfl, ?_⟩
 clear hr a; intro a hr
 refine ovs [25, 28, 29, 6, 7] [.tuple #[vB r32, vI r33], vB r32, vI r33, vB r32, vI r33] hr ⟨rfl, rfl⟩ (by kernel_rfl) ?_; clear hr a; intro a hr
 refine ln ?_
 refine sr ?_
 replace H := bd3 H; obtain ⟨r40, r41, S42, e43, H⟩ := H
 refine ov hr (pA B0 0) (by kernel_rfl) ?_; clear hr a; intro a hr
 have hc := cells_Arena_Add_ok (H := e43) (h := h)
 refine op_call (wn rfl) rfl rfl hr (f := 68) (args := #[pA B0 0, vI 0, vI 1]) (by kernel_rfl) hc ?_; clear hc h
 rintro _ w ⟨caq44, ccq45, caq46, ccq47, rfl, h⟩; refine ⟨_, rfl, ?_⟩
 clear hr a; intro a hr
 refine ovs [30, 33, 34, 8, 9] [.tuple #[vI r40, vI r41], vI r40, vI r41, vI r40, vI r41] hr ⟨rfl, rfl⟩ (by kernel_rfl) ?_; clear hr a; intro a hr
 refine ln ?_
 refine sr ?_
 replace H := bd3 H; obtain ⟨r48, r49, S50, e51, H⟩ := H
 refine ov hr (pA B0 0) (by kernel_rfl) ?_; clear hr a; intro a hr
 have hc := cells_Arena_Reserve_ok (H := e51) (h := h)
 refine op_call (wn rfl) rfl rfl hr (f := 20) (args := #[pA B0 0, vI 1]) (by kernel_rfl) hc ?_; clear hc h
 rintro _ w ⟨caq52, ccq53, caq54, ccq55, rfl, h⟩; refine ⟨_, rfl, ?_⟩
 clear hr a; intro a hr
 refine ovs [35, 38, 39, 10, 11] [.tuple #[vI r48, vI r49], vI r48, vI r49, vI r48, vI r49] hr ⟨rfl, rfl⟩ (by kernel_rfl) ?_; clear hr a; intro a hr
 refine ln ?_
 refine sr ?_
 replace H := bd3 H; obtain ⟨r56, r57, S58, e59, H⟩ := H
 refine ov hr (pA B0 0) (by kernel_rfl) ?_; clear hr a; intro a hr
 have hc := cells_Arena_Reserve_ok (H := e59) (h := h)
 refine op_call (wn rfl) rfl rfl hr (f := 20) (args := #[pA B0 0, vI 0]) (by kernel_rfl) hc ?_; clear hc h
 rintro _ w ⟨caq60, ccq61, caq62, ccq63, rfl, h⟩; refine ⟨_, rfl, ?_⟩
 clear hr a; intro a hr
 refine ovs [40, 43, 44, 12, 13] [.tuple #[vI r56, vI r57], vI r56, vI r57, vI r56, vI r57] hr ⟨rfl, rfl⟩ (by kernel_rfl) ?_; clear hr a; intro a hr
 refine ln ?_
 replace H := jd0 H; obtain ⟨o65, H, hK64⟩ := H
 refine cut_rule (β := Unit) (fun _ a w => .inl () = o65 ∧ ∃ j, Rep 106 (lk [(0, pA B0 0)] j) a ∧ Fit z (sepL (ob96 B0 S58 caq60 ccq61 caq62 ccq63 :: ro2 caq60 ccq61 S58.cell :: ro90 caq62 ccq63 S58.log :: L)) w) ?_ ?_
 ·
  refine sr ?_
  refine ovs [45, 46, 47] [vI r17, vB (r17 != (0 : Int)), vB (r17 != (0 : Int))] hr ⟨rfl, rfl⟩ (by kernel_rfl) ?_; clear hr a; intro a hr
  by_cases c66 : r17 = (0 : Int)
  ·
   replace H := ifT c66 H
   refine opv (wgt hr (bne_eq_false_iff_eq.mpr c66)) hr (vB r32) (by kernel_rfl) ?_; clear hr a; intro a hr
   refine opv (wn rfl) hr (vB r32) (rp_f (b := (r17 != (0 : Int))) rfl (by kernel_rfl) (bne_eq_false_iff_eq.mpr c66) (by kernel_rfl)) ?_; clear hr a; intro a hr
   refine ov hr (vB r32) (by kernel_rfl) ?_; clear hr a; intro a hr
   by_cases c67 : r32 = true
   ·
    replace H := ifT c67 H
    refine offg (wgt hr (c67)) hr ?_; clear hr a; intro a hr
    refine offg (wgt hr (c67)) hr ?_; clear hr a; intro a hr
    refine opv (wn rfl) hr (vB true) (rp_t (b := r32) rfl (by kernel_rfl) (c67) (by kernel_rfl)) ?_; clear hr a; intro a hr
    refine ov hr (vB true) (by kernel_rfl) ?_; clear hr a; intro a hr
    refine offg (wgt hr (c := true) rfl) hr ?_; clear hr a; intro a hr
    refine offg (wgt hr (c := true) rfl) hr ?_; clear hr a; intro a hr
    refine ovs [57, 58] [vB true, vB true] hr ⟨rfl, rfl⟩ (by kernel_rfl) ?_; clear hr a; intro a hr
    refine offg (wgt hr (c := true) rfl) hr ?_; clear hr a; intro a hr
    refine offg (wgt hr (c := true) rfl) hr ?_; clear hr a; intro a hr
    refine ovs [61, 62] [vB true, vB true] hr ⟨rfl, rfl⟩ (by kernel_rfl) ?_; clear hr a; intro a hr
    refine offg (wgt hr (c := true) rfl) hr ?_; clear hr a; intro a hr
    refine offg (wgt hr (c := true) rfl) hr ?_; clear hr a; intro a hr
    refine ovs [65, 66] [vB true, vB true] hr ⟨rfl, rfl⟩ (by kernel_rfl) ?_; clear hr a; intro a hr
    refine offg (wgt hr (c := true) rfl) hr ?_; clear hr a; intro a hr
    refine offg (wgt hr (c := true) rfl) hr ?_; clear hr a; intro a hr
    refine ovs [69, 70] [vB true, vB true] hr ⟨rfl, rfl⟩ (by kernel_rfl) ?_; clear hr a; intro a hr
    refine offg (wgt hr (c := true) rfl) hr ?_; clear hr a; intro a hr
    refine offg (wgt hr (c := true) rfl) hr ?_; clear hr a; intro a hr
    refine ovs [73, 74] [vB true, vB true] hr ⟨rfl, rfl⟩ (by kernel_rfl) ?_; clear hr a; intro a hr
    refine offg (wgt hr (c := true) rfl) hr ?_; clear hr a; intro a hr
    refine offg (wgt hr (c := true) rfl) hr ?_; clear hr a; intro a hr
    refine ovs [77, 78] [vB true, vB true] hr ⟨rfl, rfl⟩ (by kernel_rfl) ?_; clear hr a; intro a hr
    refine offg (wgt hr (c := true) rfl) hr ?_; clear hr a; intro a hr
    refine offg (wgt hr (c := true) rfl) hr ?_; clear hr a; intro a hr
    refine ovs [81, 82] [vB true, vB true] hr ⟨rfl, rfl⟩ (by kernel_rfl) ?_; clear hr a; intro a hr
    refine offg (wgt hr (c := true) rfl) hr ?_; clear hr a; intro a hr
    refine offg (wgt hr (c := true) rfl) hr ?_; clear hr a; intro a hr
    refine ov hr (vB true) (by kernel_rfl) ?_; clear hr a; intro a hr
    refine ln ?_
    refine cond_tt hr (b := true) rfl ?_
    refine sr ?_
    refine ov hr (vB false) (by kernel_rfl) ?_; clear hr a; intro a hr
    refine ln ?_
    refine wp_ret ?_
    refine then_ret ?_
    refine end_ret1 (v := vB false) rfl hr (by kernel_rfl) ?_
    replace H := jx0 H hK64
    replace H := ej2 H; obtain ⟨rfl, rfl⟩ := H
    exact ⟨caq60, ccq61, caq62, ccq63, rfl, h⟩
   ·
    replace H := ifF c67 H
    refine opv (wgt hr (bF c67)) hr (vI r40) (by kernel_rfl) ?_; clear hr a; intro a hr
    refine opv (wgt hr (bF c67)) hr (vB (r40 != (0 : Int))) (by kernel_rfl) ?_; clear hr a; intro a hr
    refine opv (wn rfl) hr (vB (r40 != (0 : Int))) (rp_f (b := r32) rfl (by kernel_rfl) (bF c67) (by kernel_rfl)) ?_; clear hr a; intro a hr
    refine ov hr (vB (r40 != (0 : Int))) (by kernel_rfl) ?_; clear hr a; intro a hr
    by_cases c68 : r40 = (0 : Int)
    ·
     replace H := ifT c68 H
     refine opv (wgt hr (bne_eq_false_iff_eq.mpr c68)) hr (vI r48) (by kernel_rfl) ?_; clear hr a; intro a hr
     refine opv (wgt hr (bne_eq_false_iff_eq.mpr c68)) hr (vB (r48 != (0 : Int))) (by kernel_rfl) ?_; clear hr a; intro a hr
     refine opv (wn rfl) hr (vB (r48 != (0 : Int))) (rp_f (b := (r40 != (0 : Int))) rfl (by kernel_rfl) (bne_eq_false_iff_eq.mpr c68) (by kernel_rfl)) ?_; clear hr a; intro a hr
     refine ov hr (vB (r48 != (0 : Int))) (by kernel_rfl) ?_; clear hr a; intro a hr
     by_cases c69 : r48 = (0 : Int)
     ·
      replace H := ifT c69 H
      refine opv (wgt hr (bne_eq_false_iff_eq.mpr c69)) hr (vI r56) (by kernel_rfl) ?_; clear hr a; intro a hr
      refine opv (wgt hr (bne_eq_false_iff_eq.mpr c69)) hr (vB (r56 != (0 : Int))) (by kernel_rfl) ?_; clear hr a; intro a hr
      refine opv (wn rfl) hr (vB (r56 != (0 : Int))) (rp_f (b := (r48 != (0 : Int))) rfl (by kernel_rfl) (bne_eq_false_iff_eq.mpr c69) (by kernel_rfl)) ?_; clear hr a; intro a hr
      refine ov hr (vB (r56 != (0 : Int))) (by kernel_rfl) ?_; clear hr a; intro a hr
      by_cases c70 : r56 = (0 : Int)
      ·
       replace H := ifT c70 H
       refine opv (wgt hr (bne_eq_false_iff_eq.mpr c70)) hr (vI r18) (by kernel_rfl) ?_; clear hr a; intro a hr
       refine opv (wgt hr (bne_eq_false_iff_eq.mpr c70)) hr (vB (r18 != (20 : Int))) (by kernel_rfl) ?_; clear hr a; intro a hr
       refine opv (wn rfl) hr (vB (r18 != (20 : Int))) (rp_f (b := (r56 != (0 : Int))) rfl (by kernel_rfl) (bne_eq_false_iff_eq.mpr c70) (by kernel_rfl)) ?_; clear hr a; intro a hr
       refine ov hr (vB (r18 != (20 : Int))) (by kernel_rfl) ?_; clear hr a; intro a hr
       by_cases c71 : r18 = (20 : Int)
       ·
        replace H := ifT c71 H
        refine opv (wgt hr (bne_eq_false_iff_eq.mpr c71)) hr (vI r25) (by kernel_rfl) ?_; clear hr a; intro a hr
        refine opv (wgt hr (bne_eq_false_iff_eq.mpr c71)) hr (vB (r25 != (20 : Int))) (by kernel_rfl) ?_; clear hr a; intro a hr
        refine opv (wn rfl) hr (vB (r25 != (20 : Int))) (rp_f (b := (r18 != (20 : Int))) rfl (by kernel_rfl) (bne_eq_false_iff_eq.mpr c71) (by kernel_rfl)) ?_; clear hr a; intro a hr
        refine ov hr (vB (r25 != (20 : Int))) (by kernel_rfl) ?_; clear hr a; intro a hr
        by_cases c72 : r25 = (20 : Int)
        ·
         replace H := ifT c72 H
         refine opv (wgt hr (bne_eq_false_iff_eq.mpr c72)) hr (vI r33) (by kernel_rfl) ?_; clear hr a; intro a hr
         refine opv (wgt hr (bne_eq_false_iff_eq.mpr c72)) hr (vB (r33 != (20 : Int))) (by kernel_rfl) ?_; clear hr a; intro a hr
         refine opv (wn rfl) hr (vB (r33 != (20 : Int))) (rp_f (b := (r25 != (20 : Int))) rfl (by kernel_rfl) (bne_eq_false_iff_eq.mpr c72) (by kernel_rfl)) ?_; clear hr a; intro a hr
         refine ov hr (vB (r33 != (20 : Int))) (by kernel_rfl) ?_; clear hr a; intro a hr
         by_cases c73 : r33 = (20 : Int)
         ·
          replace H := ifT c73 H
          refine opv (wgt hr (bne_eq_false_iff_eq.mpr c73)) hr (vI r41) (by kernel_rfl) ?_; clear hr a; intro a hr
          refine opv (wgt hr (bne_eq_false_iff_eq.mpr c73)) hr (vB (r41 != (20 : Int))) (by kernel_rfl) ?_; clear hr a; intro a hr
          refine opv (wn rfl) hr (vB (r41 != (20 : Int))) (rp_f (b := (r33 != (20 : Int))) rfl (by kernel_rfl) (bne_eq_false_iff_eq.mpr c73) (by kernel_rfl)) ?_; clear hr a; intro a hr
          refine ov hr (vB (r41 != (20 : Int))) (by kernel_rfl) ?_; clear hr a; intro a hr
          by_cases c74 : r41 = (20 : Int)
          ·
           replace H := ifT c74 H
           refine opv (wgt hr (bne_eq_false_iff_eq.mpr c74)) hr (vI r49) (by kernel_rfl) ?_; clear hr a; intro a hr
           refine opv (wgt hr (bne_eq_false_iff_eq.mpr c74)) hr (vB (r49 != (22 : Int))) (by kernel_rfl) ?_; clear hr a; intro a hr
           refine opv (wn rfl) hr (vB (r49 != (22 : Int))) (rp_f (b := (r41 != (20 : Int))) rfl (by kernel_rfl) (bne_eq_false_iff_eq.mpr c74) (by kernel_rfl)) ?_; clear hr a; intro a hr
           refine ov hr (vB (r49 != (22 : Int))) (by kernel_rfl) ?_; clear hr a; intro a hr
           by_cases c75 : r49 = (22 : Int)
           ·
            replace H := ifT c75 H
            refine opv (wgt hr (bne_eq_false_iff_eq.mpr c75)) hr (vI r57) (by kernel_rfl) ?_; clear hr a; intro a hr
            refine opv (wgt hr (bne_eq_false_iff_eq.mpr c75)) hr (vB (r57 != (21 : Int))) (by kernel_rfl) ?_; clear hr a; intro a hr
            refine opv (wn rfl) hr (vB (r57 != (21 : Int))) (rp_f (b := (r49 != (22 : Int))) rfl (by kernel_rfl) (bne_eq_false_iff_eq.mpr c75) (by kernel_rfl)) ?_; clear hr a; intro a hr
            refine ln ?_
            by_cases c76 : r57 = (21 : Int)
            ·
             replace H := ifT c76 H
             refine cond_ff hr (b := (r57 != (21 : Int))) (bne_eq_false_iff_eq.mpr c76) ?_
             refine wp_skip ?_
             refine then_normal ?_
             replace hr := hr.fold2 [(0, pA B0 0)] (by kernel_rfl); obtain ⟨j, hr⟩ := hr
             exact ⟨(), sinj H, j, hr, h⟩
            ·
             replace H := ifF c76 H
             refine cond_tt hr (b := (r57 != (21 : Int))) (bne_iff_ne.mpr c76) ?_
             refine sr ?_
             refine ov hr (vB false) (by kernel_rfl) ?_; clear hr a; intro a hr
             refine ln ?_
             refine wp_ret ?_
             refine then_ret ?_
             refine end_ret1 (v := vB false) rfl hr (by kernel_rfl) ?_
             replace H := jx0 H hK64
             replace H := ej2 H; obtain ⟨rfl, rfl⟩ := H
             exact ⟨caq60, ccq61, caq62, ccq63, rfl, h⟩
           ·
            replace H := ifF c75 H
            refine offg (wgt hr (bne_iff_ne.mpr c75)) hr ?_; clear hr a; intro a hr
            refine offg (wgt hr (bne_iff_ne.mpr c75)) hr ?_; clear hr a; intro a hr
            refine opv (wn rfl) hr (vB true) (rp_t (b := (r49 != (22 : Int))) rfl (by kernel_rfl) (bne_iff_ne.mpr c75) (by kernel_rfl)) ?_; clear hr a; intro a hr
            refine ln ?_
            refine cond_tt hr (b := true) rfl ?_
            refine sr ?_
            refine ov hr (vB false) (by kernel_rfl) ?_; clear hr a; intro a hr
            refine ln ?_
            refine wp_ret ?_
            refine then_ret ?_
            refine end_ret1 (v := vB false) rfl hr (by kernel_rfl) ?_
            replace H := jx0 H hK64
            replace H := ej2 H; obtain ⟨rfl, rfl⟩ := H
            exact ⟨caq60, ccq61, caq62, ccq63, rfl, h⟩
          ·
           replace H := ifF c74 H
           refine offg (wgt hr (bne_iff_ne.mpr c74)) hr ?_; clear hr a; intro a hr
           refine offg (wgt hr (bne_iff_ne.mpr c74)) hr ?_; clear hr a; intro a hr
           refine opv (wn rfl) hr (vB true) (rp_t (b := (r41 != (20 : Int))) rfl (by kernel_rfl) (bne_iff_ne.mpr c74) (by kernel_rfl)) ?_; clear hr a; intro a hr
           refine ov hr (vB true) (by kernel_rfl) ?_; clear hr a; intro a hr
           refine offg (wgt hr (c := true) rfl) hr ?_; clear hr a; intro a hr
           refine offg (wgt hr (c := true) rfl) hr ?_; clear hr a; intro a hr
           refine ov hr (vB true) (by kernel_rfl) ?_; clear hr a; intro a hr
           refine ln ?_
           refine cond_tt hr (b := true) rfl ?_
           refine sr ?_
           refine ov hr (vB false) (by kernel_rfl) ?_; clear hr a; intro a hr
           refine ln ?_
           refine wp_ret ?_
           refine then_ret ?_
           refine end_ret1 (v := vB false) rfl hr (by kernel_rfl) ?_
           replace H := jx0 H hK64
           replace H := ej2 H; obtain ⟨rfl, rfl⟩ := H
           exact ⟨caq60, ccq61, caq62, ccq63, rfl, h⟩
         ·
          replace H := ifF c73 H
          refine offg (wgt hr (bne_iff_ne.mpr c73)) hr ?_; clear hr a; intro a hr
          refine offg (wgt hr (bne_iff_ne.mpr c73)) hr ?_; clear hr a; intro a hr
          refine opv (wn rfl) hr (vB true) (rp_t (b := (r33 != (20 : Int))) rfl (by kernel_rfl) (bne_iff_ne.mpr c73) (by kernel_rfl)) ?_; clear hr a; intro a hr
          refine ov hr (vB true) (by kernel_rfl) ?_; clear hr a; intro a hr
          refine offg (wgt hr (c := true) rfl) hr ?_; clear hr a; intro a hr
          refine offg (wgt hr (c := true) rfl) hr ?_; clear hr a; intro a hr
          refine ovs [81, 82] [vB true, vB true] hr ⟨rfl, rfl⟩ (by kernel_rfl) ?_; clear hr a; intro a hr
          refine offg (wgt hr (c := true) rfl) hr ?_; clear hr a; intro a hr
          refine offg (wgt hr (c := true) rfl) hr ?_; clear hr a; intro a hr
          refine ov hr (vB true) (by kernel_rfl) ?_; clear hr a; intro a hr
          refine ln ?_
          refine cond_tt hr (b := true) rfl ?_
          refine sr ?_
          refine ov hr (vB false) (by kernel_rfl) ?_; clear hr a; intro a hr
          refine ln ?_
          refine wp_ret ?_
          refine then_ret ?_
          refine end_ret1 (v := vB false) rfl hr (by kernel_rfl) ?_
          replace H := jx0 H hK64
          replace H := ej2 H; obtain ⟨rfl, rfl⟩ := H
          exact ⟨caq60, ccq61, caq62, ccq63, rfl, h⟩
        ·
         replace H := ifF c72 H
         refine offg (wgt hr (bne_iff_ne.mpr c72)) hr ?_; clear hr a; intro a hr
         refine offg (wgt hr (bne_iff_ne.mpr c72)) hr ?_; clear hr a; intro a hr
         refine opv (wn rfl) hr (vB true) (rp_t (b := (r25 != (20 : Int))) rfl (by kernel_rfl) (bne_iff_ne.mpr c72) (by kernel_rfl)) ?_; clear hr a; intro a hr
         refine ov hr (vB true) (by kernel_rfl) ?_; clear hr a; intro a hr
         refine offg (wgt hr (c := true) rfl) hr ?_; clear hr a; intro a hr
         refine offg (wgt hr (c := true) rfl) hr ?_; clear hr a; intro a hr
         refine ovs [77, 78] [vB true, vB true] hr ⟨rfl, rfl⟩ (by kernel_rfl) ?_; clear hr a; intro a hr
         refine offg (wgt hr (c := true) rfl) hr ?_; clear hr a; intro a hr
         refine offg (wgt hr (c := true) rfl) hr ?_; clear hr a; intro a hr
         refine ovs [81, 82] [vB true, vB true] hr ⟨rfl, rfl⟩ (by kernel_rfl) ?_; clear hr a; intro a hr
         refine offg (wgt hr (c := true) rfl) hr ?_; clear hr a; intro a hr
         refine offg (wgt hr (c := true) rfl) hr ?_; clear hr a; intro a hr
         refine ov hr (vB true) (by kernel_rfl) ?_; clear hr a; intro a hr
         refine ln ?_
         refine cond_tt hr (b := true) rfl ?_
         refine sr ?_
         refine ov hr (vB false) (by kernel_rfl) ?_; clear hr a; intro a hr
         refine ln ?_
         refine wp_ret ?_
         refine then_ret ?_
         refine end_ret1 (v := vB false) rfl hr (by kernel_rfl) ?_
         replace H := jx0 H hK64
         replace H := ej2 H; obtain ⟨rfl, rfl⟩ := H
         exact ⟨caq60, ccq61, caq62, ccq63, rfl, h⟩
       ·
        replace H := ifF c71 H
        refine offg (wgt hr (bne_iff_ne.mpr c71)) hr ?_; clear hr a; intro a hr
        refine offg (wgt hr (bne_iff_ne.mpr c71)) hr ?_; clear hr a; intro a hr
        refine opv (wn rfl) hr (vB true) (rp_t (b := (r18 != (20 : Int))) rfl (by kernel_rfl) (bne_iff_ne.mpr c71) (by kernel_rfl)) ?_; clear hr a; intro a hr
        refine ov hr (vB true) (by kernel_rfl) ?_; clear hr a; intro a hr
        refine offg (wgt hr (c := true) rfl) hr ?_; clear hr a; intro a hr
        refine offg (wgt hr (c := true) rfl) hr ?_; clear hr a; intro a hr
        refine ovs [73, 74] [vB true, vB true] hr ⟨rfl, rfl⟩ (by kernel_rfl) ?_; clear hr a; intro a hr
        refine offg (wgt hr (c := true) rfl) hr ?_; clear hr a; intro a hr
        refine offg (wgt hr (c := true) rfl) hr ?_; clear hr a; intro a hr
        refine ovs [77, 78] [vB true, vB true] hr ⟨rfl, rfl⟩ (by kernel_rfl) ?_; clear hr a; intro a hr
        refine offg (wgt hr (c := true) rfl) hr ?_; clear hr a; intro a hr
        refine offg (wgt hr (c := true) rfl) hr ?_; clear hr a; intro a hr
        refine ovs [81, 82] [vB true, vB true] hr ⟨rfl, rfl⟩ (by kernel_rfl) ?_; clear hr a; intro a hr
        refine offg (wgt hr (c := true) rfl) hr ?_; clear hr a; intro a hr
        refine offg (wgt hr (c := true) rfl) hr ?_; clear hr a; intro a hr
        refine ov hr (vB true) (by kernel_rfl) ?_; clear hr a; intro a hr
        refine ln ?_
        refine cond_tt hr (b := true) rfl ?_
        refine sr ?_
        refine ov hr (vB false) (by kernel_rfl) ?_; clear hr a; intro a hr
        refine ln ?_
        refine wp_ret ?_
        refine then_ret ?_
        refine end_ret1 (v := vB false) rfl hr (by kernel_rfl) ?_
        replace H := jx0 H hK64
        replace H := ej2 H; obtain ⟨rfl, rfl⟩ := H
        exact ⟨caq60, ccq61, caq62, ccq63, rfl, h⟩
      ·
       replace H := ifF c70 H
       refine offg (wgt hr (bne_iff_ne.mpr c70)) hr ?_; clear hr a; intro a hr
       refine offg (wgt hr (bne_iff_ne.mpr c70)) hr ?_; clear hr a; intro a hr
       refine opv (wn rfl) hr (vB true) (rp_t (b := (r56 != (0 : Int))) rfl (by kernel_rfl) (bne_iff_ne.mpr c70) (by kernel_rfl)) ?_; clear hr a; intro a hr
       refine ov hr (vB true) (by kernel_rfl) ?_; clear hr a; intro a hr
       refine offg (wgt hr (c := true) rfl) hr ?_; clear hr a; intro a hr
       refine offg (wgt hr (c := true) rfl) hr ?_; clear hr a; intro a hr
       refine ovs [69, 70] [vB true, vB true] hr ⟨rfl, rfl⟩ (by kernel_rfl) ?_; clear hr a; intro a hr
       refine offg (wgt hr (c := true) rfl) hr ?_; clear hr a; intro a hr
       refine offg (wgt hr (c := true) rfl) hr ?_; clear hr a; intro a hr
       refine ovs [73, 74] [vB true, vB true] hr ⟨rfl, rfl⟩ (by kernel_rfl) ?_; clear hr a; intro a hr
       refine offg (wgt hr (c := true) rfl) hr ?_; clear hr a; intro a hr
       refine offg (wgt hr (c := true) rfl) hr ?_; clear hr a; intro a hr
       refine ovs [77, 78] [vB true, vB true] hr ⟨rfl, rfl⟩ (by kernel_rfl) ?_; clear hr a; intro a hr
       refine offg (wgt hr (c := true) rfl) hr ?_; clear hr a; intro a hr
       refine offg (wgt hr (c := true) rfl) hr ?_; clear hr a; intro a hr
       refine ovs [81, 82] [vB true, vB true] hr ⟨rfl, rfl⟩ (by kernel_rfl) ?_; clear hr a; intro a hr
       refine offg (wgt hr (c := true) rfl) hr ?_; clear hr a; intro a hr
       refine offg (wgt hr (c := true) rfl) hr ?_; clear hr a; intro a hr
       refine ov hr (vB true) (by kernel_rfl) ?_; clear hr a; intro a hr
       refine ln ?_
       refine cond_tt hr (b := true) rfl ?_
       refine sr ?_
       refine ov hr (vB false) (by kernel_rfl) ?_; clear hr a; intro a hr
       refine ln ?_
       refine wp_ret ?_
       refine then_ret ?_
       refine end_ret1 (v := vB false) rfl hr (by kernel_rfl) ?_
       replace H := jx0 H hK64
       replace H := ej2 H; obtain ⟨rfl, rfl⟩ := H
       exact ⟨caq60, ccq61, caq62, ccq63, rfl, h⟩
     ·
      replace H := ifF c69 H
      refine offg (wgt hr (bne_iff_ne.mpr c69)) hr ?_; clear hr a; intro a hr
      refine offg (wgt hr (bne_iff_ne.mpr c69)) hr ?_; clear hr a; intro a hr
      refine opv (wn rfl) hr (vB true) (rp_t (b := (r48 != (0 : Int))) rfl (by kernel_rfl) (bne_iff_ne.mpr c69) (by kernel_rfl)) ?_; clear hr a; intro a hr
      refine ov hr (vB true) (by kernel_rfl) ?_; clear hr a; intro a hr
      refine offg (wgt hr (c := true) rfl) hr ?_; clear hr a; intro a hr
      refine offg (wgt hr (c := true) rfl) hr ?_; clear hr a; intro a hr
      refine ovs [65, 66] [vB true, vB true] hr ⟨rfl, rfl⟩ (by kernel_rfl) ?_; clear hr a; intro a hr
      refine offg (wgt hr (c := true) rfl) hr ?_; clear hr a; intro a hr
      refine offg (wgt hr (c := true) rfl) hr ?_; clear hr a; intro a hr
      refine ovs [69, 70] [vB true, vB true] hr ⟨rfl, rfl⟩ (by kernel_rfl) ?_; clear hr a; intro a hr
      refine offg (wgt hr (c := true) rfl) hr ?_; clear hr a; intro a hr
      refine offg (wgt hr (c := true) rfl) hr ?_; clear hr a; intro a hr
      refine ovs [73, 74] [vB true, vB true] hr ⟨rfl, rfl⟩ (by kernel_rfl) ?_; clear hr a; intro a hr
      refine offg (wgt hr (c := true) rfl) hr ?_; clear hr a; intro a hr
      refine offg (wgt hr (c := true) rfl) hr ?_; clear hr a; intro a hr
      refine ovs [77, 78] [vB true, vB true] hr ⟨rfl, rfl⟩ (by kernel_rfl) ?_; clear hr a; intro a hr
      refine offg (wgt hr (c := true) rfl) hr ?_; clear hr a; intro a hr
      refine offg (wgt hr (c := true) rfl) hr ?_; clear hr a; intro a hr
      refine ovs [81, 82] [vB true, vB true] hr ⟨rfl, rfl⟩ (by kernel_rfl) ?_; clear hr a; intro a hr
      refine offg (wgt hr (c := true) rfl) hr ?_; clear hr a; intro a hr
      refine offg (wgt hr (c := true) rfl) hr ?_; clear hr a; intro a hr
      refine ov hr (vB true) (by kernel_rfl) ?_; clear hr a; intro a hr
      refine ln ?_
      refine cond_tt hr (b := true) rfl ?_
      refine sr ?_
      refine ov hr (vB false) (by kernel_rfl) ?_; clear hr a; intro a hr
      refine ln ?_
      refine wp_ret ?_
      refine then_ret ?_
      refine end_ret1 (v := vB false) rfl hr (by kernel_rfl) ?_
      replace H := jx0 H hK64
      replace H := ej2 H; obtain ⟨rfl, rfl⟩ := H
      exact ⟨caq60, ccq61, caq62, ccq63, rfl, h⟩
    ·
     replace H := ifF c68 H
     refine offg (wgt hr (bne_iff_ne.mpr c68)) hr ?_; clear hr a; intro a hr
     refine offg (wgt hr (bne_iff_ne.mpr c68)) hr ?_; clear hr a; intro a hr
     refine opv (wn rfl) hr (vB true) (rp_t (b := (r40 != (0 : Int))) rfl (by kernel_rfl) (bne_iff_ne.mpr c68) (by kernel_rfl)) ?_; clear hr a; intro a hr
     refine ov hr (vB true) (by kernel_rfl) ?_; clear hr a; intro a hr
     refine offg (wgt hr (c := true) rfl) hr ?_; clear hr a; intro a hr
     refine offg (wgt hr (c := true) rfl) hr ?_; clear hr a; intro a hr
     refine ovs [61, 62] [vB true, vB true] hr ⟨rfl, rfl⟩ (by kernel_rfl) ?_; clear hr a; intro a hr
     refine offg (wgt hr (c := true) rfl) hr ?_; clear hr a; intro a hr
     refine offg (wgt hr (c := true) rfl) hr ?_; clear hr a; intro a hr
     refine ovs [65, 66] [vB true, vB true] hr ⟨rfl, rfl⟩ (by kernel_rfl) ?_; clear hr a; intro a hr
     refine offg (wgt hr (c := true) rfl) hr ?_; clear hr a; intro a hr
     refine offg (wgt hr (c := true) rfl) hr ?_; clear hr a; intro a hr
     refine ovs [69, 70] [vB true, vB true] hr ⟨rfl, rfl⟩ (by kernel_rfl) ?_; clear hr a; intro a hr
     refine offg (wgt hr (c := true) rfl) hr ?_; clear hr a; intro a hr
     refine offg (wgt hr (c := true) rfl) hr ?_; clear hr a; intro a hr
     refine ovs [73, 74] [vB true, vB true] hr ⟨rfl, rfl⟩ (by kernel_rfl) ?_; clear hr a; intro a hr
     refine offg (wgt hr (c := true) rfl) hr ?_; clear hr a; intro a hr
     refine offg (wgt hr (c := true) rfl) hr ?_; clear hr a; intro a hr
     refine ovs [77, 78] [vB true, vB true] hr ⟨rfl, rfl⟩ (by kernel_rfl) ?_; clear hr a; intro a hr
     refine offg (wgt hr (c := true) rfl) hr ?_; clear hr a; intro a hr
     refine offg (wgt hr (c := true) rfl) hr ?_; clear hr a; intro a hr
     refine ovs [81, 82] [vB true, vB true] hr ⟨rfl, rfl⟩ (by kernel_rfl) ?_; clear hr a; intro a hr
     refine offg (wgt hr (c := true) rfl) hr ?_; clear hr a; intro a hr
     refine offg (wgt hr (c := true) rfl) hr ?_; clear hr a; intro a hr
     refine ov hr (vB true) (by kernel_rfl) ?_; clear hr a; intro a hr
     refine ln ?_
     refine cond_tt hr (b := true) rfl ?_
     refine sr ?_
     refine ov hr (vB false) (by kernel_rfl) ?_; clear hr a; intro a hr
     refine ln ?_
     refine wp_ret ?_
     refine then_ret ?_
     refine end_ret1 (v := vB false) rfl hr (by kernel_rfl) ?_
     replace H := jx0 H hK64
     replace H := ej2 H; obtain ⟨rfl, rfl⟩ := H
     exact ⟨caq60, ccq61, caq62, ccq63, rfl, h⟩
  ·
   replace H := ifF c66 H
   refine offg (wgt hr (bne_iff_ne.mpr c66)) hr ?_; clear hr a; intro a hr
   refine opv (wn rfl) hr (vB true) (rp_t (b := (r17 != (0 : Int))) rfl (by kernel_rfl) (bne_iff_ne.mpr c66) (by kernel_rfl)) ?_; clear hr a; intro a hr
   refine ov hr (vB true) (by kernel_rfl) ?_; clear hr a; intro a hr
   refine offg (wgt hr (c := true) rfl) hr ?_; clear hr a; intro a hr
   refine offg (wgt hr (c := true) rfl) hr ?_; clear hr a; intro a hr
   refine ovs [53, 54] [vB true, vB true] hr ⟨rfl, rfl⟩ (by kernel_rfl) ?_; clear hr a; intro a hr
   refine offg (wgt hr (c := true) rfl) hr ?_; clear hr a; intro a hr
   refine offg (wgt hr (c := true) rfl) hr ?_; clear hr a; intro a hr
   refine ovs [57, 58] [vB true, vB true] hr ⟨rfl, rfl⟩ (by kernel_rfl) ?_; clear hr a; intro a hr
   refine offg (wgt hr (c := true) rfl) hr ?_; clear hr a; intro a hr
   refine offg (wgt hr (c := true) rfl) hr ?_; clear hr a; intro a hr
   refine ovs [61, 62] [vB true, vB true] hr ⟨rfl, rfl⟩ (by kernel_rfl) ?_; clear hr a; intro a hr
   refine offg (wgt hr (c := true) rfl) hr ?_; clear hr a; intro a hr
   refine offg (wgt hr (c := true) rfl) hr ?_; clear hr a; intro a hr
   refine ovs [65, 66] [vB true, vB true] hr ⟨rfl, rfl⟩ (by kernel_rfl) ?_; clear hr a; intro a hr
   refine offg (wgt hr (c := true) rfl) hr ?_; clear hr a; intro a hr
   refine offg (wgt hr (c := true) rfl) hr ?_; clear hr a; intro a hr
   refine ovs [69, 70] [vB true, vB true] hr ⟨rfl, rfl⟩ (by kernel_rfl) ?_; clear hr a; intro a hr
   refine offg (wgt hr (c := true) rfl) hr ?_; clear hr a; intro a hr
   refine offg (wgt hr (c := true) rfl) hr ?_; clear hr a; intro a hr
   refine ovs [73, 74] [vB true, vB true] hr ⟨rfl, rfl⟩ (by kernel_rfl) ?_; clear hr a; intro a hr
   refine offg (wgt hr (c := true) rfl) hr ?_; clear hr a; intro a hr
   refine offg (wgt hr (c := true) rfl) hr ?_; clear hr a; intro a hr
   refine ovs [77, 78] [vB true, vB true] hr ⟨rfl, rfl⟩ (by kernel_rfl) ?_; clear hr a; intro a hr
   refine offg (wgt hr (c := true) rfl) hr ?_; clear hr a; intro a hr
   refine offg (wgt hr (c := true) rfl) hr ?_; clear hr a; intro a hr
   refine ovs [81, 82] [vB true, vB true] hr ⟨rfl, rfl⟩ (by kernel_rfl) ?_; clear hr a; intro a hr
   refine offg (wgt hr (c := true) rfl) hr ?_; clear hr a; intro a hr
   refine offg (wgt hr (c := true) rfl) hr ?_; clear hr a; intro a hr
   refine ov hr (vB true) (by kernel_rfl) ?_; clear hr a; intro a hr
   refine ln ?_
   refine cond_tt hr (b := true) rfl ?_
   refine sr ?_
   refine ov hr (vB false) (by kernel_rfl) ?_; clear hr a; intro a hr
   refine ln ?_
   refine wp_ret ?_
   refine then_ret ?_
   refine end_ret1 (v := vB false) rfl hr (by kernel_rfl) ?_
   replace H := jx0 H hK64
   replace H := ej2 H; obtain ⟨rfl, rfl⟩ := H
   exact ⟨caq60, ccq61, caq62, ccq63, rfl, h⟩
 clear h hr a; rintro _ a w ⟨rfl, j, hr, h⟩
 replace H := jk0 hK64
 refine sr ?_
 replace H := bd1 H; obtain ⟨r77, e78, H⟩ := H
 refine ov hr (pA B0 0) (by kernel_rfl) ?_; clear hr a; intro a hr
 have hc := cells_Arena_Size_ok (H := e78) (h := h)
 refine op_call (wn rfl) rfl rfl hr (f := 97) (args := #[pA B0 0]) (by kernel_rfl) hc ?_; clear hc h
 rintro _ w ⟨rfl, h⟩; refine ⟨_, rfl, ?_⟩
 clear hr a; intro a hr
 refine ovs [88, 89] [vB (r77 == (0 : Int)), vB (r77 == (0 : Int))] hr ⟨rfl, rfl⟩ (by kernel_rfl) ?_; clear hr a; intro a hr
 by_cases c79 : r77 = (0 : Int)
 ·
  replace H := ifT c79 H
  refine opv (wgt hr (beq_iff_eq.mpr c79)) hr (pA B0 0) (by kernel_rfl) ?_; clear hr a; intro a hr
  replace H := bd1 H; obtain ⟨r80, e81, H⟩ := H
  have hc := cells_Arena_Mark_ok (H := e81) (h := h)
  refine op_call (wgt hr (beq_iff_eq.mpr c79)) rfl rfl hr (f := 98) (args := #[pA B0 0]) (by kernel_rfl) hc ?_; clear hc h
  rintro _ w ⟨rfl, h⟩; refine ⟨_, rfl, ?_⟩
  clear hr a; intro a hr
  refine opv (wgt hr (beq_iff_eq.mpr c79)) hr (vB (r80 == (0 : Int))) (by kernel_rfl) ?_; clear hr a; intro a hr
  refine opv (wn rfl) hr (vB (r80 == (0 : Int))) (rp_t (b := (r77 == (0 : Int))) rfl (by kernel_rfl) (beq_iff_eq.mpr c79) (by kernel_rfl)) ?_; clear hr a; intro a hr
  refine ov hr (vB (r80 == (0 : Int))) (by kernel_rfl) ?_; clear hr a; intro a hr
  by_cases c82 : r80 = (0 : Int)
  ·
   replace H := ifT c82 H
   refine opv (wgt hr (beq_iff_eq.mpr c82)) hr (pA B0 0) (by kernel_rfl) ?_; clear hr a; intro a hr
   replace H := bd1 H; obtain ⟨r83, e84, H⟩ := H
   have hc := cells_Arena_Cells_ok (H := e84) (h := h)
   refine op_call (wgt hr (beq_iff_eq.mpr c82)) rfl rfl hr (f := 24) (args := #[pA B0 0]) (by kernel_rfl) hc ?_; clear hc h
   rintro _ w ⟨car85, rfl, h⟩; refine ⟨_, rfl, ?_⟩
   clear hr a; intro a hr
   refine opv (wgt hr (beq_iff_eq.mpr c82)) hr (vI ((r83.length : Nat) : Int)) (by kernel_rfl) ?_; clear hr a; intro a hr
   refine opv (wgt hr (beq_iff_eq.mpr c82)) hr (vB (((r83.length : Nat) : Int) == (0 : Int))) (by kernel_rfl) ?_; clear hr a; intro a hr
   refine opv (wn rfl) hr (vB (((r83.length : Nat) : Int) == (0 : Int))) (rp_t (b := (r80 == (0 : Int))) rfl (by kernel_rfl) (beq_iff_eq.mpr c82) (by kernel_rfl)) ?_; clear hr a; intro a hr
   refine ov hr (vB (((r83.length : Nat) : Int) == (0 : Int))) (by kernel_rfl) ?_; clear hr a; intro a hr
   by_cases c86 : ((r83.length : Nat) : Int) = (0 : Int)
   ·
    replace H := ifT c86 H
    refine opv (wgt hr (beq_iff_eq.mpr c86)) hr (pA B0 0) (by kernel_rfl) ?_; clear hr a; intro a hr
    replace H := bd1 H; obtain ⟨r87, e88, H⟩ := H
    have hc := cells_Arena_Log_ok (H := e88) (h := h)
    refine op_call (wgt hr (beq_iff_eq.mpr c86)) rfl rfl hr (f := 70) (args := #[pA B0 0]) (by kernel_rfl) hc ?_; clear hc h
    rintro _ w ⟨car89, rfl, h⟩; refine ⟨_, rfl, ?_⟩
    clear hr a; intro a hr
    refine opv (wgt hr (beq_iff_eq.mpr c86)) hr (vI ((r87.length : Nat) : Int)) (by kernel_rfl) ?_; clear hr a; intro a hr
    refine opv (wgt hr (beq_iff_eq.mpr c86)) hr (vB (((r87.length : Nat) : Int) == (0 : Int))) (by kernel_rfl) ?_; clear hr a; intro a hr
    refine opv (wn rfl) hr (vB (((r87.length : Nat) : Int) == (0 : Int))) (rp_t (b := (((r83.length : Nat) : Int) == (0 : Int))) rfl (by kernel_rfl) (beq_iff_eq.mpr c86) (by kernel_rfl)) ?_; clear hr a; intro a hr
    refine ov hr (vB (((r87.length : Nat) : Int) == (0 : Int))) (by kernel_rfl) ?_; clear hr a; intro a hr
    refine ln ?_
    refine wp_ret ?_
    refine end_ret1 (v := vB (((r87.length : Nat) : Int) == (0 : Int))) rfl hr (by kernel_rfl) ?_
    replace h : Fit z (sepL (ob96 B0 S58 caq60 ccq61 caq62 ccq63 :: ro2 caq60 ccq61 S58.cell :: ro90 caq62 ccq63 S58.log :: L)) _ := h.sel 5 [0, 1, 2] (by kernel_rfl) (by kernel_rfl)
    replace H := ej2 H; obtain ⟨rfl, rfl⟩ := H
    exact ⟨caq60, ccq61, caq62, ccq63, rfl, h⟩
   ·
    replace H := ifF c86 H
    refine offg (wgt hr (beq_eq_false_iff_ne.mpr c86)) hr ?_; clear hr a; intro a hr
    refine offg (wgt hr (beq_eq_false_iff_ne.mpr c86)) hr ?_; clear hr a; intro a hr
    refine offg (wgt hr (beq_eq_false_iff_ne.mpr c86)) hr ?_; clear hr a; intro a hr
    refine offg (wgt hr (beq_eq_false_iff_ne.mpr c86)) hr ?_; clear hr a; intro a hr
    refine opv (wn rfl) hr (vB false) (rp_f (b := (((r83.length : Nat) : Int) == (0 : Int))) rfl (by kernel_rfl) (beq_eq_false_iff_ne.mpr c86) (by kernel_rfl)) ?_; clear hr a; intro a hr
    refine ov hr (vB false) (by kernel_rfl) ?_; clear hr a; intro a hr
    refine ln ?_
    refine wp_ret ?_
    refine end_ret1 (v := vB false) rfl hr (by kernel_rfl) ?_
    replace h : Fit z (sepL (ob96 B0 S58 caq60 ccq61 caq62 ccq63 :: ro2 caq60 ccq61 S58.cell :: ro90 caq62 ccq63 S58.log :: L)) _ := h.sel 4 [0, 1, 2] (by kernel_rfl) (by kernel_rfl)
    replace H := ej2 H; obtain ⟨rfl, rfl⟩ := H
    exact ⟨caq60, ccq61, caq62, ccq63, rfl, h⟩
  ·
   replace H := ifF c82 H
   refine offg (wgt hr (beq_eq_false_iff_ne.mpr c82)) hr ?_; clear hr a; intro a hr
   refine offg (wgt hr (beq_eq_false_iff_ne.mpr c82)) hr ?_; clear hr a; intro a hr
   refine offg (wgt hr (beq_eq_false_iff_ne.mpr c82)) hr ?_; clear hr a; intro a hr
   refine offg (wgt hr (beq_eq_false_iff_ne.mpr c82)) hr ?_; clear hr a; intro a hr
   refine opv (wn rfl) hr (vB false) (rp_f (b := (r80 == (0 : Int))) rfl (by kernel_rfl) (beq_eq_false_iff_ne.mpr c82) (by kernel_rfl)) ?_; clear hr a; intro a hr
   refine ov hr (vB false) (by kernel_rfl) ?_; clear hr a; intro a hr
   refine offg (wgt hr (c := false) rfl) hr ?_; clear hr a; intro a hr
   refine offg (wgt hr (c := false) rfl) hr ?_; clear hr a; intro a hr
   refine offg (wgt hr (c := false) rfl) hr ?_; clear hr a; intro a hr
   refine offg (wgt hr (c := false) rfl) hr ?_; clear hr a; intro a hr
   refine ovs [105, 2] [vB false, vB false] hr ⟨rfl, rfl⟩ (by kernel_rfl) ?_; clear hr a; intro a hr
   refine ln ?_
   refine wp_ret ?_
   refine end_ret1 (v := vB false) rfl hr (by kernel_rfl) ?_
   replace H := ej2 H; obtain ⟨rfl, rfl⟩ := H
   exact ⟨caq60, ccq61, caq62, ccq63, rfl, h⟩
 ·
  replace H := ifF c79 H
  refine offg (wgt hr (beq_eq_false_iff_ne.mpr c79)) hr ?_; clear hr a; intro a hr
  refine offg (wgt hr (beq_eq_false_iff_ne.mpr c79)) hr ?_; clear hr a; intro a hr
  refine offg (wgt hr (beq_eq_false_iff_ne.mpr c79)) hr ?_; clear hr a; intro a hr
  refine opv (wn rfl) hr (vB false) (rp_f (b := (r77 == (0 : Int))) rfl (by kernel_rfl) (beq_eq_false_iff_ne.mpr c79) (by kernel_rfl)) ?_; clear hr a; intro a hr
  refine ov hr (vB false) (by kernel_rfl) ?_; clear hr a; intro a hr
  refine offg (wgt hr (c := false) rfl) hr ?_; clear hr a; intro a hr
  refine offg (wgt hr (c := false) rfl) hr ?_; clear hr a; intro a hr
  refine offg (wgt hr (c := false) rfl) hr ?_; clear hr a; intro a hr
  refine offg (wgt hr (c := false) rfl) hr ?_; clear hr a; intro a hr
  refine ovs [99, 100] [vB false, vB false] hr ⟨rfl, rfl⟩ (by kernel_rfl) ?_; clear hr a; intro a hr
  refine offg (wgt hr (c := false) rfl) hr ?_; clear hr a; intro a hr
  refine offg (wgt hr (c := false) rfl) hr ?_; clear hr a; intro a hr
  refine offg (wgt hr (c := false) rfl) hr ?_; clear hr a; intro a hr
  refine offg (wgt hr (c := false) rfl) hr ?_; clear hr a; intro a hr
  refine ovs [105, 2] [vB false, vB false] hr ⟨rfl, rfl⟩ (by kernel_rfl) ?_; clear hr a; intro a hr
  refine ln ?_
  refine wp_ret ?_
  refine end_ret1 (v := vB false) rfl hr (by kernel_rfl) ?_
  replace H := ej2 H; obtain ⟨rfl, rfl⟩ := H
  exact ⟨caq60, ccq61, caq62, ccq63, rfl, h⟩

/-- (*plunder/cells.Shared).outside -/
def cells_Shared_outside (p0 : T_cells_Shared) (p1 : Int) : Option (Bool) :=
  (if p1 < (0 : Int) then some true else some (decide (p1 ≥ p0.given_v)))
set_option maxRecDepth 100000 in
set_option maxHeartbeats 4000000 in
theorem cells_Shared_outside_ok {z w : World} {L : List HProp} {p0 : T_cells_Shared} {p1 : Int} {B0 : Nat} {ca1 : Option Addr} {cc2 : Nat} {r0 : Bool} (H : cells_Shared_outside p0 p1 = some r0) (h : Fit z (sepL (ob110 B0 p0 ca1 cc2 :: ro107 ca1 cc2 p0.cell :: L)) w)  :
    Calls Try.prog 103 #[pA B0 0, vI p1] w fun e w => e = .returned (vB r0) ∧ Fit z (sepL (ob110 B0 p0 ca1 cc2 :: ro107 ca1 cc2 p0.cell :: L)) w := by
 unfold cells_Shared_outside at H
 refine enter Try.func103 rfl 19 rfl rfl [(0, pA B0 0), (1, vI p1)] ⟨rfl, rfl, trivial⟩ ?_
 intro j a hr
 refine sr ?_
 refine ov hr (vB false) (by kernel_rfl) ?_; clear hr a; intro a hr
 refine ln ?_
 refine sr ?_
 refine ovs [5, 6, 7] [pA B0 0, vB false, vB false] hr ⟨rfl, rfl⟩ (by kernel_rfl) ?_; clear hr a; intro a hr
 refine opv (wgt hr (c := false) rfl) hr (vI p1) (by kernel_rfl) ?_; clear hr a; intro a hr
 refine opv (wgt hr (c := false) rfl) hr (vB (decide (p1 < (0 : Int)))) (by kernel_rfl) ?_; clear hr a; intro a hr
 refine ovs [10, 11] [vB (decide (p1 < (0 : Int))), vB (decide (p1 < (0 : Int)))] hr ⟨rfl, rfl⟩ (by kernel_rfl) ?_; clear hr a; intro a hr
 by_cases c3 : p1 < (0 : Int)
 ·
  replace H := ifT c3 H
  refine offg (wgt hr (decide_eq_true c3)) hr ?_; clear hr a; intro a hr
  refine offg (wgt hr (decide_eq_true c3)) hr ?_; clear hr a; intro a hr
  refine offg (wgt hr (decide_eq_true c3)) hr ?_; clear hr a; intro a hr
  refine offg (wgt hr (decide_eq_true c3)) hr ?_; clear hr a; intro a hr
  refine offg (wgt hr (decide_eq_true c3)) hr ?_; clear hr a; intro a hr
  refine offg (wgt hr (decide_eq_true c3)) hr ?_; clear hr a; intro a hr
  refine opv (wn rfl) hr (vB true) (rp_t (b := (decide (p1 < (0 : Int)))) rfl (by kernel_rfl) (decide_eq_true c3) (by kernel_rfl)) ?_; clear hr a; intro a hr
  refine ov hr (vB true) (by kernel_rfl) ?_; clear hr a; intro a hr
  refine ln ?_
  refine wp_ret ?_
  refine end_ret1 (v := vB true) rfl hr (by kernel_rfl) ?_
  replace H := ej1 H; subst H
  exact ⟨rfl, h⟩
 ·
  replace H := ifF c3 H
  refine opv (wgt hr (decide_eq_false c3)) hr (vI p1) (by kernel_rfl) ?_; clear hr a; intro a hr
  refine opv (wgt hr (decide_eq_false c3)) hr (pA B0 0) (by kernel_rfl) ?_; clear hr a; intro a hr
  refine opv (wgt hr (decide_eq_false c3)) hr (pA B0 0) (by kernel_rfl) ?_; clear hr a; intro a hr
  refine opv (wgt hr (decide_eq_false c3)) hr (pA B0 4) (by kernel_rfl) ?_; clear hr a; intro a hr
  refine op_call (wgt hr (decide_eq_false c3)) rfl rfl hr (f := 104) (args := #[pA B0 4]) (by kernel_rfl) (a_load (h.cell 4 rfl)) ?_; rintro _ _ ⟨rfl, rfl⟩; refine ⟨_, rfl, ?_⟩; clear hr a; intro a hr
  refine opv (wgt hr (decide_eq_false c3)) hr (vB (decide (p1 ≥ p0.given_v))) (by kernel_rfl) ?_; clear hr a; intro a hr
  refine opv (wn rfl) hr (vB (decide (p1 ≥ p0.given_v))) (rp_f (b := (decide (p1 < (0 : Int)))) rfl (by kernel_rfl) (decide_eq_false c3) (by kernel_rfl)) ?_; clear hr a; intro a hr
  refine ov hr (vB (decide (p1 ≥ p0.given_v))) (by kernel_rfl) ?_; clear hr a; intro a hr
  refine ln ?_
  refine wp_ret ?_
  refine end_ret1 (v := vB (decide (p1 ≥ p0.given_v))) rfl hr (by kernel_rfl) ?_
  replace H := ej1 H; subst H
  exact ⟨rfl, h⟩

/-- (*plunder/cells.Shared).Load -/
def cells_Shared_Load (p0 : T_cells_Shared) (p1 : Int) : Option (Int × Int) :=
  ob1 (cells_Shared_outside p0 p1) (fun r3 => (if r3 = true then some (0, 20) else if inr_ p1 p0.cell.length then some ((at_ p0.cell p1.toNat).v, 0) else none))
set_option maxRecDepth 100000 in
set_option maxHeartbeats 4000000 in
theorem cells_Shared_Load_ok {z w : World} {L : List HProp} {p0 : T_cells_Shared} {p1 : Int} {B0 : Nat} {ca1 : Option Addr} {cc2 : Nat} {r0 : Int} {r1 : Int} (H : cells_Shared_Load p0 p1 = some (r0, r1)) (h : Fit z (sepL (ob110 B0 p0 ca1 cc2 :: ro107 ca1 cc2 p0.cell :: L)) w)  :
    Calls Try.prog 73 #[pA B0 0, vI p1] w fun e w => e = .returned (.tuple #[vI r0, vI r1]) ∧ Fit z (sepL (ob110 B0 p0 ca1 cc2 :: ro107 ca1 cc2 p0.cell :: L)) w := by
 unfold cells_Shared_Load at H
 refine enter Try.func73 rfl 16 rfl rfl [(0, pA B0 0), (1, vI p1)] ⟨rfl, rfl, trivial⟩ ?_
 intro j a hr
 refine sr ?_
 refine ovs [4, 5] [vI 0, vI 0] hr ⟨rfl, rfl⟩ (by kernel_rfl) ?_; clear hr a; intro a hr
 refine ln ?_
 refine wp_seq ?_
 refine sr ?_
 replace H := bd1 H; obtain ⟨r3, e4, H⟩ := H
 refine ovs [6, 7] [pA B0 0, vI p1] hr ⟨rfl, rfl⟩ (by kernel_rfl) ?_; clear hr a; intro a hr
 have hc := cells_Shared_outside_ok (H := e4) (h := h)
 refine op_call (wn rfl) rfl rfl hr (f := 103) (args := #[pA B0 0, vI p1]) (by kernel_rfl) hc ?_; clear hc h
 rintro _ w ⟨rfl, h⟩; refine ⟨_, rfl, ?_⟩
 clear hr a; intro a hr
 refine ln ?_
 by_cases c5 : r3 = true
 ·
  replace H := ifT c5 H
  refine cond_tt hr (b := r3) (c5) ?_
  refine sr ?_
  refine ovs [4, 5] [vI 0, vI 20] hr ⟨rfl, rfl⟩ (by kernel_rfl) ?_; clear hr a; intro a hr
  refine ln ?_
  refine wp_ret ?_
  refine then_ret ?_
  refine end_ret2 (v := vI 0) (v' := vI 20) rfl hr (by kernel_rfl) (by kernel_rfl) ?_
  replace H := ej2 H; obtain ⟨rfl, rfl⟩ := H
  exact ⟨rfl, h⟩
 ·
  replace H := ifF c5 H
  refine cond_ff hr (b := r3) (bF c5) ?_
  refine wp_skip ?_
  refine then_normal ?_
  refine sr ?_
  refine ovs [9, 10, 11] [pA B0 0, pA B0 0, pA B0 5] hr ⟨rfl, rfl⟩ (by kernel_rfl) ?_; clear hr a; intro a hr
  refine ld (wn rfl) hr (.slice ca1 p0.cell.length cc2) (h.cell 5 rfl) ?_; clear hr a; intro a hr
  replace H := gd H; obtain ⟨c6, H⟩ := H
  refine ov hr (vI p1) (by kernel_rfl) ?_; clear hr a; intro a hr
  refine opv (wn rfl) hr (pA (blk ca1) (p1.toNat * 1)) (ri_row (k := .i64) (E := 107) rfl (by kernel_rfl) (by kernel_rfl) (by kernel_rfl) (by kernel_rfl) (h.pick 1) c6) ?_; clear hr a; intro a hr
  refine op_call (wn rfl) rfl rfl hr (f := 104) (args := #[pA (blk ca1) (p1.toNat * 1)]) (by kernel_rfl) (a_load ((h.pick 1).row_cell enc_T_atomic_Int64_ok (f := 0) (at_ok c6) rfl)) ?_; rintro _ _ ⟨rfl, rfl⟩; refine ⟨_, rfl, ?_⟩; clear hr a; intro a hr
  refine ovs [4, 5] [vI ((at_ p0.cell p1.toNat).v), vI 0] hr ⟨rfl, rfl⟩ (by kernel_rfl) ?_; clear hr a; intro a hr
  refine ln ?_
  refine wp_ret ?_
  refine end_ret2 (v := vI ((at_ p0.cell p1.toNat).v)) (v' := vI 0) rfl hr (by kernel_rfl) (by kernel_rfl) ?_
  replace H := ej2 H; obtain ⟨rfl, rfl⟩ := H
  exact ⟨rfl, h⟩

/-- (*plunder/cells.Shared).Store -/
def cells_Shared_Store (p0 : T_cells_Shared) (p1 : Int) (p2 : Int) : Option (Int × T_cells_Shared) :=
  ob1 (cells_Shared_outside p0 p1) (fun r3 => (if r3 = true then some (20, p0) else if inr_ p1 p0.cell.length then some (0, { p0 with cell := p0.cell.set p1.toNat (⟨p2⟩ : T_atomic_Int64) }) else none))
set_option maxRecDepth 100000 in
set_option maxHeartbeats 4000000 in
theorem cells_Shared_Store_ok {z w : World} {L : List HProp} {p0 : T_cells_Shared} {p1 : Int} {p2 : Int} {B0 : Nat} {ca1 : Option Addr} {cc2 : Nat} {r0 : Int} {q0 : T_cells_Shared} (H : cells_Shared_Store p0 p1 p2 = some (r0, q0)) (h : Fit z (sepL (ob110 B0 p0 ca1 cc2 :: ro107 ca1 cc2 p0.cell :: L)) w)  :
    Calls Try.prog 74 #[pA B0 0, vI p1, vI p2] w fun e w => ∃ caq0_1 : Option Addr, ∃ ccq0_2 : Nat, e = .returned (vI r0) ∧ Fit z (sepL (ob110 B0 q0 caq0_1 ccq0_2 :: ro107 caq0_1 ccq0_2 q0.cell :: L)) w := by
 unfold cells_Shared_Store at H
 refine enter Try.func74 rfl 18 rfl rfl [(0, pA B0 0), (1, vI p1), (2, vI p2)] ⟨rfl, rfl, rfl, trivial⟩ ?_
 intro j a hr
 refine sr ?_
 refine ov hr (vI 0) (by kernel_rfl) ?_; clear hr a; intro a hr
 refine ln ?_
 refine wp_seq ?_
 refine sr ?_
 replace H := bd1 H; obtain ⟨r3, e4, H⟩ := H
 refine ovs [7, 8] [pA B0 0, vI p1] hr ⟨rfl, rfl⟩ (by kernel_rfl) ?_; clear hr a; intro a hr
 have hc := cells_Shared_outside_ok (H := e4) (h := h)
 refine op_call (wn rfl) rfl rfl hr (f := 103) (args := #[pA B0 0, vI p1]) (by kernel_rfl) hc ?_; clear hc h
 rintro _ w ⟨rfl, h⟩; refine ⟨_, rfl, ?_⟩
 clear hr a; intro a hr
 refine ln ?_
 by_cases c5 : r3 = true
 ·
  replace H := ifT c5 H
  refine cond_tt hr (b := r3) (c5) ?_
  refine sr ?_
  refine ov hr (vI 20) (by kernel_rfl) ?_; clear hr a; intro a hr
  refine ln ?_
  refine wp_ret ?_
  refine then_ret ?_
  refine end_ret1 (v := vI 20) rfl hr (by kernel_rfl) ?_
  replace H := ej2 H; obtain ⟨rfl, rfl⟩ := H
  exact ⟨ca1, cc2, rfl, h⟩
 ·
  replace H := ifF c5 H
  refine cond_ff hr (b := r3) (bF c5) ?_
  refine wp_skip ?_
  refine then_normal ?_
  refine sr ?_
  refine ovs [10, 11, 12] [pA B0 0, pA B0 0, pA B0 5] hr ⟨rfl, rfl⟩ (by kernel_rfl) ?_; clear hr a; intro a hr
  refine ld (wn rfl) hr (.slice ca1 p0.cell.length cc2) (h.cell 5 rfl) ?_; clear hr a; intro a hr
  replace H := gd H; obtain ⟨c6, H⟩ := H
  refine ov hr (vI p1) (by kernel_rfl) ?_; clear hr a; intro a hr
  refine opv (wn rfl) hr (pA (blk ca1) (p1.toNat * 1)) (ri_row (k := .i64) (E := 107) rfl (by kernel_rfl) (by kernel_rfl) (by kernel_rfl) (by kernel_rfl) (h.pick 1) c6) ?_; clear hr a; intro a hr
  refine ov hr (vI p2) (by kernel_rfl) ?_; clear hr a; intro a hr
  replace h : Fit z (sepL (ro107 ca1 cc2 p0.cell :: ob110 B0 p0 ca1 cc2 :: L)) _ := h.sel 2 [1, 0] (by kernel_rfl) (by kernel_rfl)
  refine op_set_row (wn rfl) rfl rfl hr enc_T_atomic_Int64_ok h (i := p1.toNat) (q := 0) (vI p2) (.tuple #[]) (x := (at_ p0.cell p1.toNat)) (y := (⟨p2⟩ : T_atomic_Int64)) (at_ok c6) rfl rfl (by kernel_rfl) (fun hc hz => a_store hc hz) ?_; clear h hr a; intro w a h hr
  refine wpList_nil ?_
  replace h : Fit z (sepL (rowOf 107 1 enc_T_atomic_Int64 (.slice ca1 p0.cell.length cc2) (p0.cell.set p1.toNat (⟨p2⟩ : T_atomic_Int64)) :: ob110 B0 p0 ca1 cc2 :: L)) _ := h
  refine then_normal ?_
  refine sr ?_
  refine ov hr (vI 0) (by kernel_rfl) ?_; clear hr a; intro a hr
  refine ln ?_
  refine wp_ret ?_
  refine end_ret1 (v := vI 0) rfl hr (by kernel_rfl) ?_
  have hn6 := h.row_n
  replace h : Fit z (sepL (ro107 ca1 cc2 (p0.cell.set p1.toNat (⟨p2⟩ : T_atomic_Int64)) :: pts B0 (.cells #[vI p0.ledger_size, vI p0.ledger_mark, .int .i32 p0.lock_mu_state, .int .u32 p0.lock_mu_sema, vI p0.given_v, .slice ca1 ((p0.cell.set p1.toNat (⟨p2⟩ : T_atomic_Int64)).length) cc2] 110) :: L)) w := (congrArg (fun q_ : Nat => Fit z (sepL (rowOf 107 1 enc_T_atomic_Int64 (.slice ca1 q_ cc2) (p0.cell.set p1.toNat (⟨p2⟩ : T_atomic_Int64)) :: pts B0 (.cells #[vI p0.ledger_size, vI p0.ledger_mark, .int .i32 p0.lock_mu_state, .int .u32 p0.lock_mu_sema, vI p0.given_v, .slice ca1 q_ cc2] 110) :: L)) w) h.row_n).mp h
  replace h : Fit z (sepL (pts B0 (.cells #[vI p0.ledger_size, vI p0.ledger_mark, .int .i32 p0.lock_mu_state, .int .u32 p0.lock_mu_sema, vI p0.given_v, .slice ca1 ((p0.cell.set p1.toNat (⟨p2⟩ : T_atomic_Int64)).length) cc2] 110) :: ro107 ca1 cc2 (p0.cell.set p1.toNat (⟨p2⟩ : T_atomic_Int64)) :: L)) _ := h.sel 2 [1, 0] (by kernel_rfl) (by kernel_rfl)
  replace H := ej2 H; obtain ⟨rfl, rfl⟩ := H
  exact ⟨ca1, cc2, rfl, h⟩

/-- (*plunder/cells.Shared).CAS -/
def cells_Shared_CAS (p0 : T_cells_Shared) (p1 : Int) (p2 : Int) (p3 : Int) : Option (Bool × Int × T_cells_Shared) :=
  ob1 (cells_Shared_outside p0 p1) (fun r3 => (if r3 = true then some (false, 20, p0) else if inr_ p1 p0.cell.length then (if ((at_ p0.cell p1.toNat).v) = p2 then some (true, 0, { p0 with cell := p0.cell.set p1.toNat (⟨p3⟩ : T_atomic_Int64) }) else some (false, 0, p0)) else none))
set_option maxRecDepth 100000 in
set_option maxHeartbeats 4000000 in
theorem cells_Shared_CAS_ok {z w : World} {L : List HProp} {p0 : T_cells_Shared} {p1 : Int} {p2 : Int} {p3 : Int} {B0 : Nat} {ca1 : Option Addr} {cc2 : Nat} {r0 : Bool} {r1 : Int} {q0 : T_cells_Shared} (H : cells_Shared_CAS p0 p1 p2 p3 = some (r0, r1, q0)) (h : Fit z (sepL (ob110 B0 p0 ca1 cc2 :: ro107 ca1 cc2 p0.cell :: L)) w)  :
    Calls Try.prog 75 #[pA B0 0, vI p1, vI p2, vI p3] w fun e w => ∃ caq0_1 : Option Addr, ∃ ccq0_2 : Nat, e = .returned (.tuple #[vB r0, vI r1]) ∧ Fit z (sepL (ob110 B0 q0 caq0_1 ccq0_2 :: ro107 caq0_1 ccq0_2 q0.cell :: L)) w := by
 unfold cells_Shared_CAS at H
 refine enter Try.func75 rfl 22 rfl rfl [(0, pA B0 0), (1, vI p1), (2, vI p2), (3, vI p3)] ⟨rfl, rfl, rfl, rfl, trivial⟩ ?_
 intro j a hr
 refine sr ?_
 refine ovs [8, 9] [vB false, vI 0] hr ⟨rfl, rfl⟩ (by kernel_rfl) ?_; clear hr a; intro a hr
 refine ln ?_
 refine wp_seq ?_
 refine sr ?_
 replace H := bd1 H; obtain ⟨r3, e4, H⟩ := H
 refine ovs [10, 11] [pA B0 0, vI p1] hr ⟨rfl, rfl⟩ (by kernel_rfl) ?_; clear hr a; intro a hr
 have hc := cells_Shared_outside_ok (H := e4) (h := h)
 refine op_call (wn rfl) rfl rfl hr (f := 103) (args := #[pA B0 0, vI p1]) (by kernel_rfl) hc ?_; clear hc h
 rintro _ w ⟨rfl, h⟩; refine ⟨_, rfl, ?_⟩
 clear hr a; intro a hr
 refine ln ?_
 by_cases c5 : r3 = true
 ·
  replace H := ifT c5 H
  refine cond_tt hr (b := r3) (c5) ?_
  refine sr ?_
  refine ovs [8, 9] [vB false, vI 20] hr ⟨rfl, rfl⟩ (by kernel_rfl) ?_; clear hr a; intro a hr
  refine ln ?_
  refine wp_ret ?_
  refine then_ret ?_
  refine end_ret2 (v := vB false) (v' := vI 20) rfl hr (by kernel_rfl) (by kernel_rfl) ?_
  replace H := ej3 H; obtain ⟨rfl, rfl, rfl⟩ := H
  exact ⟨ca1, cc2, rfl, h⟩
 ·
  replace H := ifF c5 H
  refine cond_ff hr (b := r3) (bF c5) ?_
  refine wp_skip ?_
  refine then_normal ?_
  refine sr ?_
  refine ovs [13, 14, 15] [pA B0 0, pA B0 0, pA B0 5] hr ⟨rfl, rfl⟩ (by kernel_rfl) ?_; clear hr a; intro a hr
  refine ld (wn rfl) hr (.slice ca1 p0.cell.length cc2) (h.cell 5 rfl) ?_; clear hr a; intro a hr
  replace H := gd H; obtain ⟨c6, H⟩ := H
  refine ov hr (vI p1) (by kernel_rfl) ?_; clear hr a; intro a hr
  refine opv (wn rfl) hr (pA (blk ca1) (p1.toNat * 1)) (ri_row (k := .i64) (E := 107) rfl (by kernel_rfl) (by kernel_rfl) (by kernel_rfl) (by kernel_rfl) (h.pick 1) c6) ?_; clear hr a; intro a hr
  refine ovs [19, 20] [vI p2, vI p3] hr ⟨rfl, rfl⟩ (by kernel_rfl) ?_; clear hr a; intro a hr
  by_cases c7 : ((at_ p0.cell p1.toNat).v) = p2
  ·
   replace H := ifT c7 H
   replace h : Fit z (sepL (ro107 ca1 cc2 p0.cell :: ob110 B0 p0 ca1 cc2 :: L)) _ := h.sel 2 [1, 0] (by kernel_rfl) (by kernel_rfl)
   refine op_set_row (wn rfl) rfl rfl hr enc_T_atomic_Int64_ok h (i := p1.toNat) (q := 0) (vI p3) (vB true) (x := (at_ p0.cell p1.toNat)) (y := (⟨p3⟩ : T_atomic_Int64)) (at_ok c6) rfl rfl (by kernel_rfl) (fun hc hz => a_cas hc hz c7) ?_; clear h hr a; intro w a h hr
   refine ovs [8, 9] [vB true, vI 0] hr ⟨rfl, rfl⟩ (by kernel_rfl) ?_; clear hr a; intro a hr
   refine wpList_nil ?_
   replace h : Fit z (sepL (rowOf 107 1 enc_T_atomic_Int64 (.slice ca1 p0.cell.length cc2) (p0.cell.set p1.toNat (⟨p3⟩ : T_atomic_Int64)) :: ob110 B0 p0 ca1 cc2 :: L)) _ := h
   refine then_normal ?_
   refine wp_ret ?_
   refine end_ret2 (v := vB true) (v' := vI 0) rfl hr (by kernel_rfl) (by kernel_rfl) ?_
   have hn7 := h.row_n
   replace h : Fit z (sepL (ro107 ca1 cc2 (p0.cell.set p1.toNat (⟨p3⟩ : T_atomic_Int64)) :: pts B0 (.cells #[vI p0.ledger_size, vI p0.ledger_mark, .int .i32 p0.lock_mu_state, .int .u32 p0.lock_mu_sema, vI p0.given_v, .slice ca1 ((p0.cell.set p1.toNat (⟨p3⟩ : T_atomic_Int64)).length) cc2] 110) :: L)) w := (congrArg (fun q_ : Nat => Fit z (sepL (rowOf 107 1 enc_T_atomic_Int64 (.slice ca1 q_ cc2) (p0.cell.set p1.toNat (⟨p3⟩ : T_atomic_Int64)) :: pts B0 (.cells #[vI p0.ledger_size, vI p0.ledger_mark, .int .i32 p0.lock_mu_state, .int .u32 p0.lock_mu_sema, vI p0.given_v, .slice ca1 q_ cc2] 110) :: L)) w) h.row_n).mp h
   replace h : Fit z (sepL (pts B0 (.cells #[vI p0.ledger_size, vI p0.ledger_mark, .int .i32 p0.lock_mu_state, .int .u32 p0.lock_mu_sema, vI p0.given_v, .slice ca1 ((p0.cell.set p1.toNat (⟨p3⟩ : T_atomic_Int64)).length) cc2] 110) :: ro107 ca1 cc2 (p0.cell.set p1.toNat (⟨p3⟩ : T_atomic_Int64)) :: L)) _ := h.sel 2 [1, 0] (by kernel_rfl) (by kernel_rfl)
   replace H := ej3 H; obtain ⟨rfl, rfl, rfl⟩ := H
   exact ⟨ca1, cc2, rfl, h⟩
  ·
   replace H := ifF c7 H
   refine op_call (wn rfl) rfl rfl hr (f := 106) (args := #[pA (blk ca1) (p1.toNat * 1), vI p2, vI p3]) (by kernel_rfl) (a_miss ((h.pick 1).row_cell enc_T_atomic_Int64_ok (f := 0) (at_ok c6) rfl) ((h.pick 1).row_free (Nat.lt_of_le_of_lt (Nat.zero_le _) (at_okL c6)) _) c7) ?_; rintro _ _ ⟨rfl, rfl⟩; refine ⟨_, rfl, ?_⟩; clear hr a; intro a hr
   refine ovs [8, 9] [vB false, vI 0] hr ⟨rfl, rfl⟩ (by kernel_rfl) ?_; clear hr a; intro a hr
   refine ln ?_
   refine wp_ret ?_
   refine end_ret2 (v := vB false) (v' := vI 0) rfl hr (by kernel_rfl) (by kernel_rfl) ?_
   replace H := ej3 H; obtain ⟨rfl, rfl, rfl⟩ := H
   exact ⟨ca1, cc2, rfl, h⟩

/-- (*plunder/cells.Shared).Add -/
def cells_Shared_Add (p0 : T_cells_Shared) (p1 : Int) (p2 : Int) : Option (Int × Int × T_cells_Shared) :=
  ob1 (cells_Shared_outside p0 p1) (fun r3 => (if r3 = true then some (0, 20, p0) else if inr_ p1 p0.cell.length then some (wi (((at_ p0.cell p1.toNat).v) + p2), 0, { p0 with cell := p0.cell.set p1.toNat (⟨wi (((at_ p0.cell p1.toNat).v) + p2)⟩ : T_atomic_Int64) }) else none))
set_option maxRecDepth 100000 in
set_option maxHeartbeats 4000000 in
theorem cells_Shared_Add_ok {z w : World} {L : List HProp} {p0 : T_cells_Shared} {p1 : Int} {p2 : Int} {B0 : Nat} {ca1 : Option Addr} {cc2 : Nat} {r0 : Int} {r1 : Int} {q0 : T_cells_Shared} (H : cells_Shared_Add p0 p1 p2 = some (r0, r1, q0)) (h : Fit z (sepL (ob110 B0 p0 ca1 cc2 :: ro107 ca1 cc2 p0.cell :: L)) w)  :
    Calls Try.prog 76 #[pA B0 0, vI p1, vI p2] w fun e w => ∃ caq0_1 : Option Addr, ∃ ccq0_2 : Nat, e = .returned (.tuple #[vI r0, vI r1]) ∧ Fit z (sepL (ob110 B0 q0 caq0_1 ccq0_2 :: ro107 caq0_1 ccq0_2 q0.cell :: L)) w := by
 unfold cells_Shared_Add at H
 refine enter Try.func76 rfl 19 rfl rfl [(0, pA B0 0), (1, vI p1), (2, vI p2)] ⟨rfl, rfl, rfl, trivial⟩ ?_
 intro j a hr
 refine sr ?_
 refine ovs [6, 7] [vI 0, vI 0] hr ⟨rfl, rfl⟩ (by kernel_rfl) ?_; clear hr a; intro a hr
 refine ln ?_
 refine wp_seq ?_
 refine sr ?_
 replace H := bd1 H; obtain ⟨r3, e4, H⟩ := H
 refine ovs [8, 9] [pA B0 0, vI p1] hr ⟨rfl, rfl⟩ (by kernel_rfl) ?_; clear hr a; intro a hr
 have hc := cells_Shared_outside_ok (H := e4) (h := h)
 refine op_call (wn rfl) rfl rfl hr (f := 103) (args := #[pA B0 0, vI p1]) (by kernel_rfl) hc ?_; clear hc h
 rintro _ w ⟨rfl, h⟩; refine ⟨_, rfl, ?_⟩
 clear hr a; intro a hr
 refine ln ?_
 by_cases c5 : r3 = true
 ·
  replace H := ifT c5 H
  refine cond_tt hr (b := r3) (c5) ?_
  refine sr ?_
  refine ovs [6, 7] [vI 0, vI 20] hr ⟨rfl, rfl⟩ (by kernel_rfl) ?_; clear hr a; intro a hr
  refine ln ?_
  refine wp_ret ?_
  refine then_ret ?_
  refine end_ret2 (v := vI 0) (v' := vI 20) rfl hr (by kernel_rfl) (by kernel_rfl) ?_
  replace H := ej3 H; obtain ⟨rfl, rfl, rfl⟩ := H
  exact ⟨ca1, cc2, rfl, h⟩
 ·
  replace H := ifF c5 H
  refine cond_ff hr (b := r3) (bF c5) ?_
  refine wp_skip ?_
  refine then_normal ?_
  refine sr ?_
  refine ovs [11, 12, 13] [pA B0 0, pA B0 0, pA B0 5] hr ⟨rfl, rfl⟩ (by kernel_rfl) ?_; clear hr a; intro a hr
  refine ld (wn rfl) hr (.slice ca1 p0.cell.length cc2) (h.cell 5 rfl) ?_; clear hr a; intro a hr
  replace H := gd H; obtain ⟨c6, H⟩ := H
  refine ov hr (vI p1) (by kernel_rfl) ?_; clear hr a; intro a hr
  refine opv (wn rfl) hr (pA (blk ca1) (p1.toNat * 1)) (ri_row (k := .i64) (E := 107) rfl (by kernel_rfl) (by kernel_rfl) (by kernel_rfl) (by kernel_rfl) (h.pick 1) c6) ?_; clear hr a; intro a hr
  refine ov hr (vI p2) (by kernel_rfl) ?_; clear hr a; intro a hr
  replace h : Fit z (sepL (ro107 ca1 cc2 p0.cell :: ob110 B0 p0 ca1 cc2 :: L)) _ := h.sel 2 [1, 0] (by kernel_rfl) (by kernel_rfl)
  refine op_set_row (wn rfl) rfl rfl hr enc_T_atomic_Int64_ok h (i := p1.toNat) (q := 0) (vI (wi (((at_ p0.cell p1.toNat).v) + p2))) (vI (wi (((at_ p0.cell p1.toNat).v) + p2))) (x := (at_ p0.cell p1.toNat)) (y := (⟨wi (((at_ p0.cell p1.toNat).v) + p2)⟩ : T_atomic_Int64)) (at_ok c6) rfl rfl (by kernel_rfl) (fun hc hz => a_add hc hz) ?_; clear h hr a; intro w a h hr
  refine ovs [6, 7] [vI (wi (((at_ p0.cell p1.toNat).v) + p2)), vI 0] hr ⟨rfl, rfl⟩ (by kernel_rfl) ?_; clear hr a; intro a hr
  refine wpList_nil ?_
  replace h : Fit z (sepL (rowOf 107 1 enc_T_atomic_Int64 (.slice ca1 p0.cell.length cc2) (p0.cell.set p1.toNat (⟨wi (((at_ p0.cell p1.toNat).v) + p2)⟩ : T_atomic_Int64)) :: ob110 B0 p0 ca1 cc2 :: L)) _ := h
  refine then_normal ?_
  refine wp_ret ?_
  refine end_ret2 (v := vI (wi (((at_ p0.cell p1.toNat).v) + p2))) (v' := vI 0) rfl hr (by kernel_rfl) (by kernel_rfl) ?_
  have hn6 := h.row_n
  replace h : Fit z (sepL (ro107 ca1 cc2 (p0.cell.set p1.toNat (⟨wi (((at_ p0.cell p1.toNat).v) + p2)⟩ : T_atomic_Int64)) :: pts B0 (.cells #[vI p0.ledger_size, vI p0.ledger_mark, .int .i32 p0.lock_mu_state, .int .u32 p0.lock_mu_sema, vI p0.given_v, .slice ca1 ((p0.cell.set p1.toNat (⟨wi (((at_ p0.cell p1.toNat).v) + p2)⟩ : T_atomic_Int64)).length) cc2] 110) :: L)) w := (congrArg (fun q_ : Nat => Fit z (sepL (rowOf 107 1 enc_T_atomic_Int64 (.slice ca1 q_ cc2) (p0.cell.set p1.toNat (⟨wi (((at_ p0.cell p1.toNat).v) + p2)⟩ : T_atomic_Int64)) :: pts B0 (.cells #[vI p0.ledger_size, vI p0.ledger_mark, .int .i32 p0.lock_mu_state, .int .u32 p0.lock_mu_sema, vI p0.given_v, .slice ca1 q_ cc2] 110) :: L)) w) h.row_n).mp h
  replace h : Fit z (sepL (pts B0 (.cells #[vI p0.ledger_size, vI p0.ledger_mark, .int .i32 p0.lock_mu_state, .int .u32 p0.lock_mu_sema, vI p0.given_v, .slice ca1 ((p0.cell.set p1.toNat (⟨wi (((at_ p0.cell p1.toNat).v) + p2)⟩ : T_atomic_Int64)).length) cc2] 110) :: ro107 ca1 cc2 (p0.cell.set p1.toNat (⟨wi (((at_ p0.cell p1.toNat).v) + p2)⟩ : T_atomic_Int64)) :: L)) _ := h.sel 2 [1, 0] (by kernel_rfl) (by kernel_rfl)
  replace H := ej3 H; obtain ⟨rfl, rfl, rfl⟩ := H
  exact ⟨ca1, cc2, rfl, h⟩

/-- (*plunder/cells.ledger).refuse -/
def cells_ledger_refuse_Shared (p0 : T_cells_Shared) (p1 : Int) : Option (Int) :=
  (if p1 < (1 : Int) then some 21 else (if p1 > (wi (p0.ledger_size - p0.ledger_mark)) then some 22 else some 0))
set_option maxRecDepth 100000 in
set_option maxHeartbeats 4000000 in
theorem cells_ledger_refuse_Shared_ok {z w : World} {L : List HProp} {p0 : T_cells_Shared} {p1 : Int} {B0 : Nat} {ca1 : Option Addr} {cc2 : Nat} {r0 : Int} (H : cells_ledger_refuse_Shared p0 p1 = some r0) (h : Fit z (sepL (ob110 B0 p0 ca1 cc2 :: ro107 ca1 cc2 p0.cell :: L)) w)  :
    Calls Try.prog 62 #[pA B0 0, vI p1] w fun e w => e = .returned (vI r0) ∧ Fit z (sepL (ob110 B0 p0 ca1 cc2 :: ro107 ca1 cc2 p0.cell :: L)) w := by
 unfold cells_ledger_refuse_Shared at H
 refine enter Try.func62 rfl 22 rfl rfl [(0, pA B0 0), (1, vI p1)] ⟨rfl, rfl, trivial⟩ ?_
 intro j a hr
 refine sr ?_
 refine ov hr (vI 0) (by kernel_rfl) ?_; clear hr a; intro a hr
 refine ln ?_
 refine wp_seq ?_
 refine sr ?_
 refine ovs [5, 6] [vI p1, vB (decide (p1 < (1 : Int)))] hr ⟨rfl, rfl⟩ (by kernel_rfl) ?_; clear hr a; intro a hr
 refine ln ?_
 by_cases c3 : p1 < (1 : Int)
 ·
  replace H := ifT c3 H
  refine cond_tt hr (b := (decide (p1 < (1 : Int)))) (decide_eq_true c3) ?_
  refine sr ?_
  refine ov hr (vI 21) (by kernel_rfl) ?_; clear hr a; intro a hr
  refine ln ?_
  refine wp_ret ?_
  refine then_ret ?_
  refine end_ret1 (v := vI 21) rfl hr (by kernel_rfl) ?_
  replace H := ej1 H; subst H
  exact ⟨rfl, h⟩
 ·
  replace H := ifF c3 H
  refine cond_ff hr (b := (decide (p1 < (1 : Int)))) (decide_eq_false c3) ?_
  refine wp_skip ?_
  refine then_normal ?_
  refine wp_seq ?_
  refine wp_seq ?_
  refine reg_E (fun w => heldC w B0 0 ([vI p0.ledger_size]) ∧ heldC w B0 1 ([vI p0.ledger_mark]) ∧ True) [1, 5, 6, 9, 10] h (by kernel_rfl) ?_; intro w h
  change wpAnyE _ _ _ _ _ _ 15 (Array.replicate 15 false) a w
  have hgo : ∀ w w', CellsGo w w' → (heldC w B0 0 ([vI p0.ledger_size]) ∧ heldC w B0 1 ([vI p0.ledger_mark]) ∧ True) → heldC w' B0 0 ([vI p0.ledger_size]) ∧ heldC w' B0 1 ([vI p0.ledger_mark]) ∧ True := fun w w' g hD => ⟨heldC_go _ _ _ _ _ g hD.1, heldC_go _ _ _ _ _ g hD.2.1, trivial⟩
  refine ev 14 0 rfl (by kernel_rfl) (wn rfl) hr (pA B0 0) (fun w => by kernel_rfl) ?_; clear hr a; intro a hr
  refine evD hgo ⟨⟨h.cell 0 rfl, trivial⟩, ⟨h.cell 1 rfl, trivial⟩, trivial⟩ 13 1 rfl (by kernel_rfl) (wn rfl) hr (vB false) (fun w => by kernel_rfl) ?_; clear hr a; intro a hr
  refine ev 12 2 rfl (by kernel_rfl) (wn rfl) hr (vB false) (fun w => by kernel_rfl) ?_; clear hr a; intro a hr
  refine ev 11 3 rfl (by kernel_rfl) (wgt hr (c := false) rfl) hr (vI p1) (fun w => by kernel_rfl) ?_; clear hr a; intro a hr
  refine ev 10 4 rfl (by kernel_rfl) (wgt hr (c := false) rfl) hr (pA B0 0) (fun w => by kernel_rfl) ?_; clear hr a; intro a hr
  refine evD hgo ⟨⟨h.cell 0 rfl, trivial⟩, ⟨h.cell 1 rfl, trivial⟩, trivial⟩ 9 5 rfl (by kernel_rfl) (wgt hr (c := false) rfl) hr (pA B0 0) (fun w => by kernel_rfl) ?_; clear hr a; intro a hr
  refine evD hgo ⟨⟨h.cell 0 rfl, trivial⟩, ⟨h.cell 1 rfl, trivial⟩, trivial⟩ 8 6 rfl (by kernel_rfl) (wgt hr (c := false) rfl) hr (pA B0 0) (fun w => by kernel_rfl) ?_; clear hr a; intro a hr
  refine ev 7 8 rfl (by kernel_rfl) (wgt hr (c := false) rfl) hr (pA B0 0) (fun w => by kernel_rfl) ?_; clear hr a; intro a hr
  refine evD hgo ⟨⟨h.cell 0 rfl, trivial⟩, ⟨h.cell 1 rfl, trivial⟩, trivial⟩ 6 9 rfl (by kernel_rfl) (wgt hr (c := false) rfl) hr (pA B0 0) (fun w => by kernel_rfl) ?_; clear hr a; intro a hr
  refine evD hgo ⟨⟨h.cell 0 rfl, trivial⟩, ⟨h.cell 1 rfl, trivial⟩, trivial⟩ 5 10 rfl (by kernel_rfl) (wgt hr (c := false) rfl) hr (pA B0 1) (fun w => by kernel_rfl) ?_; clear hr a; intro a hr
  refine el [1, 5, 6, 9, 10] (b := B0) (off := 0) (cs := [vI p0.ledger_size]) (fun _ hk => ⟨hk, fun w hD => hD.1⟩) 4 7 rfl (by kernel_rfl) (wgt hr (c := false) rfl) hr (vI p0.ledger_size) ⟨h.cell 0 rfl, trivial⟩ (fun w hc => rl rfl (by kernel_rfl) (by kernel_rfl) hc.1) ?_; clear hr a; intro a hr
  refine el [1, 5, 6, 9, 10] (b := B0) (off := 1) (cs := [vI p0.ledger_mark]) (fun _ hk => ⟨hk, fun w hD => hD.2.1⟩) 3 11 rfl (by kernel_rfl) (wgt hr (c := false) rfl) hr (vI p0.ledger_mark) ⟨h.cell 1 rfl, trivial⟩ (fun w hc => rl rfl (by kernel_rfl) (by kernel_rfl) hc.1) ?_; clear hr a; intro a hr
  refine ev 2 12 rfl (by kernel_rfl) (wgt hr (c := false) rfl) hr (vI (wi (p0.ledger_size - p0.ledger_mark))) (fun w => by kernel_rfl) ?_; clear hr a; intro a hr
  refine ev 1 13 rfl (by kernel_rfl) (wgt hr (c := false) rfl) hr (vB (decide (p1 > (wi (p0.ledger_size - p0.ledger_mark))))) (fun w => by kernel_rfl) ?_; clear hr a; intro a hr
  refine ev 0 14 rfl (by kernel_rfl) (wn rfl) hr (vB (decide (p1 > (wi (p0.ledger_size - p0.ledger_mark))))) (fun w => by kernel_rfl) ?_; clear hr a; intro a hr
  refine e_end (by kernel_rfl) ?_
  refine then_normal ?_
  by_cases c4 : p1 > (wi (p0.ledger_size - p0.ledger_mark))
  ·
   replace H := ifT c4 H
   refine cond_tt hr (b := (decide (p1 > (wi (p0.ledger_size - p0.ledger_mark))))) (decide_eq_true c4) ?_
   refine sr ?_
   refine ov hr (vI 22) (by kernel_rfl) ?_; clear hr a; intro a hr
   refine ln ?_
   refine wp_ret ?_
   refine then_ret ?_
   refine end_ret1 (v := vI 22) rfl hr (by kernel_rfl) ?_
   replace H := ej1 H; subst H
   exact ⟨rfl, h⟩
  ·
   replace H := ifF c4 H
   refine cond_ff hr (b := (decide (p1 > (wi (p0.ledger_size - p0.ledger_mark))))) (decide_eq_false c4) ?_
   refine wp_skip ?_
   refine then_normal ?_
   refine sr ?_
   refine ov hr (vI 0) (by kernel_rfl) ?_; clear hr a; intro a hr
   refine ln ?_
   refine wp_ret ?_
   refine end_ret1 (v := vI 0) rfl hr (by kernel_rfl) ?_
   replace H := ej1 H; subst H
   exact ⟨rfl, h⟩

/-- (*plunder/cells.ledger).take -/
def cells_ledger_take_Shared (p0 : T_cells_Shared) (p1 : Int) : Option (Int × T_cells_Shared) :=
  some (p0.ledger_mark, { p0 with ledger_mark := wi (p0.ledger_mark + p1) })
set_option maxRecDepth 100000 in
set_option maxHeartbeats 4000000 in
theorem cells_ledger_take_Shared_ok {z w : World} {L : List HProp} {p0 : T_cells_Shared} {p1 : Int} {B0 : Nat} {ca1 : Option Addr} {cc2 : Nat} {r0 : Int} {q0 : T_cells_Shared} (H : cells_ledger_take_Shared p0 p1 = some (r0, q0)) (h : Fit z (sepL (ob110 B0 p0 ca1 cc2 :: ro107 ca1 cc2 p0.cell :: L)) w)  :
    Calls Try.prog 63 #[pA B0 0, vI p1] w fun e w => ∃ caq0_1 : Option Addr, ∃ ccq0_2 : Nat, e = .returned (vI r0) ∧ Fit z (sepL (ob110 B0 q0 caq0_1 ccq0_2 :: ro107 caq0_1 ccq0_2 q0.cell :: L)) w := by
 unfold cells_ledger_take_Shared at H
 refine enter Try.func63 rfl 19 rfl rfl [(0, pA B0 0), (1, vI p1)] ⟨rfl, rfl, trivial⟩ ?_
 intro j a hr
 refine sr ?_
 refine ov hr (vI 0) (by kernel_rfl) ?_; clear hr a; intro a hr
 refine ln ?_
 refine sr ?_
 refine ovs [6, 7, 8] [pA B0 0, pA B0 0, pA B0 1] hr ⟨rfl, rfl⟩ (by kernel_rfl) ?_; clear hr a; intro a hr
 refine ld (wn rfl) hr (vI p0.ledger_mark) (h.cell 1 rfl) ?_; clear hr a; intro a hr
 refine ov hr (vI p0.ledger_mark) (by kernel_rfl) ?_; clear hr a; intro a hr
 refine ln ?_
 refine sr ?_
 refine ovs [10, 11, 12] [pA B0 0, pA B0 0, pA B0 1] hr ⟨rfl, rfl⟩ (by kernel_rfl) ?_; clear hr a; intro a hr
 refine ld (wn rfl) hr (vI p0.ledger_mark) (h.cell 1 rfl) ?_; clear hr a; intro a hr
 refine ovs [14, 15, 16, 17] [vI p1, vI (wi (p0.ledger_mark + p1)), pA B0 0, pA B0 1] hr ⟨rfl, rfl⟩ (by kernel_rfl) ?_; clear hr a; intro a hr
 refine op_store (wn rfl) rfl hr rfl (by kernel_rfl) (by kernel_rfl) (v := vI (wi (p0.ledger_mark + p1))) rfl rfl (by kernel_rfl) h (i := 1) rfl ?_; clear h; intro w h
 refine wpList_nil ?_
 replace h : Fit z (sepL (pts B0 (.cells #[vI p0.ledger_size, vI (wi (p0.ledger_mark + p1)), .int .i32 p0.lock_mu_state, .int .u32 p0.lock_mu_sema, vI p0.given_v, .slice ca1 p0.cell.length cc2] 110) :: ro107 ca1 cc2 p0.cell :: L)) _ := h
 refine then_normal ?_
 refine sr ?_
 refine ovs [18, 4] [vI p0.ledger_mark, vI p0.ledger_mark] hr ⟨rfl, rfl⟩ (by kernel_rfl) ?_; clear hr a; intro a hr
 refine ln ?_
 refine wp_ret ?_
 refine end_ret1 (v := vI p0.ledger_mark) rfl hr (by kernel_rfl) ?_
 replace H := ej2 H; obtain ⟨rfl, rfl⟩ := H
 exact ⟨ca1, cc2, rfl, h⟩

/-- (*plunder/cells.Shared).Reserve -/
def cells_Shared_Reserve (p0 : T_cells_Shared) (p1 : Int) : Option (Int × Int × T_cells_Shared) :=
  if p0.lock_mu_state = 0 then ob1 (cells_ledger_refuse_Shared ({ p0 with lock_mu_state := 1 }) p1) (fun r4 => (if r4 = (0 : Int) then ob2 (cells_ledger_take_Shared ({ p0 with lock_mu_state := 1 }) p1) (fun r7 S8 => if S8.lock_mu_state = 1 then some (r7, 0, { S8 with lock_mu_state := 0, given_v := wi (r7 + p1) }) else none) else some (0, r4, { p0 with lock_mu_state := 0 }))) else none
set_option maxRecDepth 100000 in
set_option maxHeartbeats 4000000 in
theorem cells_Shared_Reserve_ok {z w : World} {L : List HProp} {p0 : T_cells_Shared} {p1 : Int} {B0 : Nat} {ca1 : Option Addr} {cc2 : Nat} {r0 : Int} {r1 : Int} {q0 : T_cells_Shared} (H : cells_Shared_Reserve p0 p1 = some (r0, r1, q0)) (h : Fit z (sepL (ob110 B0 p0 ca1 cc2 :: ro107 ca1 cc2 p0.cell :: L)) w)  :
    Calls Try.prog 77 #[pA B0 0, vI p1] w fun e w => ∃ caq0_1 : Option Addr, ∃ ccq0_2 : Nat, e = .returned (.tuple #[vI r0, vI r1]) ∧ Fit z (sepL (ob110 B0 q0 caq0_1 ccq0_2 :: ro107 caq0_1 ccq0_2 q0.cell :: L)) w := by
 unfold cells_Shared_Reserve at H
 refine enterD Try.func77 rfl 42 rfl rfl [(0, pA B0 0), (1, vI p1)] ⟨rfl, rfl, trivial⟩ ?_
 intro j a hr
 refine sr ?_
 refine ovs [4, 5] [vI 0, vI 0] hr ⟨rfl, rfl⟩ (by kernel_rfl) ?_; clear hr a; intro a hr
 refine ln ?_
 refine wp_seq ?_
 refine sr ?_
 refine ovs [9, 10] [pA B0 0, vB false] hr ⟨rfl, rfl⟩ (by kernel_rfl) ?_; clear hr a; intro a hr
 refine ln ?_
 refine cond_ff hr (b := false) rfl ?_
 refine wp_skip ?_
 refine then_normal ?_
 refine sr ?_
 replace H := gd H; obtain ⟨c3, H⟩ := H
 refine ovs [14, 15, 16] [pA B0 0, pA B0 0, pA B0 2] hr ⟨rfl, rfl⟩ (by kernel_rfl) ?_; clear hr a; intro a hr
 refine op_lock muLib (wn rfl) rfl rfl hr h (i := 2) (cs' := #[vI p0.ledger_size, vI p0.ledger_mark, .int .i32 1, .int .u32 p0.lock_mu_sema, vI p0.given_v, .slice ca1 p0.cell.length cc2]) (congrArg (fun q => some (Value.int .i32 q)) c3) rfl (by kernel_rfl) ?_; clear h hr a; intro w a h hr
 refine wpList_nil ?_
 replace h : Fit z (sepL (pts B0 (.cells #[vI p0.ledger_size, vI p0.ledger_mark, .int .i32 1, .int .u32 p0.lock_mu_sema, vI p0.given_v, .slice ca1 p0.cell.length cc2] 110) :: ro107 ca1 cc2 p0.cell :: L)) _ := h
 refine then_normal ?_
 refine sr ?_
 refine ovs [18, 19, 20] [pA B0 0, pA B0 0, pA B0 2] hr ⟨rfl, rfl⟩ (by kernel_rfl) ?_; clear hr a; intro a hr
 refine op_defer (wn rfl) rfl hr (q := { target := .fn (.func 83) #[], args := #[pA B0 2] }) (by kernel_rfl) ?_; clear hr a; intro a hr
 refine ln ?_
 refine wp_seq ?_
 refine sr ?_
 replace H := bd1 H; obtain ⟨r4, e5, H⟩ := H
 refine ovs [21, 22, 23, 24] [pA B0 0, pA B0 0, pA B0 0, vI p1] hr ⟨rfl, rfl⟩ (by kernel_rfl) ?_; clear hr a; intro a hr
 have hc := cells_ledger_refuse_Shared_ok (H := e5) (h := h)
 refine op_call (wn rfl) rfl rfl hr (f := 62) (args := #[pA B0 0, vI p1]) (by kernel_rfl) hc ?_; clear hc h
 rintro _ w ⟨rfl, h⟩; refine ⟨_, rfl, ?_⟩
 clear hr a; intro a hr
 refine ov hr (vI r4) (by kernel_rfl) ?_; clear hr a; intro a hr
 refine ln ?_
 refine sr ?_
 refine ovs [26, 27] [vI r4, vB (r4 != (0 : Int))] hr ⟨rfl, rfl⟩ (by kernel_rfl) ?_; clear hr a; intro a hr
 refine ln ?_
 by_cases c6 : r4 = (0 : Int)
 ·
  replace H := ifT c6 H
  refine cond_ff hr (b := (r4 != (0 : Int))) (bne_eq_false_iff_eq.mpr c6) ?_
  refine wp_skip ?_
  refine then_normal ?_
  refine sr ?_
  replace H := bd2 H; obtain ⟨r7, S8, e9, H⟩ := H
  refine ovs [29, 30, 31, 32] [pA B0 0, pA B0 0, pA B0 0, vI p1] hr ⟨rfl, rfl⟩ (by kernel_rfl) ?_; clear hr a; intro a hr
  have hc := cells_ledger_take_Shared_ok (H := e9) (h := h)
  refine op_call (wn rfl) rfl rfl hr (f := 63) (args := #[pA B0 0, vI p1]) (by kernel_rfl) hc ?_; clear hc h
  rintro _ w ⟨caq10, ccq11, rfl, h⟩; refine ⟨_, rfl, ?_⟩
  clear hr a; intro a hr
  refine ov hr (vI r7) (by kernel_rfl) ?_; clear hr a; intro a hr
  refine ln ?_
  refine sr ?_
  refine ovs [34, 35, 36, 37, 38, 39] [pA B0 0, pA B0 0, pA B0 4, vI r7, vI p1, vI (wi (r7 + p1))] hr ⟨rfl, rfl⟩ (by kernel_rfl) ?_; clear hr a; intro a hr
  refine op_set_pts (wn rfl) rfl rfl hr h (i := 4) (cs' := #[vI S8.ledger_size, vI S8.ledger_mark, .int .i32 S8.lock_mu_state, .int .u32 S8.lock_mu_sema, vI (wi (r7 + p1)), .slice caq10 S8.cell.length ccq11]) (vI (wi (r7 + p1))) (.tuple #[]) rfl rfl (by kernel_rfl) (fun hc hz => a_store hc hz) ?_; clear h hr a; intro w a h hr
  refine wpList_nil ?_
  replace h : Fit z (sepL (pts B0 (.cells #[vI S8.ledger_size, vI S8.ledger_mark, .int .i32 S8.lock_mu_state, .int .u32 S8.lock_mu_sema, vI (wi (r7 + p1)), .slice caq10 S8.cell.length ccq11] 110) :: ro107 caq10 ccq11 S8.cell :: L)) _ := h
  refine then_normal ?_
  refine sr ?_
  refine ovs [41, 4, 5] [vI r7, vI r7, vI 0] hr ⟨rfl, rfl⟩ (by kernel_rfl) ?_; clear hr a; intro a hr
  refine ln ?_
  refine wp_ret ?_
  replace H := gd H; obtain ⟨c12, H⟩ := H
  refine endD_unlock muLib hr (fun w => res2 (v := vI r7) (v' := vI 0) rfl hr (by kernel_rfl) (by kernel_rfl) w) (fun _ => by kernel_rfl) h (i := 2) (cs' := #[vI S8.ledger_size, vI S8.ledger_mark, .int .i32 0, .int .u32 S8.lock_mu_sema, vI (wi (r7 + p1)), .slice caq10 S8.cell.length ccq11]) (congrArg (fun q => some (Value.int .i32 q)) c12) rfl ?_; clear h; intro w h
  replace H := ej3 H; obtain ⟨rfl, rfl, rfl⟩ := H
  exact ⟨caq10, ccq11, rfl, h⟩
 ·
  replace H := ifF c6 H
  refine cond_tt hr (b := (r4 != (0 : Int))) (bne_iff_ne.mpr c6) ?_
  refine sr ?_
  refine ovs [28, 4, 5] [vI r4, vI 0, vI r4] hr ⟨rfl, rfl⟩ (by kernel_rfl) ?_; clear hr a; intro a hr
  refine ln ?_
  refine wp_ret ?_
  refine then_ret ?_
  refine endD_unlock muLib hr (fun w => res2 (v := vI 0) (v' := vI r4) rfl hr (by kernel_rfl) (by kernel_rfl) w) (fun _ => by kernel_rfl) h (i := 2) (cs' := #[vI p0.ledger_size, vI p0.ledger_mark, .int .i32 0, .int .u32 p0.lock_mu_sema, vI p0.given_v, .slice ca1 p0.cell.length cc2]) rfl rfl ?_; clear h; intro w h
  replace H := ej3 H; obtain ⟨rfl, rfl, rfl⟩ := H
  exact ⟨ca1, cc2, rfl, h⟩

/-- (*plunder/cells.ledger).Size -/
def cells_ledger_Size_Shared (p0 : T_cells_Shared) : Option (Int) :=
  some p0.ledger_size
set_option maxRecDepth 100000 in
set_option maxHeartbeats 4000000 in
theorem cells_ledger_Size_Shared_ok {z w : World} {L : List HProp} {p0 : T_cells_Shared} {B0 : Nat} {ca1 : Option Addr} {cc2 : Nat} {r0 : Int} (H : cells_ledger_Size_Shared p0 = some r0) (h : Fit z (sepL (ob110 B0 p0 ca1 cc2 :: ro107 ca1 cc2 p0.cell :: L)) w)  :
    Calls Try.prog 81 #[pA B0 0] w fun e w => e = .returned (vI r0) ∧ Fit z (sepL (ob110 B0 p0 ca1 cc2 :: ro107 ca1 cc2 p0.cell :: L)) w := by
 unfold cells_ledger_Size_Shared at H
 refine enter Try.func81 rfl 9 rfl rfl [(0, pA B0 0)] ⟨rfl, trivial⟩ ?_
 intro j a hr
 refine sr ?_
 refine ov hr (vI 0) (by kernel_rfl) ?_; clear hr a; intro a hr
 refine ln ?_
 refine wp_seq ?_
 refine sr ?_
 refine ovs [3, 4] [pA B0 0, vB false] hr ⟨rfl, rfl⟩ (by kernel_rfl) ?_; clear hr a; intro a hr
 refine ln ?_
 refine cond_ff hr (b := false) rfl ?_
 refine wp_skip ?_
 refine then_normal ?_
 refine sr ?_
 refine ovs [5, 6, 7] [pA B0 0, pA B0 0, pA B0 0] hr ⟨rfl, rfl⟩ (by kernel_rfl) ?_; clear hr a; intro a hr
 refine ld (wn rfl) hr (vI p0.ledger_size) (h.cell 0 rfl) ?_; clear hr a; intro a hr
 refine ov hr (vI p0.ledger_size) (by kernel_rfl) ?_; clear hr a; intro a hr
 refine ln ?_
 refine wp_ret ?_
 refine end_ret1 (v := vI p0.ledger_size) rfl hr (by kernel_rfl) ?_
 replace H := ej1 H; subst H
 exact ⟨rfl, h⟩

/-- (*plunder/cells.Shared).Size -/
def cells_Shared_Size (p0 : T_cells_Shared) : Option (Int) :=
  ob1 (cells_ledger_Size_Shared p0) (fun r3 => some r3)
set_option maxRecDepth 100000 in
set_option maxHeartbeats 4000000 in
theorem cells_Shared_Size_ok {z w : World} {L : List HProp} {p0 : T_cells_Shared} {B0 : Nat} {ca1 : Option Addr} {cc2 : Nat} {r0 : Int} (H : cells_Shared_Size p0 = some r0) (h : Fit z (sepL (ob110 B0 p0 ca1 cc2 :: ro107 ca1 cc2 p0.cell :: L)) w)  :
    Calls Try.prog 32 #[pA B0 0] w fun e w => e = .returned (vI r0) ∧ Fit z (sepL (ob110 B0 p0 ca1 cc2 :: ro107 ca1 cc2 p0.cell :: L)) w := by
 unfold cells_Shared_Size at H
 refine enter Try.func32 rfl 9 rfl rfl [(0, pA B0 0)] ⟨rfl, trivial⟩ ?_
 intro j a hr
 refine sr ?_
 refine ov hr (vI 0) (by kernel_rfl) ?_; clear hr a; intro a hr
 refine ln ?_
 refine wp_seq ?_
 refine sr ?_
 refine ovs [3, 4] [pA B0 0, vB false] hr ⟨rfl, rfl⟩ (by kernel_rfl) ?_; clear hr a; intro a hr
 refine ln ?_
 refine cond_ff hr (b := false) rfl ?_
 refine wp_skip ?_
 refine then_normal ?_
 refine sr ?_
 replace H := bd1 H; obtain ⟨r3, e4, H⟩ := H
 refine ovs [5, 6, 7] [pA B0 0, pA B0 0, pA B0 0] hr ⟨rfl, rfl⟩ (by kernel_rfl) ?_; clear hr a; intro a hr
 have hc := cells_ledger_Size_Shared_ok (H := e4) (h := h)
 refine op_call (wn rfl) rfl rfl hr (f := 81) (args := #[pA B0 0]) (by kernel_rfl) hc ?_; clear hc h
 rintro _ w ⟨rfl, h⟩; refine ⟨_, rfl, ?_⟩
 clear hr a; intro a hr
 refine ov hr (vI r3) (by kernel_rfl) ?_; clear hr a; intro a hr
 refine ln ?_
 refine wp_ret ?_
 refine end_ret1 (v := vI r3) rfl hr (by kernel_rfl) ?_
 replace H := ej1 H; subst H
 exact ⟨rfl, h⟩

/-- (*plunder/cells.ledger).Mark -/
def cells_ledger_Mark_Shared (p0 : T_cells_Shared) : Option (Int) :=
  some p0.ledger_mark
set_option maxRecDepth 100000 in
set_option maxHeartbeats 4000000 in
theorem cells_ledger_Mark_Shared_ok {z w : World} {L : List HProp} {p0 : T_cells_Shared} {B0 : Nat} {ca1 : Option Addr} {cc2 : Nat} {r0 : Int} (H : cells_ledger_Mark_Shared p0 = some r0) (h : Fit z (sepL (ob110 B0 p0 ca1 cc2 :: ro107 ca1 cc2 p0.cell :: L)) w)  :
    Calls Try.prog 84 #[pA B0 0] w fun e w => e = .returned (vI r0) ∧ Fit z (sepL (ob110 B0 p0 ca1 cc2 :: ro107 ca1 cc2 p0.cell :: L)) w := by
 unfold cells_ledger_Mark_Shared at H
 refine enter Try.func84 rfl 9 rfl rfl [(0, pA B0 0)] ⟨rfl, trivial⟩ ?_
 intro j a hr
 refine sr ?_
 refine ov hr (vI 0) (by kernel_rfl) ?_; clear hr a; intro a hr
 refine ln ?_
 refine wp_seq ?_
 refine sr ?_
 refine ovs [3, 4] [pA B0 0, vB false] hr ⟨rfl, rfl⟩ (by kernel_rfl) ?_; clear hr a; intro a hr
 refine ln ?_
 refine cond_ff hr (b := false) rfl ?_
 refine wp_skip ?_
 refine then_normal ?_
 refine sr ?_
 refine ovs [5, 6, 7] [pA B0 0, pA B0 0, pA B0 1] hr ⟨rfl, rfl⟩ (by kernel_rfl) ?_; clear hr a; intro a hr
 refine ld (wn rfl) hr (vI p0.ledger_mark) (h.cell 1 rfl) ?_; clear hr a; intro a hr
 refine ov hr (vI p0.ledger_mark) (by kernel_rfl) ?_; clear hr a; intro a hr
 refine ln ?_
 refine wp_ret ?_
 refine end_ret1 (v := vI p0.ledger_mark) rfl hr (by kernel_rfl) ?_
 replace H := ej1 H; subst H
 exact ⟨rfl, h⟩

/-- (*plunder/cells.Shared).Mark -/
def cells_Shared_Mark (p0 : T_cells_Shared) : Option (Int × T_cells_Shared) :=
  if p0.lock_mu_state = 0 then ob1 (cells_ledger_Mark_Shared ({ p0 with lock_mu_state := 1 })) (fun r4 => some (r4, { p0 with lock_mu_state := 0 })) else none
set_option maxRecDepth 100000 in
set_option maxHeartbeats 4000000 in
theorem cells_Shared_Mark_ok {z w : World} {L : List HProp} {p0 : T_cells_Shared} {B0 : Nat} {ca1 : Option Addr} {cc2 : Nat} {r0 : Int} {q0 : T_cells_Shared} (H : cells_Shared_Mark p0 = some (r0, q0)) (h : Fit z (sepL (ob110 B0 p0 ca1 cc2 :: ro107 ca1 cc2 p0.cell :: L)) w)  :
    Calls Try.prog 33 #[pA B0 0] w fun e w => ∃ caq0_1 : Option Addr, ∃ ccq0_2 : Nat, e = .returned (vI r0) ∧ Fit z (sepL (ob110 B0 q0 caq0_1 ccq0_2 :: ro107 caq0_1 ccq0_2 q0.cell :: L)) w := by
 unfold cells_Shared_Mark at H
 refine enterD Try.func33 rfl 16 rfl rfl [(0, pA B0 0)] ⟨rfl, trivial⟩ ?_
 intro j a hr
 refine sr ?_
 refine ov hr (vI 0) (by kernel_rfl) ?_; clear hr a; intro a hr
 refine ln ?_
 refine wp_seq ?_
 refine sr ?_
 refine ovs [3, 4] [pA B0 0, vB false] hr ⟨rfl, rfl⟩ (by kernel_rfl) ?_; clear hr a; intro a hr
 refine ln ?_
 refine cond_ff hr (b := false) rfl ?_
 refine wp_skip ?_
 refine then_normal ?_
 refine sr ?_
 replace H := gd H; obtain ⟨c3, H⟩ := H
 refine ovs [5, 6, 7] [pA B0 0, pA B0 0, pA B0 2] hr ⟨rfl, rfl⟩ (by kernel_rfl) ?_; clear hr a; intro a hr
 refine op_lock muLib (wn rfl) rfl rfl hr h (i := 2) (cs' := #[vI p0.ledger_size, vI p0.ledger_mark, .int .i32 1, .int .u32 p0.lock_mu_sema, vI p0.given_v, .slice ca1 p0.cell.length cc2]) (congrArg (fun q => some (Value.int .i32 q)) c3) rfl (by kernel_rfl) ?_; clear h hr a; intro w a h hr
 refine wpList_nil ?_
 replace h : Fit z (sepL (pts B0 (.cells #[vI p0.ledger_size, vI p0.ledger_mark, .int .i32 1, .int .u32 p0.lock_mu_sema, vI p0.given_v, .slice ca1 p0.cell.length cc2] 110) :: ro107 ca1 cc2 p0.cell :: L)) _ := h
 refine then_normal ?_
 refine sr ?_
 refine ovs [9, 10, 11] [pA B0 0, pA B0 0, pA B0 2] hr ⟨rfl, rfl⟩ (by kernel_rfl) ?_; clear hr a; intro a hr
 refine op_defer (wn rfl) rfl hr (q := { target := .fn (.func 83) #[], args := #[pA B0 2] }) (by kernel_rfl) ?_; clear hr a; intro a hr
 refine ln ?_
 refine sr ?_
 replace H := bd1 H; obtain ⟨r4, e5, H⟩ := H
 refine ovs [12, 13, 14] [pA B0 0, pA B0 0, pA B0 0] hr ⟨rfl, rfl⟩ (by kernel_rfl) ?_; clear hr a; intro a hr
 have hc := cells_ledger_Mark_Shared_ok (H := e5) (h := h)
 refine op_call (wn rfl) rfl rfl hr (f := 84) (args := #[pA B0 0]) (by kernel_rfl) hc ?_; clear hc h
 rintro _ w ⟨rfl, h⟩; refine ⟨_, rfl, ?_⟩
 clear hr a; intro a hr
 refine ov hr (vI r4) (by kernel_rfl) ?_; clear hr a; intro a hr
 refine ln ?_
 refine wp_ret ?_
 refine endD_unlock muLib hr (fun w => res1 (v := vI r4) rfl hr (by kernel_rfl) w) (fun _ => by kernel_rfl) h (i := 2) (cs' := #[vI p0.ledger_size, vI p0.ledger_mark, .int .i32 0, .int .u32 p0.lock_mu_sema, vI p0.given_v, .slice ca1 p0.cell.length cc2]) rfl rfl ?_; clear h; intro w h
 replace H := ej2 H; obtain ⟨rfl, rfl⟩ := H
 exact ⟨ca1, cc2, rfl, h⟩

/-- plunder/plunderlaw2.noneShared -/
def plunderlaw2_noneShared (p0 : T_cells_Shared) : Option (Bool × T_cells_Shared) :=
  ob2 (cells_Shared_Load p0 0) (fun r3 r4 => ob2 (cells_Shared_Store p0 0 1) (fun r6 S7 => ob3 (cells_Shared_CAS S7 0 0 1) (fun r11 r12 S13 => ob3 (cells_Shared_Add S13 0 1) (fun r17 r18 S19 => ob3 (cells_Shared_Reserve S19 1) (fun r23 r24 S25 => ob3 (cells_Shared_Reserve S25 0) (fun r29 r30 S31 => jn0 ((if r3 = (0 : Int) then (if r11 = true then some (.inr (false, S31)) else (if r17 = (0 : Int) then (if r23 = (0 : Int) then (if r29 = (0 : Int) then (if r4 = (20 : Int) then (if r6 = (20 : Int) then (if r12 = (20 : Int) then (if r18 = (20 : Int) then (if r24 = (22 : Int) then (if r30 = (21 : Int) then some (.inl ()) else some (.inr (false, S31))) else some (.inr (false, S31))) else some (.inr (false, S31))) else some (.inr (false, S31))) else some (.inr (false, S31))) else some (.inr (false, S31))) else some (.inr (false, S31))) else some (.inr (false, S31))) else some (.inr (false, S31)))) else some (.inr (false, S31)))) (ob1 (cells_Shared_Size S31) (fun r48 => (if r48 = (0 : Int) then ob2 (cells_Shared_Mark S31) (fun r51 S52 => some (r51 == (0 : Int), S52)) else some (false, S31))))))))))
set_option maxRecDepth 100000 in
set_option maxHeartbeats 4000000 in
theorem plunderlaw2_noneShared_ok {z w : World} {L : List HProp} {p0 : T_cells_Shared} {B0 : Nat} {ca1 : Option Addr} {cc2 : Nat} {r0 : Bool} {q0 : T_cells_Shared} (H : plunderlaw2_noneShared p0 = some (r0, q0)) (h : Fit z (sepL (ob110 B0 p0 ca1 cc2 :: ro107 ca1 cc2 p0.cell :: L)) w)  :
    Calls Try.prog 49 #[pA B0 0] w fun e w => ∃ caq0_1 : Option Addr, ∃ ccq0_2 : Nat, e = .returned (vB r0) ∧ Fit z (sepL (ob110 B0 q0 caq0_1 ccq0_2 :: ro107 caq0_1 ccq0_2 q0.cell :: L)) w := by
 unfold plunderlaw2_noneShared at H
 refine enter Try.func49 rfl 90 rfl rfl [(0, pA B0 0)] ⟨rfl, trivial⟩ ?_
 intro j a hr
 refine sr ?_
 refine ov hr (vB false) (by kernel_rfl) ?_; clear hr a; intro a hr
 refine ln ?_
 refine sr ?_
 replace H := bd2 H; obtain ⟨r3, r4, e5, H⟩ := H
 refine ov hr (pA B0 0) (by kernel_rfl) ?_; clear hr a; intro a hr
 have hc := cells_Shared_Load_ok (H := e5) (h := h)
 refine op_call (wn rfl) rfl rfl hr (f := 73) (args := #[pA B0 0, vI 0]) (by kernel_rfl) hc ?_; clear hc h
 rintro _ w ⟨rfl, h⟩; refine ⟨_, rfl, ?_⟩
 clear hr a; intro a hr
 refine ovs [14, 17, 18, 3, 4] [.tuple #[vI r3, vI r4], vI r3, vI r4, vI r3, vI r4] hr ⟨rfl, rfl⟩ (by kernel_rfl) ?_; clear hr a; intro a hr
 refine ln ?_
 refine sr ?_
 replace H := bd2 H; obtain ⟨r6, S7, e8, H⟩ := H
 refine ov hr (pA B0 0) (by kernel_rfl) ?_; clear hr a; intro a hr
 have hc := cells_Shared_Store_ok (H := e8) (h := h)
 refine op_call (wn rfl) rfl rfl hr (f := 74) (args := #[pA B0 0, vI 0, vI 1]) (by kernel_rfl) hc ?_; clear hc h
 rintro _ w ⟨caq9, ccq10, rfl, h⟩; refine ⟨_, rfl, ?_⟩
 clear hr a; intro a hr
 refine ov hr (vI r6) (by kernel_rfl) ?_; clear hr a; intro a hr
 refine ln ?_
 refine sr ?_
 replace H := bd3 H; obtain ⟨r11, r12, S13, e14, H⟩ := H
 refine ov hr (pA B0 0) (by kernel_rfl) ?_; clear hr a; intro a hr
 have hc := cells_Shared_CAS_ok (H := e14) (h := h)
 refine op_call (wn rfl) rfl rfl hr (f := 75) (args := #[pA B0 0, vI 0, vI 0, vI 1]) (by kernel_rfl) hc ?_; clear hc h
 rintro _ w ⟨caq15, ccq16, rfl, h⟩; refine ⟨_, rfl, ?_⟩
 clear hr a; intro a hr
 refine ovs [21, 24, 25, 6, 7] [.tuple #[vB r11, vI r12], vB r11, vI r12, vB r11, vI r12] hr ⟨rfl, rfl⟩ (by kernel_rfl) ?_; clear hr a; intro a hr
 refine ln ?_
 refine sr ?_
 replace H := bd3 H; obtain ⟨r17, r18, S19, e20, H⟩ := H
 refine ov hr (pA B0 0) (by kernel_rfl) ?_; clear hr a; intro a hr
 have hc := cells_Shared_Add_ok (H := e20) (h := h)
 refine op_call (wn rfl) rfl rfl hr (f := 76) (args := #[pA B0 0, vI 0, vI 1]) (by kernel_rfl) hc ?_; clear hc h
 rintro _ w ⟨caq21, ccq22, rfl, h⟩; refine ⟨_, rfl, ?_⟩
 clear hr a; intro a hr
 refine ovs [26, 29, 30, 8, 9] [.tuple #[vI r17, vI r18], vI r17, vI r18, vI r17, vI r18] hr ⟨rfl, rfl⟩ (by kernel_rfl) ?_; clear hr a; intro a hr
 refine ln ?_
 refine sr ?_
 replace H := bd3 H; obtain ⟨r23, r24, S25, e26, H⟩ := H
 refine ov hr (pA B0 0) (by kernel_rfl) ?_; clear hr a; intro a hr
 have hc := cells_Shared_Reserve_ok (H := e26) (h := h)
 refine op_call (wn rfl) rfl rfl hr (f := 77) (args := #[pA B0 0, vI 1]) (by kernel_rfl) hc ?_; clear hc h
 rintro _ w ⟨caq27, ccq28, rfl, h⟩; refine ⟨_, rfl, ?_⟩
 clear hr a; intro a hr
 refine ovs [31, 34, 35, 10, 11] [.tuple #[vI r23, vI r24], vI r23, vI r24, vI r23, vI r24] hr ⟨rfl, rfl⟩ (by kernel_rfl) ?_; clear hr a; intro a hr
 refine ln ?_
 refine sr ?_
 replace H := bd3 H; obtain ⟨r29, r30, S31, e32, H⟩ := H
 refine ov hr (pA B0 0) (by kernel_rfl) ?_; clear hr a; intro a hr
 have hc := cells_Shared_Reserve_ok (H := e32) (h := h)
 refine op_call (wn rfl) rfl rfl hr (f := 77) (args := #[pA B0 0, vI 0]) (by kernel_rfl) hc ?_; clear hc h
 rintro _ w ⟨caq33, ccq34, rfl, h⟩; refine ⟨_, rfl, ?_⟩
 clear hr a; intro a hr
 refine ovs [36, 39, 40, 12, 13] [.tuple #[vI r29, vI r30], vI r29, vI r30, vI r29, vI r30] hr ⟨rfl, rfl⟩ (by kernel_rfl) ?_; clear hr a; intro a hr
 refine ln ?_
 replace H := jd0 H; obtain ⟨o36, H, hK35⟩ := H
 refine cut_rule (β := Unit) (fun _ a w => .inl () = o36 ∧ ∃ j, Rep 90 (lk [(0, pA B0 0)] j) a ∧ Fit z (sepL (ob110 B0 S31 caq33 ccq34 :: ro107 caq33 ccq34 S31.cell :: L)) w) ?_ ?_
 ·
  refine sr ?_
  refine ovs [41, 42, 43] [vI r3, vB (r3 != (0 : Int)), vB (r3 != (0 : Int))] hr ⟨rfl, rfl⟩ (by kernel_rfl) ?_; clear hr a; intro a hr
  by_cases c37 : r3 = (0 : Int)
  ·
   replace H := ifT c37 H
   refine opv (wgt hr (bne_eq_false_iff_eq.mpr c37)) hr (vB r11) (by kernel_rfl) ?_; clear hr a; intro a hr
   refine opv (wn rfl) hr (vB r11) (rp_f (b := (r3 != (0 : Int))) rfl (by kernel_rfl) (bne_eq_false_iff_eq.mpr c37) (by kernel_rfl)) ?_; clear hr a; intro a hr
   refine ov hr (vB r11) (by kernel_rfl) ?_; clear hr a; intro a hr
   by_cases c38 : r11 = true
   ·
    replace H := ifT c38 H
    refine offg (wgt hr (c38)) hr ?_; clear hr a; intro a hr
    refine offg (wgt hr (c38)) hr ?_; clear hr a; intro a hr
    refine opv (wn rfl) hr (vB true) (rp_t (b := r11) rfl (by kernel_rfl) (c38) (by kernel_rfl)) ?_; clear hr a; intro a hr
    refine ov hr (vB true) (by kernel_rfl) ?_; clear hr a; intro a hr
    refine offg (wgt hr (c := true) rfl) hr ?_; clear hr a; intro a hr
    refine offg (wgt hr (c := true) rfl) hr ?_; clear hr a; intro a hr
    refine ovs [53, 54] [vB true, vB true] hr ⟨rfl, rfl⟩ (by kernel_rfl) ?_; clear hr a; intro a hr
    refine offg (wgt hr (c := true) rfl) hr ?_; clear hr a; intro a hr
    refine offg (wgt hr (c := true) rfl) hr ?_; clear hr a; intro a hr
    refine ovs [57, 58] [vB true, vB true] hr ⟨rfl, rfl⟩ (by kernel_rfl) ?_; clear hr a; intro a hr
    refine offg (wgt hr (c := true) rfl) hr ?_; clear hr a; intro a hr
    refine offg (wgt hr (c := true) rfl) hr ?_; clear hr a; intro a hr
    refine ovs [61, 62] [vB true, vB true] hr ⟨rfl, rfl⟩ (by kernel_rfl) ?_; clear hr a; intro a hr
    refine offg (wgt hr (c := true) rfl) hr ?_; clear hr a; intro a hr
    refine offg (wgt hr (c := true) rfl) hr ?_; clear hr a; intro a hr
    refine ovs [65, 66] [vB true, vB true] hr ⟨rfl, rfl⟩ (by kernel_rfl) ?_; clear hr a; intro a hr
    refine offg (wgt hr (c := true) rfl) hr ?_; clear hr a; intro a hr
    refine offg (wgt hr (c := true) rfl) hr ?_; clear hr a; intro a hr
    refine ovs [69, 70] [vB true, vB true] hr ⟨rfl, rfl⟩ (by kernel_rfl) ?_; clear hr a; intro a hr
    refine offg (wgt hr (c := true) rfl) hr ?_; clear hr a; intro a hr
    refine offg (wgt hr (c := true) rfl) hr ?_; clear hr a; intro a hr
    refine ovs [73, 74] [vB true, vB true] hr ⟨rfl, rfl⟩ (by kernel_rfl) ?_; clear hr a; intro a hr
    refine offg (wgt hr (c := true) rfl) hr ?_; clear hr a; intro a hr
    refine offg (wgt hr (c := true) rfl) hr ?_; clear hr a; intro a hr
    refine ovs [77, 78] [vB true, vB true] hr ⟨rfl, rfl⟩ (by kernel_rfl) ?_; clear hr a; intro a hr
    refine offg (wgt hr (c := true) rfl) hr ?_; clear hr a; intro a hr
    refine offg (wgt hr (c := true) rfl) hr ?_; clear hr a; intro a hr
    refine ov hr (vB true) (by kernel_rfl) ?_; clear hr a; intro a hr
    refine ln ?_
    refine cond_tt hr (b := true) rfl ?_
    refine sr ?_
    refine ov hr (vB false) (by kernel_rfl) ?_; clear hr a; intro a hr
    refine ln ?_
    refine wp_ret ?_
    refine then_ret ?_
    refine end_ret1 (v := vB false) rfl hr (by kernel_rfl) ?_
    replace H := jx0 H hK35
    replace H := ej2 H; obtain ⟨rfl, rfl⟩ := H
    exact ⟨caq33, ccq34, rfl, h⟩
   ·
    replace H := ifF c38 H
    refine opv (wgt hr (bF c38)) hr (vI r17) (by kernel_rfl) ?_; clear hr a; intro a hr
    refine opv (wgt hr (bF c38)) hr (vB (r17 != (0 : Int))) (by kernel_rfl) ?_; clear hr a; intro a hr
    refine opv (wn rfl) hr (vB (r17 != (0 : Int))) (rp_f (b := r11) rfl (by kernel_rfl) (bF c38) (by kernel_rfl)) ?_; clear hr a; intro a hr
    refine ov hr (vB (r17 != (0 : Int))) (by kernel_rfl) ?_; clear hr a; intro a hr
    by_cases c39 : r17 = (0 : Int)
    ·
     replace H := ifT c39 H
     refine opv (wgt hr (bne_eq_false_iff_eq.mpr c39)) hr (vI r23) (by kernel_rfl) ?_; clear hr a; intro a hr
     refine opv (wgt hr (bne_eq_false_iff_eq.mpr c39)) hr (vB (r23 != (0 : Int))) (by kernel_rfl) ?_; clear hr a; intro a hr
     refine opv (wn rfl) hr (vB (r23 != (0 : Int))) (rp_f (b := (r17 != (0 : Int))) rfl (by kernel_rfl) (bne_eq_false_iff_eq.mpr c39) (by kernel_rfl)) ?_; clear hr a; intro a hr
     refine ov hr (vB (r23 != (0 : Int))) (by kernel_rfl) ?_; clear hr a; intro a hr
     by_cases c40 : r23 = (0 : Int)
     ·
      replace H := ifT c40 H
      refine opv (wgt hr (bne_eq_false_iff_eq.mpr c40)) hr (vI r29) (by kernel_rfl) ?_; clear hr a; intro a hr
      refine opv (wgt hr (bne_eq_false_iff_eq.mpr c40)) hr (vB (r29 != (0 : Int))) (by kernel_rfl) ?_; clear hr a; intro a hr
      refine opv (wn rfl) hr (vB (r29 != (0 : Int))) (rp_f (b := (r23 != (0 : Int))) rfl (by kernel_rfl) (bne_eq_false_iff_eq.mpr c40) (by kernel_rfl)) ?_; clear hr a; intro a hr
      refine ov hr (vB (r29 != (0 : Int))) (by kernel_rfl) ?_; clear hr a; intro a hr
      by_cases c41 : r29 = (0 : Int)
      ·
       replace H := ifT c41 H
       refine opv (wgt hr (bne_eq_false_iff_eq.mpr c41)) hr (vI r4) (by kernel_rfl) ?_; clear hr a; intro a hr
       refine opv (wgt hr (bne_eq_false_iff_eq.mpr c41)) hr (vB (r4 != (20 : Int))) (by kernel_rfl) ?_; clear hr a; intro a hr
       refine opv (wn rfl) hr (vB (r4 != (20 : Int))) (rp_f (b := (r29 != (0 : Int))) rfl (by kernel_rfl) (bne_eq_false_iff_eq.mpr c41) (by kernel_rfl)) ?_; clear hr a; intro a hr
       refine ov hr (vB (r4 != (20 : Int))) (by kernel_rfl) ?_; clear hr a; intro a hr
       by_cases c42 : r4 = (20 : Int)
       ·
        replace H := ifT c42 H
        refine opv (wgt hr (bne_eq_false_iff_eq.mpr c42)) hr (vI r6) (by kernel_rfl) ?_; clear hr a; intro a hr
        refine opv (wgt hr (bne_eq_false_iff_eq.mpr c42)) hr (vB (r6 != (20 : Int))) (by kernel_rfl) ?_; clear hr a; intro a hr
        refine opv (wn rfl) hr (vB (r6 != (20 : Int))) (rp_f (b := (r4 != (20 : Int))) rfl (by kernel_rfl) (bne_eq_false_iff_eq.mpr c42) (by kernel_rfl)) ?_; clear hr a; intro a hr
        refine ov hr (vB (r6 != (20 : Int))) (by kernel_rfl) ?_; clear hr a; intro a hr
        by_cases c43 : r6 = (20 : Int)
        ·
         replace H := ifT c43 H
         refine opv (wgt hr (bne_eq_false_iff_eq.mpr c43)) hr (vI r12) (by kernel_rfl) ?_; clear hr a; intro a hr
         refine opv (wgt hr (bne_eq_false_iff_eq.mpr c43)) hr (vB (r12 != (20 : Int))) (by kernel_rfl) ?_; clear hr a; intro a hr
         refine opv (wn rfl) hr (vB (r12 != (20 : Int))) (rp_f (b := (r6 != (20 : Int))) rfl (by kernel_rfl) (bne_eq_false_iff_eq.mpr c43) (by kernel_rfl)) ?_; clear hr a; intro a hr
         refine ov hr (vB (r12 != (20 : Int))) (by kernel_rfl) ?_; clear hr a; intro a hr
         by_cases c44 : r12 = (20 : Int)
         ·
          replace H := ifT c44 H
          refine opv (wgt hr (bne_eq_false_iff_eq.mpr c44)) hr (vI r18) (by kernel_rfl) ?_; clear hr a; intro a hr
          refine opv (wgt hr (bne_eq_false_iff_eq.mpr c44)) hr (vB (r18 != (20 : Int))) (by kernel_rfl) ?_; clear hr a; intro a hr
          refine opv (wn rfl) hr (vB (r18 != (20 : Int))) (rp_f (b := (r12 != (20 : Int))) rfl (by kernel_rfl) (bne_eq_false_iff_eq.mpr c44) (by kernel_rfl)) ?_; clear hr a; intro a hr
          refine ov hr (vB (r18 != (20 : Int))) (by kernel_rfl) ?_; clear hr a; intro a hr
          by_cases c45 : r18 = (20 : Int)
          ·
           replace H := ifT c45 H
           refine opv (wgt hr (bne_eq_false_iff_eq.mpr c45)) hr (vI r24) (by kernel_rfl) ?_; clear hr a; intro a hr
           refine opv (wgt hr (bne_eq_false_iff_eq.mpr c45)) hr (vB (r24 != (22 : Int))) (by kernel_rfl) ?_; clear hr a; intro a hr
           refine opv (wn rfl) hr (vB (r24 != (22 : Int))) (rp_f (b := (r18 != (20 : Int))) rfl (by kernel_rfl) (bne_eq_false_iff_eq.mpr c45) (by kernel_rfl)) ?_; clear hr a; intro a hr
           refine ov hr (vB (r24 != (22 : Int))) (by kernel_rfl) ?_; clear hr a; intro a hr
           by_cases c46 : r24 = (22 : Int)
           ·
            replace H := ifT c46 H
            refine opv (wgt hr (bne_eq_false_iff_eq.mpr c46)) hr (vI r30) (by kernel_rfl) ?_; clear hr a; intro a hr
            refine opv (wgt hr (bne_eq_false_iff_eq.mpr c46)) hr (vB (r30 != (21 : Int))) (by kernel_rfl) ?_; clear hr a; intro a hr
            refine opv (wn rfl) hr (vB (r30 != (21 : Int))) (rp_f (b := (r24 != (22 : Int))) rfl (by kernel_rfl) (bne_eq_false_iff_eq.mpr c46) (by kernel_rfl)) ?_; clear hr a; intro a hr
            refine ln ?_
            by_cases c47 : r30 = (21 : Int)
            ·
             replace H := ifT c47 H
             refine cond_ff hr (b := (r30 != (21 : Int))) (bne_eq_false_iff_eq.mpr c47) ?_
             refine wp_skip ?_
             refine then_normal ?_
             replace hr := hr.fold2 [(0, pA B0 0)] (by kernel_rfl); obtain ⟨j, hr⟩ := hr
             exact ⟨(), sinj H, j, hr, h⟩
            ·
             replace H := ifF c47 H
             refine cond_tt hr (b := (r30 != (21 : Int))) (bne_iff_ne.mpr c47) ?_
             refine sr ?_
             refine ov hr (vB false) (by kernel_rfl) ?_; clear hr a; intro a hr
             refine ln ?_
             refine wp_ret ?_
             refine then_ret ?_
             refine end_ret1 (v := vB false) rfl hr (by kernel_rfl) ?_
             replace H := jx0 H hK35
             replace H := ej2 H; obtain ⟨rfl, rfl⟩ := H
             exact ⟨caq33, ccq34, rfl, h⟩
           ·
            replace H := ifF c46 H
            refine offg (wgt hr (bne_iff_ne.mpr c46)) hr ?_; clear hr a; intro a hr
            refine offg (wgt hr (bne_iff_ne.mpr c46)) hr ?_; clear hr a; intro a hr
            refine opv (wn rfl) hr (vB true) (rp_t (b := (r24 != (22 : Int))) rfl (by kernel_rfl) (bne_iff_ne.mpr c46) (by kernel_rfl)) ?_; clear hr a; intro a hr
            refine ln ?_
            refine cond_tt hr (b := true) rfl ?_
            refine sr ?_
            refine ov hr (vB false) (by kernel_rfl) ?_; clear hr a; intro a hr
            refine ln ?_
            refine wp_ret ?_
            refine then_ret ?_
            refine end_ret1 (v := vB false) rfl hr (by kernel_rfl) ?_
            replace H := jx0 H hK35
            replace H := ej2 H; obtain ⟨rfl, rfl⟩ := H
            exact ⟨caq33, ccq34, rfl, h⟩
          ·
           replace H := ifF c45 H
           refine offg (wgt hr (bne_iff_ne.mpr c45)) hr ?_; clear hr a; intro a hr
           refine offg (wgt hr (bne_iff_ne.mpr c45)) hr ?_; clear hr a; intro a hr
           refine opv (wn rfl) hr (vB true) (rp_t (b := (r18 != (20 : Int))) rfl (by kernel_rfl) (bne_iff_ne.mpr c45) (by kernel_rfl)) ?_; clear hr a; intro a hr
           refine ov hr (vB true) (by kernel_rfl) ?_; clear hr a; intro a hr
           refine offg (wgt hr (c := true) rfl) hr ?_; clear hr a; intro a hr
           refine offg (wgt hr (c := true) rfl) hr ?_; clear hr a; intro a hr
           refine ov hr (vB true) (by kernel_rfl) ?_; clear hr a; intro a hr
           refine ln ?_
           refine cond_tt hr (b := true) rfl ?_
           refine sr ?_
           refine ov hr (vB false) (by kernel_rfl) ?_; clear hr a; intro a hr
           refine ln ?_
           refine wp_ret ?_
           refine then_ret ?_
           refine end_ret1 (v := vB false) rfl hr (by kernel_rfl) ?_
           replace H := jx0 H hK35
           replace H := ej2 H; obtain ⟨rfl, rfl⟩ := H
           exact ⟨caq33, ccq34, rfl, h⟩
         ·
          replace H := ifF c44 H
          refine offg (wgt hr (bne_iff_ne.mpr c44)) hr ?_; clear hr a; intro a hr
          refine offg (wgt hr (bne_iff_ne.mpr c44)) hr ?_; clear hr a; intro a hr
          refine opv (wn rfl) hr (vB true) (rp_t (b := (r12 != (20 : Int))) rfl (by kernel_rfl) (bne_iff_ne.mpr c44) (by kernel_rfl)) ?_; clear hr a; intro a hr
          refine ov hr (vB true) (by kernel_rfl) ?_; clear hr a; intro a hr
          refine offg (wgt hr (c := true) rfl) hr ?_; clear hr a; intro a hr
          refine offg (wgt hr (c := true) rfl) hr ?_; clear hr a; intro a hr
          refine ovs [77, 78] [vB true, vB true] hr ⟨rfl, rfl⟩ (by kernel_rfl) ?_; clear hr a; intro a hr
          refine offg (wgt hr (c := true) rfl) hr ?_; clear hr a; intro a hr
          refine offg (wgt hr (c := true) rfl) hr ?_; clear hr a; intro a hr
          refine ov hr (vB true) (by kernel_rfl) ?_; clear hr a; intro a hr
          refine ln ?_
          refine cond_tt hr (b := true) rfl ?_
          refine sr ?_
          refine ov hr (vB false) (by kernel_rfl) ?_; clear hr a; intro a hr
          refine ln ?_
          refine wp_ret ?_
          refine then_ret ?_
          refine end_ret1 (v := vB false) rfl hr (by kernel_rfl) ?_
          replace H := jx0 H hK35
          replace H := ej2 H; obtain ⟨rfl, rfl⟩ := H
          exact ⟨caq33, ccq34, rfl, h⟩
        ·
         replace H := ifF c43 H
         refine offg (wgt hr (bne_iff_ne.mpr c43)) hr ?_; clear hr a; intro a hr
         refine offg (wgt hr (bne_iff_ne.mpr c43)) hr ?_; clear hr a; intro a hr
         refine opv (wn rfl) hr (vB true) (rp_t (b := (r6 != (20 : Int))) rfl (by kernel_rfl) (bne_iff_ne.mpr c43) (by kernel_rfl)) ?_; clear hr a; intro a hr
         refine ov hr (vB true) (by kernel_rfl) ?_; clear hr a; intro a hr
         refine offg (wgt hr (c := true) rfl) hr ?_; clear hr a; intro a hr
         refine offg (wgt hr (c := true) rfl) hr ?_; clear hr a; intro a hr
         refine ovs [73, 74] [vB true, vB true] hr ⟨rfl, rfl⟩ (by kernel_rfl) ?_; clear hr a; intro a hr
         refine offg (wgt hr (c := true) rfl) hr ?_; clear hr a; intro a hr
         refine offg (wgt hr (c := true) rfl) hr ?_; clear hr a; intro a hr
         refine ovs [77, 78] [vB true, vB true] hr ⟨rfl, rfl⟩ (by kernel_rfl) ?_; clear hr a; intro a hr
         refine offg (wgt hr (c := true) rfl) hr ?_; clear hr a; intro a hr
         refine offg (wgt hr (c := true) rfl) hr ?_; clear hr a; intro a hr
         refine ov hr (vB true) (by kernel_rfl) ?_; clear hr a; intro a hr
         refine ln ?_
         refine cond_tt hr (b := true) rfl ?_
         refine sr ?_
         refine ov hr (vB false) (by kernel_rfl) ?_; clear hr a; intro a hr
         refine ln ?_
         refine wp_ret ?_
         refine then_ret ?_
         refine end_ret1 (v := vB false) rfl hr (by kernel_rfl) ?_
         replace H := jx0 H hK35
         replace H := ej2 H; obtain ⟨rfl, rfl⟩ := H
         exact ⟨caq33, ccq34, rfl, h⟩
       ·
        replace H := ifF c42 H
        refine offg (wgt hr (bne_iff_ne.mpr c42)) hr ?_; clear hr a; intro a hr
        refine offg (wgt hr (bne_iff_ne.mpr c42)) hr ?_; clear hr a; intro a hr
        refine opv (wn rfl) hr (vB true) (rp_t (b := (r4 != (20 : Int))) rfl (by kernel_rfl) (bne_iff_ne.mpr c42) (by kernel_rfl)) ?_; clear hr a; intro a hr
        refine ov hr (vB true) (by kernel_rfl) ?_; clear hr a; intro a hr
        refine offg (wgt hr (c := true) rfl) hr ?_; clear hr a; intro a hr
        refine offg (wgt hr (c := true) rfl) hr ?_; clear hr a; intro a hr
        refine ovs [69, 70] [vB true, vB true] hr ⟨rfl, rfl⟩ (by kernel_rfl) ?_; clear hr a; intro a hr
        refine offg (wgt hr (c := true) rfl) hr ?_; clear hr a; intro a hr
        refine offg (wgt hr (c := true) rfl) hr ?_; clear hr a; intro a hr
        refine ovs [73, 74] [vB true, vB true] hr ⟨rfl, rfl⟩ (by kernel_rfl) ?_; clear hr a; intro a hr
        refine offg (wgt hr (c := true) rfl) hr ?_; clear hr a; intro a hr
        refine offg (wgt hr (c := true) rfl) hr ?_; clear hr a; intro a hr
        refine ovs [77, 78] [vB true, vB true] hr ⟨rfl, rfl⟩ (by kernel_rfl) ?_; clear hr a; intro a hr
        refine offg (wgt hr (c := true) rfl) hr ?_; clear hr a; intro a hr
        refine offg (wgt hr (c := true) rfl) hr ?_; clear hr a; intro a hr
        refine ov hr (vB true) (by kernel_rfl) ?_; clear hr a; intro a hr
        refine ln ?_
        refine cond_tt hr (b := true) rfl ?_
        refine sr ?_
        refine ov hr (vB false) (by kernel_rfl) ?_; clear hr a; intro a hr
        refine ln ?_
        refine wp_ret ?_
        refine then_ret ?_
        refine end_ret1 (v := vB false) rfl hr (by kernel_rfl) ?_
        replace H := jx0 H hK35
        replace H := ej2 H; obtain ⟨rfl, rfl⟩ := H
        exact ⟨caq33, ccq34, rfl, h⟩
      ·
       replace H := ifF c41 H
       refine offg (wgt hr (bne_iff_ne.mpr c41)) hr ?_; clear hr a; intro a hr
       refine offg (wgt hr (bne_iff_ne.mpr c41)) hr ?_; clear hr a; intro a hr
       refine opv (wn rfl) hr (vB true) (rp_t (b := (r29 != (0 : Int))) rfl (by kernel_rfl) (bne_iff_ne.mpr c41) (by kernel_rfl)) ?_; clear hr a; intro a hr
       refine ov hr (vB true) (by kernel_rfl) ?_; clear hr a; intro a hr
       refine offg (wgt hr (c := true) rfl) hr ?_; clear hr a; intro a hr
       refine offg (wgt hr (c := true) rfl) hr ?_; clear hr a; intro a hr
       refine ovs [65, 66] [vB true, vB true] hr ⟨rfl, rfl⟩ (by kernel_rfl) ?_; clear hr a; intro a hr
       refine offg (wgt hr (c := true) rfl) hr ?_; clear hr a; intro a hr
       refine offg (wgt hr (c := true) rfl) hr ?_; clear hr a; intro a hr
       refine ovs [69, 70] [vB true, vB true] hr ⟨rfl, rfl⟩ (by kernel_rfl) ?_; clear hr a; intro a hr
       refine offg (wgt hr (c := true) rfl) hr ?_; clear hr a; intro a hr
       refine offg (wgt hr (c := true) rfl) hr ?_; clear hr a; intro a hr
       refine ovs [73, 74] [vB true, vB true] hr ⟨rfl, rfl⟩ (by kernel_rfl) ?_; clear hr a; intro a hr
       refine offg (wgt hr (c := true) rfl) hr ?_; clear hr a; intro a hr
       refine offg (wgt hr (c := true) rfl) hr ?_; clear hr a; intro a hr
       refine ovs [77, 78] [vB true, vB true] hr ⟨rfl, rfl⟩ (by kernel_rfl) ?_; clear hr a; intro a hr
       refine offg (wgt hr (c := true) rfl) hr ?_; clear hr a; intro a hr
       refine offg (wgt hr (c := true) rfl) hr ?_; clear hr a; intro a hr
       refine ov hr (vB true) (by kernel_rfl) ?_; clear hr a; intro a hr
       refine ln ?_
       refine cond_tt hr (b := true) rfl ?_
       refine sr ?_
       refine ov hr (vB false) (by kernel_rfl) ?_; clear hr a; intro a hr
       refine ln ?_
       refine wp_ret ?_
       refine then_ret ?_
       refine end_ret1 (v := vB false) rfl hr (by kernel_rfl) ?_
       replace H := jx0 H hK35
       replace H := ej2 H; obtain ⟨rfl, rfl⟩ := H
       exact ⟨caq33, ccq34, rfl, h⟩
     ·
      replace H := ifF c40 H
      refine offg (wgt hr (bne_iff_ne.mpr c40)) hr ?_; clear hr a; intro a hr
      refine offg (wgt hr (bne_iff_ne.mpr c40)) hr ?_; clear hr a; intro a hr
      refine opv (wn rfl) hr (vB true) (rp_t (b := (r23 != (0 : Int))) rfl (by kernel_rfl) (bne_iff_ne.mpr c40) (by kernel_rfl)) ?_; clear hr a; intro a hr
      refine ov hr (vB true) (by kernel_rfl) ?_; clear hr a; intro a hr
      refine offg (wgt hr (c := true) rfl) hr ?_; clear hr a; intro a hr
      refine offg (wgt hr (c := true) rfl) hr ?_; clear hr a; intro a hr
      refine ovs [61, 62] [vB true, vB true] hr ⟨rfl, rfl⟩ (by kernel_rfl) ?_; clear hr a; intro a hr
      refine offg (wgt hr (c := true) rfl) hr ?_; clear hr a; intro a hr
      refine offg (wgt hr (c := true) rfl) hr ?_; clear hr a; intro a hr
      refine ovs [65, 66] [vB true, vB true] hr ⟨rfl, rfl⟩ (by kernel_rfl) ?_; clear hr a; intro a hr
      refine offg (wgt hr (c := true) rfl) hr ?_; clear hr a; intro a hr
      refine offg (wgt hr (c := true) rfl) hr ?_; clear hr a; intro a hr
      refine ovs [69, 70] [vB true, vB true] hr ⟨rfl, rfl⟩ (by kernel_rfl) ?_; clear hr a; intro a hr
      refine offg (wgt hr (c := true) rfl) hr ?_; clear hr a; intro a hr
      refine offg (wgt hr (c := true) rfl) hr ?_; clear hr a; intro a hr
      refine ovs [73, 74] [vB true, vB true] hr ⟨rfl, rfl⟩ (by kernel_rfl) ?_; clear hr a; intro a hr
      refine offg (wgt hr (c := true) rfl) hr ?_; clear hr a; intro a hr
      refine offg (wgt hr (c := true) rfl) hr ?_; clear hr a; intro a hr
      refine ovs [77, 78] [vB true, vB true] hr ⟨rfl, rfl⟩ (by kernel_rfl) ?_; clear hr a; intro a hr
      refine offg (wgt hr (c := true) rfl) hr ?_; clear hr a; intro a hr
      refine offg (wgt hr (c := true) rfl) hr ?_; clear hr a; intro a hr
      refine ov hr (vB true) (by kernel_rfl) ?_; clear hr a; intro a hr
      refine ln ?_
      refine cond_tt hr (b := true) rfl ?_
      refine sr ?_
      refine ov hr (vB false) (by kernel_rfl) ?_; clear hr a; intro a hr
      refine ln ?_
      refine wp_ret ?_
      refine then_ret ?_
      refine end_ret1 (v := vB false) rfl hr (by kernel_rfl) ?_
      replace H := jx0 H hK35
      replace H := ej2 H; obtain ⟨rfl, rfl⟩ := H
      exact ⟨caq33, ccq34, rfl, h⟩
    ·
     replace H := ifF c39 H
     refine offg (wgt hr (bne_iff_ne.mpr c39)) hr ?_; clear hr a; intro a hr
     refine offg (wgt hr (bne_iff_ne.mpr c39)) hr ?_; clear hr a; intro a hr
     refine opv (wn rfl) hr (vB true) (rp_t (b := (r17 != (0 : Int))) rfl (by kernel_rfl) (bne_iff_ne.mpr c39) (by kernel_rfl)) ?_; clear hr a; intro a hr
     refine ov hr (vB true) (by kernel_rfl) ?_; clear hr a; intro a hr
     refine offg (wgt hr (c := true) rfl) hr ?_; clear hr a; intro a hr
     refine offg (wgt hr (c := true) rfl) hr ?_; clear hr a; intro a hr
     refine ovs [57, 58] [vB true, vB true] hr ⟨rfl, rfl⟩ (by kernel_rfl) ?_; clear hr a; intro a hr
     refine offg (wgt hr (c := true) rfl) hr ?_; clear hr a; intro a hr
     refine offg (wgt hr (c := true) rfl) hr ?_; clear hr a; intro a hr
     refine ovs [61, 62] [vB true, vB true] hr ⟨rfl, rfl⟩ (by kernel_rfl) ?_; clear hr a; intro a hr
     refine offg (wgt hr (c := true) rfl) hr ?_; clear hr a; intro a hr
     refine offg (wgt hr (c := true) rfl) hr ?_; clear hr a; intro a hr
     refine ovs [65, 66] [vB true, vB true] hr ⟨rfl, rfl⟩ (by kernel_rfl) ?_; clear hr a; intro a hr
     refine offg (wgt hr (c := true) rfl) hr ?_; clear hr a; intro a hr
     refine offg (wgt hr (c := true) rfl) hr ?_; clear hr a; intro a hr
     refine ovs [69, 70] [vB true, vB true] hr ⟨rfl, rfl⟩ (by kernel_rfl) ?_; clear hr a; intro a hr
     refine offg (wgt hr (c := true) rfl) hr ?_; clear hr a; intro a hr
     refine offg (wgt hr (c := true) rfl) hr ?_; clear hr a; intro a hr
     refine ovs [73, 74] [vB true, vB true] hr ⟨rfl, rfl⟩ (by kernel_rfl) ?_; clear hr a; intro a hr
     refine offg (wgt hr (c := true) rfl) hr ?_; clear hr a; intro a hr
     refine offg (wgt hr (c := true) rfl) hr ?_; clear hr a; intro a hr
     refine ovs [77, 78] [vB true, vB true] hr ⟨rfl, rfl⟩ (by kernel_rfl) ?_; clear hr a; intro a hr
     refine offg (wgt hr (c := true) rfl) hr ?_; clear hr a; intro a hr
     refine offg (wgt hr (c := true) rfl) hr ?_; clear hr a; intro a hr
     refine ov hr (vB true) (by kernel_rfl) ?_; clear hr a; intro a hr
     refine ln ?_
     refine cond_tt hr (b := true) rfl ?_
     refine sr ?_
     refine ov hr (vB false) (by kernel_rfl) ?_; clear hr a; intro a hr
     refine ln ?_
     refine wp_ret ?_
     refine then_ret ?_
     refine end_ret1 (v := vB false) rfl hr (by kernel_rfl) ?_
     replace H := jx0 H hK35
     replace H := ej2 H; obtain ⟨rfl, rfl⟩ := H
     exact ⟨caq33, ccq34, rfl, h⟩
  ·
   replace H := ifF c37 H
   refine offg (wgt hr (bne_iff_ne.mpr c37)) hr ?_; clear hr a; intro a hr
   refine opv (wn rfl) hr (vB true) (rp_t (b := (r3 != (0 : Int))) rfl (by kernel_rfl) (bne_iff_ne.mpr c37) (by kernel_rfl)) ?_; clear hr a; intro a hr
   refine ov hr (vB true) (by kernel_rfl) ?_; clear hr a; intro a hr
   refine offg (wgt hr (c := true) rfl) hr ?_; clear hr a; intro a hr
   refine offg (wgt hr (c := true) rfl) hr ?_; clear hr a; intro a hr
   refine ovs [49, 50] [vB true, vB true] hr ⟨rfl, rfl⟩ (by kernel_rfl) ?_; clear hr a; intro a hr
   refine offg (wgt hr (c := true) rfl) hr ?_; clear hr a; intro a hr
   refine offg (wgt hr (c := true) rfl) hr ?_; clear hr a; intro a hr
   refine ovs [53, 54] [vB true, vB true] hr ⟨rfl, rfl⟩ (by kernel_rfl) ?_; clear hr a; intro a hr
   refine offg (wgt hr (c := true) rfl) hr ?_; clear hr a; intro a hr
   refine offg (wgt hr (c := true) rfl) hr ?_; clear hr a; intro a hr
   refine ovs [57, 58] [vB true, vB true] hr ⟨rfl, rfl⟩ (by kernel_rfl) ?_; clear hr a; intro a hr
   refine offg (wgt hr (c := true) rfl) hr ?_; clear hr a; intro a hr
   refine offg (wgt hr (c := true) rfl) hr ?_; clear hr a; intro a hr
   refine ovs [61, 62] [vB true, vB true] hr ⟨rfl, rfl⟩ (by kernel_rfl) ?_; clear hr a; intro a hr
   refine offg (wgt hr (c := true) rfl) hr ?_; clear hr a; intro a hr
   refine offg (wgt hr (c := true) rfl) hr ?_; clear hr a; intro a hr
   refine ovs [65, 66] [vB true, vB true] hr ⟨rfl, rfl⟩ (by kernel_rfl) ?_; clear hr a; intro a hr
   refine offg (wgt hr (c := true) rfl) hr ?_; clear hr a; intro a hr
   refine offg (wgt hr (c := true) rfl) hr ?_; clear hr a; intro a hr
   refine ovs [69, 70] [vB true, vB true] hr ⟨rfl, rfl⟩ (by kernel_rfl) ?_; clear hr a; intro a hr
   refine offg (wgt hr (c := true) rfl) hr ?_; clear hr a; intro a hr
   refine offg (wgt hr (c := true) rfl) hr ?_; clear hr a; intro a hr
   refine ovs [73, 74] [vB true, vB true] hr ⟨rfl, rfl⟩ (by kernel_rfl) ?_; clear hr a; intro a hr
   refine offg (wgt hr (c := true) rfl) hr ?_; clear hr a; intro a hr
   refine offg (wgt hr (c := true) rfl) hr ?_; clear hr a; intro a hr
   refine ovs [77, 78] [vB true, vB true] hr ⟨rfl, rfl⟩ (by kernel_rfl) ?_; clear hr a; intro a hr
   refine offg (wgt hr (c := true) rfl) hr ?_; clear hr a; intro a hr
   refine offg (wgt hr (c := true) rfl) hr ?_; clear hr a; intro a hr
   refine ov hr (vB true) (by kernel_rfl) ?_; clear hr a; intro a hr
   refine ln ?_
   refine cond_tt hr (b := true) rfl ?_
   refine sr ?_
   refine ov hr (vB false) (by kernel_rfl) ?_; clear hr a; intro a hr
   refine ln ?_
   refine wp_ret ?_
   refine then_ret ?_
   refine end_ret1 (v := vB false) rfl hr (by kernel_rfl) ?_
   replace H := jx0 H hK35
   replace H := ej2 H; obtain ⟨rfl, rfl⟩ := H
   exact ⟨caq33, ccq34, rfl, h⟩
 clear h hr a; rintro _ a w ⟨rfl, j, hr, h⟩
 replace H := jk0 hK35
 refine sr ?_
 replace H := bd1 H; obtain ⟨r48, e49, H⟩ := H
 refine ov hr (pA B0 0) (by kernel_rfl) ?_; clear hr a; intro a hr
 have hc := cells_Shared_Size_ok (H := e49) (h := h)
 refine op_call (wn rfl) rfl rfl hr (f := 32) (args := #[pA B0 0]) (by kernel_rfl) hc ?_; clear hc h
 rintro _ w ⟨rfl, h⟩; refine ⟨_, rfl, ?_⟩
 clear hr a; intro a hr
 refine ovs [84, 85] [vB (r48 == (0 : Int)), vB (r48 == (0 : Int))] hr ⟨rfl, rfl⟩ (by kernel_rfl) ?_; clear hr a; intro a hr
 by_cases c50 : r48 = (0 : Int)
 ·
  replace H := ifT c50 H
  refine opv (wgt hr (beq_iff_eq.mpr c50)) hr (pA B0 0) (by kernel_rfl) ?_; clear hr a; intro a hr
  replace H := bd2 H; obtain ⟨r51, S52, e53, H⟩ := H
  have hc := cells_Shared_Mark_ok (H := e53) (h := h)
  refine op_call (wgt hr (beq_iff_eq.mpr c50)) rfl rfl hr (f := 33) (args := #[pA B0 0]) (by kernel_rfl) hc ?_; clear hc h
  rintro _ w ⟨caq54, ccq55, rfl, h⟩; refine ⟨_, rfl, ?_⟩
  clear hr a; intro a hr
  refine opv (wgt hr (beq_iff_eq.mpr c50)) hr (vB (r51 == (0 : Int))) (by kernel_rfl) ?_; clear hr a; intro a hr
  refine opv (wn rfl) hr (vB (r51 == (0 : Int))) (rp_t (b := (r48 == (0 : Int))) rfl (by kernel_rfl) (beq_iff_eq.mpr c50) (by kernel_rfl)) ?_; clear hr a; intro a hr
  refine ov hr (vB (r51 == (0 : Int))) (by kernel_rfl) ?_; clear hr a; intro a hr
  refine ln ?_
  refine wp_ret ?_
  refine end_ret1 (v := vB (r51 == (0 : Int))) rfl hr (by kernel_rfl) ?_
  replace H := ej2 H; obtain ⟨rfl, rfl⟩ := H
  exact ⟨caq54, ccq55, rfl, h⟩
 ·
  replace H := ifF c50 H
  refine offg (wgt hr (beq_eq_false_iff_ne.mpr c50)) hr ?_; clear hr a; intro a hr
  refine offg (wgt hr (beq_eq_false_iff_ne.mpr c50)) hr ?_; clear hr a; intro a hr
  refine offg (wgt hr (beq_eq_false_iff_ne.mpr c50)) hr ?_; clear hr a; intro a hr
  refine opv (wn rfl) hr (vB false) (rp_f (b := (r48 == (0 : Int))) rfl (by kernel_rfl) (beq_eq_false_iff_ne.mpr c50) (by kernel_rfl)) ?_; clear hr a; intro a hr
  refine ov hr (vB false) (by kernel_rfl) ?_; clear hr a; intro a hr
  refine ln ?_
  refine wp_ret ?_
  refine end_ret1 (v := vB false) rfl hr (by kernel_rfl) ?_
  replace H := ej2 H; obtain ⟨rfl, rfl⟩ := H
  exact ⟨caq33, ccq34, rfl, h⟩

/-- plunder/plunderlaw2.CellsNone -/
def plunderlaw2_CellsNone : Option (Bool) :=
  ob1 (plunderlaw2_none_nil) (fun r1 => (if r1 = true then ob1 (plunderlaw2_noneShared_nil) (fun r4 => (if r4 = true then ob2 (plunderlaw2_none (⟨0, 0, ([] : List Int), ([] : List T_api_Access), 0, false⟩ : T_cells_Arena)) (fun r8 S9 => (if r8 = true then ob2 (plunderlaw2_noneShared (⟨0, 0, 0, 0, 0, ([] : List T_atomic_Int64)⟩ : T_cells_Shared)) (fun r17 S18 => some r17) else some false)) else some false)) else some false))
set_option maxRecDepth 100000 in
set_option maxHeartbeats 4000000 in
theorem plunderlaw2_CellsNone_ok {z w : World} {L : List HProp}  {r0 : Bool} (H : plunderlaw2_CellsNone = some r0) (h : Fit z (sepL (L)) w)  :
    Calls Try.prog 13 #[] w fun e w => e = .returned (vB r0) ∧ Fit z (sepL (L)) w := by
 unfold plunderlaw2_CellsNone at H
 refine enter Try.func13 rfl 15 rfl rfl [] trivial ?_
 intro j a hr
 refine sr ?_
 refine ov hr (vB false) (by kernel_rfl) ?_; clear hr a; intro a hr
 refine ln ?_
 refine sr ?_
 replace H := bd1 H; obtain ⟨r1, e2, H⟩ := H
 have hc := plunderlaw2_none_nil_ok (H := e2) (h := h)
 refine op_call (wn rfl) rfl rfl hr (f := 48) (args := #[pN]) (by kernel_rfl) hc ?_; clear hc h
 rintro _ w ⟨rfl, h⟩; refine ⟨_, rfl, ?_⟩
 clear hr a; intro a hr
 refine ov hr (vB r1) (by kernel_rfl) ?_; clear hr a; intro a hr
 by_cases c3 : r1 = true
 ·
  replace H := ifT c3 H
  replace H := bd1 H; obtain ⟨r4, e5, H⟩ := H
  have hc := plunderlaw2_noneShared_nil_ok (H := e5) (h := h)
  refine op_call (wgt hr (c3)) rfl rfl hr (f := 49) (args := #[pN]) (by kernel_rfl) hc ?_; clear hc h
  rintro _ w ⟨rfl, h⟩; refine ⟨_, rfl, ?_⟩
  clear hr a; intro a hr
  refine opv (wn rfl) hr (vB r4) (rp_t (b := r1) rfl (by kernel_rfl) (c3) (by kernel_rfl)) ?_; clear hr a; intro a hr
  refine ov hr (vB r4) (by kernel_rfl) ?_; clear hr a; intro a hr
  by_cases c6 : r4 = true
  ·
   replace H := ifT c6 H
   refine opv (wgt hr (c6)) hr (.agg #[vI 0, vI 0, .slice none 0 0, .slice none 0 0, vI 0, vB false]) (by kernel_rfl) ?_; clear hr a; intro a hr
   refine op_new (wgt hr (c6)) rfl rfl hr h (vf := fun b => .pointer (some ⟨b, 0, none⟩)) (cs := #[vI 0, vI 0, .slice none 0 0, .slice none 0 0, vI 0, vB false]) (T := 96) (by kernel_rfl) ?_; clear h hr a; intro b7 w a h hr
   replace h : Fit z (sepL (rowOf 2 1 encZ_i64 (.slice none 0 0) ([] : List Int) :: pts b7 (.cells #[vI 0, vI 0, .slice none 0 0, .slice none 0 0, vI 0, vB false] 96) :: L)) _ := h.row_nil
   replace h : Fit z (sepL (rowOf 90 6 enc_T_api_Access (.slice none 0 0) ([] : List T_api_Access) :: rowOf 2 1 encZ_i64 (.slice none 0 0) ([] : List Int) :: pts b7 (.cells #[vI 0, vI 0, .slice none 0 0, .slice none 0 0, vI 0, vB false] 96) :: L)) _ := h.row_nil
   replace H := bd2 H; obtain ⟨r8, S9, e10, H⟩ := H
   replace h : Fit z (sepL (pts b7 (.cells #[vI 0, vI 0, .slice none 0 0, .slice none 0 0, vI 0, vB false] 96) :: rowOf 2 1 encZ_i64 (.slice none 0 0) ([] : List Int) :: rowOf 90 6 enc_T_api_Access (.slice none 0 0) ([] : List T_api_Access) :: L)) _ := h.sel 3 [2, 1, 0] (by kernel_rfl) (by kernel_rfl)
   have hc := plunderlaw2_none_ok (H := e10) (h := h)
   refine op_call (wgt hr (c6)) rfl rfl hr (f := 48) (args := #[pA b7 0]) (by kernel_rfl) hc ?_; clear hc h
   rintro _ w ⟨caq11, ccq12, caq13, ccq14, rfl, h⟩; refine ⟨_, rfl, ?_⟩
   clear hr a; intro a hr
   refine opv (wn rfl) hr (vB r8) (rp_t (b := r4) rfl (by kernel_rfl) (c6) (by kernel_rfl)) ?_; clear hr a; intro a hr
   refine ov hr (vB r8) (by kernel_rfl) ?_; clear hr a; intro a hr
   by_cases c15 : r8 = true
   ·
    replace H := ifT c15 H
    refine opv (wgt hr (c15)) hr (.agg #[vI 0, vI 0, .int .i32 0, .int .u32 0, vI 0, .slice none 0 0]) (by kernel_rfl) ?_; clear hr a; intro a hr
    refine op_new (wgt hr (c15)) rfl rfl hr h (vf := fun b => .pointer (some ⟨b, 0, none⟩)) (cs := #[vI 0, vI 0, .int .i32 0, .int .u32 0, vI 0, .slice none 0 0]) (T := 110) (by kernel_rfl) ?_; clear h hr a; intro b16 w a h hr
    replace h : Fit z (sepL (rowOf 107 1 enc_T_atomic_Int64 (.slice none 0 0) ([] : List T_atomic_Int64) :: pts b16 (.cells #[vI 0, vI 0, .int .i32 0, .int .u32 0, vI 0, .slice none 0 0] 110) :: ob96 b7 S9 caq11 ccq12 caq13 ccq14 :: ro2 caq11 ccq12 S9.cell :: ro90 caq13 ccq14 S9.log :: L)) _ := h.row_nil
    replace H := bd2 H; obtain ⟨r17, S18, e19, H⟩ := H
    replace h : Fit z (sepL (pts b16 (.cells #[vI 0, vI 0, .int .i32 0, .int .u32 0, vI 0, .slice none 0 0] 110) :: rowOf 107 1 enc_T_atomic_Int64 (.slice none 0 0) ([] : List T_atomic_Int64) :: ob96 b7 S9 caq11 ccq12 caq13 ccq14 :: ro2 caq11 ccq12 S9.cell :: ro90 caq13 ccq14 S9.log :: L)) _ := h.sel 5 [1, 0, 2, 3, 4] (by kernel_rfl) (by kernel_rfl)
    have hc := plunderlaw2_noneShared_ok (H := e19) (h := h)
    refine op_call (wgt hr (c15)) rfl rfl hr (f := 49) (args := #[pA b16 0]) (by kernel_rfl) hc ?_; clear hc h
    rintro _ w ⟨caq20, ccq21, rfl, h⟩; refine ⟨_, rfl, ?_⟩
    clear hr a; intro a hr
    refine opv (wn rfl) hr (vB r17) (rp_t (b := r8) rfl (by kernel_rfl) (c15) (by kernel_rfl)) ?_; clear hr a; intro a hr
    refine ov hr (vB r17) (by kernel_rfl) ?_; clear hr a; intro a hr
    refine ln ?_
    refine wp_ret ?_
    refine end_ret1 (v := vB r17) rfl hr (by kernel_rfl) ?_
    replace h : Fit z (sepL (L)) _ := h.sel 5 [] (by kernel_rfl) (by kernel_rfl)
    replace H := ej1 H; subst H
    exact ⟨rfl, h⟩
   ·
    replace H := ifF c15 H
    refine offg (wgt hr (bF c15)) hr ?_; clear hr a; intro a hr
    refine offg (wgt hr (bF c15)) hr ?_; clear hr a; intro a hr
    refine offg (wgt hr (bF c15)) hr ?_; clear hr a; intro a hr
    refine opv (wn rfl) hr (vB false) (rp_f (b := r8) rfl (by kernel_rfl) (bF c15) (by kernel_rfl)) ?_; clear hr a; intro a hr
    refine ov hr (vB false) (by kernel_rfl) ?_; clear hr a; intro a hr
    refine ln ?_
    refine wp_ret ?_
    refine end_ret1 (v := vB false) rfl hr (by kernel_rfl) ?_
    replace h : Fit z (sepL (L)) _ := h.sel 3 [] (by kernel_rfl) (by kernel_rfl)
    replace H := ej1 H; subst H
    exact ⟨rfl, h⟩
  ·
   replace H := ifF c6 H
   refine offg (wgt hr (bF c6)) hr ?_; clear hr a; intro a hr
   refine offg (wgt hr (bF c6)) hr ?_; clear hr a; intro a hr
   refine offg (wgt hr (bF c6)) hr ?_; clear hr a; intro a hr
   refine opv (wn rfl) hr (vB false) (rp_f (b := r4) rfl (by kernel_rfl) (bF c6) (by kernel_rfl)) ?_; clear hr a; intro a hr
   refine ov hr (vB false) (by kernel_rfl) ?_; clear hr a; intro a hr
   refine offg (wgt hr (c := false) rfl) hr ?_; clear hr a; intro a hr
   refine offg (wgt hr (c := false) rfl) hr ?_; clear hr a; intro a hr
   refine offg (wgt hr (c := false) rfl) hr ?_; clear hr a; intro a hr
   refine ovs [14, 0] [vB false, vB false] hr ⟨rfl, rfl⟩ (by kernel_rfl) ?_; clear hr a; intro a hr
   refine ln ?_
   refine wp_ret ?_
   refine end_ret1 (v := vB false) rfl hr (by kernel_rfl) ?_
   replace H := ej1 H; subst H
   exact ⟨rfl, h⟩
 ·
  replace H := ifF c3 H
  refine offg (wgt hr (bF c3)) hr ?_; clear hr a; intro a hr
  refine opv (wn rfl) hr (vB false) (rp_f (b := r1) rfl (by kernel_rfl) (bF c3) (by kernel_rfl)) ?_; clear hr a; intro a hr
  refine ov hr (vB false) (by kernel_rfl) ?_; clear hr a; intro a hr
  refine offg (wgt hr (c := false) rfl) hr ?_; clear hr a; intro a hr
  refine offg (wgt hr (c := false) rfl) hr ?_; clear hr a; intro a hr
  refine offg (wgt hr (c := false) rfl) hr ?_; clear hr a; intro a hr
  refine ovs [9, 10] [vB false, vB false] hr ⟨rfl, rfl⟩ (by kernel_rfl) ?_; clear hr a; intro a hr
  refine offg (wgt hr (c := false) rfl) hr ?_; clear hr a; intro a hr
  refine offg (wgt hr (c := false) rfl) hr ?_; clear hr a; intro a hr
  refine offg (wgt hr (c := false) rfl) hr ?_; clear hr a; intro a hr
  refine ovs [14, 0] [vB false, vB false] hr ⟨rfl, rfl⟩ (by kernel_rfl) ?_; clear hr a; intro a hr
  refine ln ?_
  refine wp_ret ?_
  refine end_ret1 (v := vB false) rfl hr (by kernel_rfl) ?_
  replace H := ej1 H; subst H
  exact ⟨rfl, h⟩


end Go.Proofs.Ytacgigkonoegiaa.Mo
