/- what the functions compute, as plain Lean functions, and that they do -/
import Derived.Test.YtnghahgfcaolbaaFc2
namespace Go.Proofs.Ytnghahgfcaolbaa.Mo
open Go Go.RowKit Go.Proofs.Ytnghahgfcaolbaa.SL Go.Proofs.Ytnghahgfcaolbaa.GX
set_option linter.unusedVariables false
set_option linter.unusedSimpArgs false

def plunderlaw8_FramesCount_l1 (K : Nat) (r2 : Int) (r20 : T_frames_Table) : Nat → T_cells_Arena → Int → Option ((T_cells_Arena) ⊕ (Bool))
  | 0, _, _ => none
  | k1 + 1, S37, g42 => (if g42 < r2 then ob1 (frames_Fork r20 0) (fun r44 => ob2 (frames_Step_iface S37 r44) (fun r46 S47 => ob2 (frames_Answer r46) (fun r53 r54 => (if r53 = (9 : Int) then (if r54 = (wi (g42 + (2 : Int))) then (plunderlaw8_FramesCount_l1 K r2 r20 k1 S47 (wi (g42 + (1 : Int)))) else some (.inr false)) else some (.inr false))))) else some (.inl S37))
def plunderlaw8_FramesCount_l2 (K : Nat) (p2 : List Int) (r2 : Int) (r4 : Int) (r20 : T_frames_Table) : Nat → T_cells_Arena → Int → Int → Option ((T_cells_Arena) ⊕ (Bool))
  | 0, _, _, _ => none
  | k2 + 1, S65, g70, g71 => (if g71 ≤ r2 then ob1 (frames_Sync r20 0) (fun r73 => ob5 ((if g71 = r4 then some (S65, g70, r73, 12, 13) else if inr_ g70 ([at_ p2 0, at_ p2 1, at_ p2 2, at_ p2 3, at_ p2 4, at_ p2 5, at_ p2 6, at_ p2 7]).length then ob1 (frames_Finish r20 0 g70 (at_ ([at_ p2 0, at_ p2 1, at_ p2 2, at_ p2 3, at_ p2 4, at_ p2 5, at_ p2 6, at_ p2 7]) g70.toNat)) (fun r89 => ob2 (frames_Step_iface S65 r89) (fun r91 S92 => some (S92, wi (g70 + (1 : Int)), r91, 10, 11))) else none)) (fun S76 g81 S82 g83 g84 => ob2 (frames_Step_iface S76 S82) (fun r98 S99 => ob2 (frames_Answer r98) (fun r105 r106 => jn0 ((if g71 < r2 then (if r105 = g83 then (if r106 = (wi (r2 - g71)) then some (.inl ()) else some (.inr (.inr false))) else some (.inr (.inr false))) else some (.inl ()))) ((if g71 = r2 then jn0 ((if r105 = (0 : Int) then (if r106 = (0 : Int) then some (.inl ()) else some (.inr (.inr false))) else some (.inr (.inr false)))) (ob2 (frames_Step_iface S99 r98) (fun r118 S119 => ob2 (frames_Answer r118) (fun r125 r126 => (if r125 = g84 then (if r126 = (0 : Int) then (plunderlaw8_FramesCount_l2 K p2 r2 r4 r20 k2 S119 g81 (wi (g71 + (1 : Int)))) else some (.inr false)) else some (.inr false))))) else (plunderlaw8_FramesCount_l2 K p2 r2 r4 r20 k2 S99 g81 (wi (g71 + (1 : Int)))))))))) else some (.inl S65))
def plunderlaw8_FramesCount_l3 (K : Nat) (p2 : List Int) (r2 : Int) (r20 : T_frames_Table) : Nat → T_cells_Arena → Int → Option (Bool)
  | 0, _, _ => none
  | k3 + 1, S130, g135 => (if g135 < r2 then ob1 (frames_Fetch r20 0 g135) (fun r137 => ob2 (frames_Step_iface S130 r137) (fun r139 S140 => ob2 (frames_Answer r139) (fun r146 r147 => (if r146 = (15 : Int) then if inr_ g135 ([at_ p2 0, at_ p2 1, at_ p2 2, at_ p2 3, at_ p2 4, at_ p2 5, at_ p2 6, at_ p2 7]).length then (if r147 = (at_ ([at_ p2 0, at_ p2 1, at_ p2 2, at_ p2 3, at_ p2 4, at_ p2 5, at_ p2 6, at_ p2 7]) g135.toNat) then (plunderlaw8_FramesCount_l3 K p2 r2 r20 k3 S140 (wi (g135 + (1 : Int)))) else some false) else none else some false)))) else some true)
/-- plunder/plunderlaw8.FramesCount -/
def plunderlaw8_FramesCount (K : Nat) (p0 : Int) (p1 : Int) (p2 : List Int) : Option (Bool) :=
  ob1 (plunderlaw8_mod p0 9) (fun r2 => ob1 (plunderlaw8_mod p1 (wi (r2 + (1 : Int)))) (fun r4 => ob1 (frames_Cells 1) (fun r6 => ob2 (cells_New r6) (fun r8 r9 => (match r8 with | some S11 => jn0 ((if r9 = (0 : Int) then some (.inl ()) else some (.inr false))) (ob3 (frames_New_iface K S11 1) (fun r20 r21 S22 => (if r21 = (0 : Int) then jn1 ((plunderlaw8_FramesCount_l1 K r2 r20 K S22 0)) (fun S30 => jn1 ((plunderlaw8_FramesCount_l2 K p2 r2 r4 r20 K S30 0 0)) (fun S58 => (plunderlaw8_FramesCount_l3 K p2 r2 r20 K S58 0))) else some false))) | none => (if r9 = (0 : Int) then some false else some false))))))
set_option maxRecDepth 100000 in
set_option maxHeartbeats 4000000 in
theorem plunderlaw8_FramesCount_ok {z w : World} {L : List HProp} {K : Nat} {p0 : Int} {p1 : Int} {p2 : List Int} {r0 : Bool} (H : plunderlaw8_FramesCount K p0 p1 p2 = some r0) (h : Fit z (sepL (L)) w)  :
    Calls Try.prog 6 #[.int .i64 p0, .int .i64 p1, .agg #[.int .i64 (at_ p2 0), .int .i64 (at_ p2 1), .int .i64 (at_ p2 2), .int .i64 (at_ p2 3), .int .i64 (at_ p2 4), .int .i64 (at_ p2 5), .int .i64 (at_ p2 6), .int .i64 (at_ p2 7)]] w fun e w => e = .returned (.bool r0) ∧ Fit z (sepL (L)) w := by
  unfold plunderlaw8_FramesCount at H
  refine enter Try.func6 rfl 164 rfl rfl [(0, .int .i64 p0), (1, .int .i64 p1), (2, .agg #[.int .i64 (at_ p2 0), .int .i64 (at_ p2 1), .int .i64 (at_ p2 2), .int .i64 (at_ p2 3), .int .i64 (at_ p2 4), .int .i64 (at_ p2 5), .int .i64 (at_ p2 6), .int .i64 (at_ p2 7)])] ⟨rfl, rfl, rfl, trivial⟩ ?_
  intro j a hr
  refine wp_seq ?_
  refine wp_region_lit ?_
  refine op_new (wn rfl) rfl rfl hr h (vf := fun b => .pointer (some ⟨b, 0, none⟩)) (cs := #[.int .i64 (at_ p2 0), .int .i64 (at_ p2 1), .int .i64 (at_ p2 2), .int .i64 (at_ p2 3), .int .i64 (at_ p2 4), .int .i64 (at_ p2 5), .int .i64 (at_ p2 6), .int .i64 (at_ p2 7)]) (T := 58) (by kernel_rfl) ?_; clear h hr a; intro b1 w a h hr
  replace h : Fit z (sepL (rowOf 58 1 encZ_i64 (.slice (some ⟨b1, 0, none⟩) 8 8) ([at_ p2 0, at_ p2 1, at_ p2 2, at_ p2 3, at_ p2 4, at_ p2 5, at_ p2 6, at_ p2 7]) :: L)) _ := Fit.pts_row (by simp) (by rfl) encZ_i64_ok (by decide) h
  refine ov hr (.bool false) (by kernel_rfl) ?_; clear hr a; intro a hr
  refine wpList_nil ?_
  refine then_normal ?_
  refine wp_seq ?_
  refine wp_region_lit ?_
  replace H := bd1 H; obtain ⟨r2, e3, H⟩ := H
  refine ov hr (.int .i64 p0) (by kernel_rfl) ?_; clear hr a; intro a hr
  have hc := plunderlaw8_mod_ok (H := e3) (h := h)
  refine op_call (wn rfl) rfl rfl hr (f := 29) (args := #[.int .i64 p0, .int .i64 9]) (by kernel_rfl) hc ?_; clear hc h
  rintro _ w ⟨rfl, h⟩; refine ⟨_, rfl, ?_⟩
  clear hr a; intro a hr
  refine ov hr (.int .i64 r2) (by kernel_rfl) ?_; clear hr a; intro a hr
  refine wpList_nil ?_
  refine then_normal ?_
  refine wp_seq ?_
  refine wp_region_lit ?_
  replace H := bd1 H; obtain ⟨r4, e5, H⟩ := H
  refine ovs [26, 27, 28] [.int .i64 p1, .int .i64 r2, .int .i64 (wi (r2 + (1 : Int)))] hr ⟨rfl, rfl⟩ (by kernel_rfl) ?_; clear hr a; intro a hr
  have hc := plunderlaw8_mod_ok (H := e5) (h := h)
  refine op_call (wn rfl) rfl rfl hr (f := 29) (args := #[.int .i64 p1, .int .i64 (wi (r2 + (1 : Int)))]) (by kernel_rfl) hc ?_; clear hc h
  rintro _ w ⟨rfl, h⟩; refine ⟨_, rfl, ?_⟩
  clear hr a; intro a hr
  refine ov hr (.int .i64 r4) (by kernel_rfl) ?_; clear hr a; intro a hr
  refine wpList_nil ?_
  refine then_normal ?_
  refine wp_seq ?_
  refine wp_region_lit ?_
  replace H := bd1 H; obtain ⟨r6, e7, H⟩ := H
  have hc := frames_Cells_ok (H := e7) (h := h)
  refine op_call (wn rfl) rfl rfl hr (f := 15) (args := #[.int .i64 1]) (by kernel_rfl) hc ?_; clear hc h
  rintro _ w ⟨rfl, h⟩; refine ⟨_, rfl, ?_⟩
  clear hr a; intro a hr
  replace H := bd2 H; obtain ⟨r8, r9, e10, H⟩ := H
  cases r8 with
  | some S11 =>
    have hc := cells_New_ok0 (H := e10) (h := h)
    refine op_call (wn rfl) rfl rfl hr (f := 14) (args := #[.int .i64 r6]) (by kernel_rfl) hc ?_; clear hc h
    rintro _ w ⟨Bn12, car13, ccr14, car15, ccr16, rfl, h⟩; refine ⟨_, rfl, ?_⟩
    clear hr a; intro a hr
    refine ovs [30, 33, 34, 7, 8] [.tuple #[.pointer (some ⟨Bn12, 0, none⟩), .int .i64 r9], .pointer (some ⟨Bn12, 0, none⟩), .int .i64 r9, .pointer (some ⟨Bn12, 0, none⟩), .int .i64 r9] hr ⟨rfl, rfl⟩ (by kernel_rfl) ?_; clear hr a; intro a hr
    refine wpList_nil ?_
    refine then_normal ?_
    replace H := jd0 H; obtain ⟨o18, H, hK17⟩ := H
    refine cut_rule (β := Unit) (fun _ a w => .inl () = o18 ∧ ∃ j, Rep 164 (lk [(0, .int .i64 r2), (1, .int .i64 r4), (5, .pointer (some ⟨b1, 0, none⟩)), (7, .pointer (some ⟨Bn12, 0, none⟩))] j) a ∧ Fit z (sepL (rowOf 58 1 encZ_i64 (.slice (some ⟨b1, 0, none⟩) 8 8) ([at_ p2 0, at_ p2 1, at_ p2 2, at_ p2 3, at_ p2 4, at_ p2 5, at_ p2 6, at_ p2 7]) :: ob103 Bn12 S11 car13 ccr14 car15 ccr16 :: ro2 car13 ccr14 S11.cell :: ro96 car15 ccr16 S11.log :: L)) w) ?_ ?_
    ·
      refine wp_seq ?_
      refine wp_region_lit ?_
      refine ovs [35, 36, 37] [.int .i64 r9, .bool (r9 != (0 : Int)), .bool (r9 != (0 : Int))] hr ⟨rfl, rfl⟩ (by kernel_rfl) ?_; clear hr a; intro a hr
      by_cases c19 : r9 = (0 : Int)
      ·
        replace H := ifT c19 H
        refine op_val ((wg hr rfl rfl rfl (b' := (r9 != (0 : Int))) (by kernel_rfl)).trans (by rw [show (r9 != (0 : Int)) = false from (bne_eq_false_iff_eq.mpr c19)]; rfl)) rfl rfl hr (v := .pointer (some ⟨Bn12, 0, none⟩)) (by kernel_rfl) ?_; clear hr a; intro a hr
        refine op_val ((wg hr rfl rfl rfl (b' := (r9 != (0 : Int))) (by kernel_rfl)).trans (by rw [show (r9 != (0 : Int)) = false from (bne_eq_false_iff_eq.mpr c19)]; rfl)) rfl rfl hr (v := .bool false) (by kernel_rfl) ?_; clear hr a; intro a hr
        refine op_val (wn rfl) rfl rfl hr (v := .bool false) (rp_f (b := (r9 != (0 : Int))) rfl (by kernel_rfl) (bne_eq_false_iff_eq.mpr c19) (by kernel_rfl)) ?_; clear hr a; intro a hr
        refine wpList_nil ?_
        refine then_normal ?_
        refine cond_ff hr (b := false) rfl ?_
        refine wp_skip ?_
        refine then_normal ?_
        replace hr := hr.fold2 [(0, .int .i64 r2), (1, .int .i64 r4), (5, .pointer (some ⟨b1, 0, none⟩)), (7, .pointer (some ⟨Bn12, 0, none⟩))] (by kernel_rfl); obtain ⟨j, hr⟩ := hr
        replace h : Fit z (sepL (rowOf 58 1 encZ_i64 (.slice (some ⟨b1, 0, none⟩) 8 8) ([at_ p2 0, at_ p2 1, at_ p2 2, at_ p2 3, at_ p2 4, at_ p2 5, at_ p2 6, at_ p2 7]) :: ob103 Bn12 S11 car13 ccr14 car15 ccr16 :: ro2 car13 ccr14 S11.cell :: ro96 car15 ccr16 S11.log :: L)) _ := h.sel 4 [3, 0, 1, 2] (by kernel_rfl) (by kernel_rfl)
        exact ⟨(), sinj H, j, hr, h⟩
      ·
        replace H := ifF c19 H
        refine op_off ((wg hr rfl rfl rfl (b' := (r9 != (0 : Int))) (by kernel_rfl)).trans (by rw [show (r9 != (0 : Int)) = true from (bne_iff_ne.mpr c19)]; rfl)) rfl rfl hr ?_; clear hr a; intro a hr
        refine op_off ((wg hr rfl rfl rfl (b' := (r9 != (0 : Int))) (by kernel_rfl)).trans (by rw [show (r9 != (0 : Int)) = true from (bne_iff_ne.mpr c19)]; rfl)) rfl rfl hr ?_; clear hr a; intro a hr
        refine op_val (wn rfl) rfl rfl hr (v := .bool true) (rp_t (b := (r9 != (0 : Int))) rfl (by kernel_rfl) (bne_iff_ne.mpr c19) (by kernel_rfl)) ?_; clear hr a; intro a hr
        refine wpList_nil ?_
        refine then_normal ?_
        refine cond_tt hr (b := true) rfl ?_
        refine wp_seq ?_
        refine wp_region_lit ?_
        refine ov hr (.bool false) (by kernel_rfl) ?_; clear hr a; intro a hr
        refine wpList_nil ?_
        refine then_normal ?_
        refine wp_ret ?_
        refine then_ret ?_
        refine end_ret1 (v := .bool false) rfl hr (by kernel_rfl) ?_
        replace H := jx0 H hK17
        replace h : Fit z (sepL (L)) _ := h.sel 4 [] (by kernel_rfl) (by kernel_rfl)
        replace H := ej1 H; subst H
        exact ⟨rfl, h⟩
    clear h hr a; rintro _ a w ⟨rfl, j, hr, h⟩
    replace H := jk0 hK17
    refine wp_seq ?_
    refine wp_region_lit ?_
    replace H := bd3 H; obtain ⟨r20, r21, S22, e23, H⟩ := H
    refine ovs [42, 43] [.pointer (some ⟨Bn12, 0, none⟩), .iface 26 (.pointer (some ⟨Bn12, 0, none⟩))] hr ⟨rfl, rfl⟩ (by kernel_rfl) ?_; clear hr a; intro a hr
    replace h : Fit z (sepL (ob103 Bn12 S11 car13 ccr14 car15 ccr16 :: ro2 car13 ccr14 S11.cell :: ro96 car15 ccr16 S11.log :: rowOf 58 1 encZ_i64 (.slice (some ⟨b1, 0, none⟩) 8 8) ([at_ p2 0, at_ p2 1, at_ p2 2, at_ p2 3, at_ p2 4, at_ p2 5, at_ p2 6, at_ p2 7]) :: L)) _ := h.sel 4 [1, 2, 3, 0] (by kernel_rfl) (by kernel_rfl)
    have hc := frames_New_iface_ok (H := e23) (h := h)
    refine op_call (wn rfl) rfl rfl hr (f := 19) (args := #[.iface 26 (.pointer (some ⟨Bn12, 0, none⟩)), .int .i64 1]) (by kernel_rfl) hc ?_; clear hc h
    rintro _ w ⟨caq24, ccq25, caq26, ccq27, rfl, h⟩; refine ⟨_, rfl, ?_⟩
    clear hr a; intro a hr
    refine ovs [41, 45, 46] [.tuple #[.agg #[.int .i64 r20.Base, .int .i64 r20.Frames], .int .i64 r21], .agg #[.int .i64 r20.Base, .int .i64 r20.Frames], .int .i64 r21] hr ⟨rfl, rfl⟩ (by kernel_rfl) ?_; clear hr a; intro a hr
    refine op_new (wn rfl) rfl rfl hr h (vf := fun b => .pointer (some ⟨b, 0, none⟩)) (cs := #[.int .i64 0, .int .i64 0]) (T := 39) (by kernel_rfl) ?_; clear h hr a; intro b28 w a h hr
    refine op_stores (wn rfl) rfl hr rfl (by kernel_rfl) (by kernel_rfl) (vs := [.int .i64 r20.Base, .int .i64 r20.Frames]) rfl rfl (by kernel_rfl) h (i := 0) (cs' := #[.int .i64 r20.Base, .int .i64 r20.Frames]) rfl ?_; clear h; intro w h
    refine ov hr (.int .i64 r21) (by kernel_rfl) ?_; clear hr a; intro a hr
    refine wpList_nil ?_
    replace h : Fit z (sepL (ob39 b28 r20 :: ob103 Bn12 S22 caq24 ccq25 caq26 ccq27 :: ro2 caq24 ccq25 S22.cell :: ro96 caq26 ccq27 S22.log :: rowOf 58 1 encZ_i64 (.slice (some ⟨b1, 0, none⟩) 8 8) ([at_ p2 0, at_ p2 1, at_ p2 2, at_ p2 3, at_ p2 4, at_ p2 5, at_ p2 6, at_ p2 7]) :: L)) _ := h
    refine then_normal ?_
    refine wp_seq ?_
    refine wp_seq ?_
    refine wp_region_lit ?_
    refine ovs [47, 48] [.int .i64 r21, .bool (r21 != (0 : Int))] hr ⟨rfl, rfl⟩ (by kernel_rfl) ?_; clear hr a; intro a hr
    refine wpList_nil ?_
    refine then_normal ?_
    by_cases c29 : r21 = (0 : Int)
    ·
      replace H := ifT c29 H
      refine cond_ff hr (b := (r21 != (0 : Int))) (bne_eq_false_iff_eq.mpr c29) ?_
      refine wp_skip ?_
      refine then_normal ?_
      replace H := jd1 H; obtain ⟨o36, H, hK35⟩ := H
      refine cut_rule (β := Unit) (fun _ a w => ∃ ca31 : Option Addr, ∃ cc32 : Nat, ∃ ca33 : Option Addr, ∃ cc34 : Nat, ∃ S30 : T_cells_Arena, .inl S30 = o36 ∧ ∃ j, Rep 164 (lk [(0, .int .i64 r2), (1, .int .i64 r4), (5, .pointer (some ⟨b1, 0, none⟩)), (7, .pointer (some ⟨Bn12, 0, none⟩)), (9, .pointer (some ⟨b28, 0, none⟩))] j) a ∧ Fit z (sepL (rowOf 58 1 encZ_i64 (.slice (some ⟨b1, 0, none⟩) 8 8) ([at_ p2 0, at_ p2 1, at_ p2 2, at_ p2 3, at_ p2 4, at_ p2 5, at_ p2 6, at_ p2 7]) :: ob103 Bn12 S30 ca31 cc32 ca33 cc34 :: ro2 ca31 cc32 S30.cell :: ro96 ca33 cc34 S30.log :: ob39 b28 r20 :: L)) w) ?_ ?_
      ·
        refine wp_seq ?_
        refine wp_region_lit ?_
        refine ov hr (.int .i64 0) (by kernel_rfl) ?_; clear hr a; intro a hr
        refine wpList_nil ?_
        refine then_normal ?_
        refine wp_block ?_
        replace hr := hr.fold2 [(0, .int .i64 r2), (1, .int .i64 r4), (5, .pointer (some ⟨b1, 0, none⟩)), (7, .pointer (some ⟨Bn12, 0, none⟩)), (9, .pointer (some ⟨b28, 0, none⟩)), (11, .int .i64 0)] (by kernel_rfl); obtain ⟨j, hr⟩ := hr
        replace h : Fit z (sepL (rowOf 58 1 encZ_i64 (.slice (some ⟨b1, 0, none⟩) 8 8) ([at_ p2 0, at_ p2 1, at_ p2 2, at_ p2 3, at_ p2 4, at_ p2 5, at_ p2 6, at_ p2 7]) :: ob103 Bn12 S22 caq24 ccq25 caq26 ccq27 :: ro2 caq24 ccq25 S22.cell :: ro96 caq26 ccq27 S22.log :: ob39 b28 r20 :: L)) _ := h.sel 5 [4, 1, 2, 3, 0] (by kernel_rfl) (by kernel_rfl)
        refine loop_rule (β := Nat) id (fun m a w => ∃ ca38 : Option Addr, ∃ cc39 : Nat, ∃ ca40 : Option Addr, ∃ cc41 : Nat, ∃ S37 : T_cells_Arena, ∃ g42 : Int, (plunderlaw8_FramesCount_l1 K r2 r20 m S37 g42) = some o36 ∧ ∃ j, Rep 164 (lk [(0, .int .i64 r2), (1, .int .i64 r4), (5, .pointer (some ⟨b1, 0, none⟩)), (7, .pointer (some ⟨Bn12, 0, none⟩)), (9, .pointer (some ⟨b28, 0, none⟩)), (11, .int .i64 g42)] j) a ∧ Fit z (sepL (rowOf 58 1 encZ_i64 (.slice (some ⟨b1, 0, none⟩) 8 8) ([at_ p2 0, at_ p2 1, at_ p2 2, at_ p2 3, at_ p2 4, at_ p2 5, at_ p2 6, at_ p2 7]) :: ob103 Bn12 S37 ca38 cc39 ca40 cc41 :: ro2 ca38 cc39 S37.cell :: ro96 ca40 cc41 S37.log :: ob39 b28 r20 :: L)) w) K ⟨caq24, ccq25, caq26, ccq27, S22, 0, H, j, hr, h⟩ ?_
        clear h hr a H; rintro k1 a w ⟨ca38, cc39, ca40, cc41, S37, g42, H, j, hr, h⟩
        cases k1 with
        | zero => exact absurd H (by simp [plunderlaw8_FramesCount_l1])
        | succ k1 =>
          rw [plunderlaw8_FramesCount_l1] at H
          refine wp_seq ?_
          refine wp_seq ?_
          refine wp_region_lit ?_
          refine ovs [49, 50, 51] [.int .i64 g42, .int .i64 r2, .bool (decide (g42 < r2))] hr ⟨rfl, rfl⟩ (by kernel_rfl) ?_; clear hr a; intro a hr
          refine wpList_nil ?_
          refine then_normal ?_
          by_cases c43 : g42 < r2
          ·
            replace H := ifT c43 H
            refine cond_tt hr (b := (decide (g42 < r2))) (decide_eq_true c43) ?_
            refine wp_skip ?_
            refine then_normal ?_
            refine wp_seq ?_
            refine wp_block ?_
            refine wp_seq ?_
            refine wp_region_lit ?_
            refine ovs [55, 56] [.pointer (some ⟨Bn12, 0, none⟩), .iface 26 (.pointer (some ⟨Bn12, 0, none⟩))] hr ⟨rfl, rfl⟩ (by kernel_rfl) ?_; clear hr a; intro a hr
            refine op_val (wn rfl) rfl rfl hr (v := .agg #[.int .i64 r20.Base, .int .i64 r20.Frames]) (rlm (cs := [.int .i64 r20.Base, .int .i64 r20.Frames]) rfl (by kernel_rfl) (by kernel_rfl) (by kernel_rfl) ⟨(h.pick 4).cell 0 rfl, (h.pick 4).cell 1 rfl, trivial⟩) ?_; clear hr a; intro a hr
            replace H := bd1 H; obtain ⟨r44, e45, H⟩ := H
            have hc := frames_Fork_ok (H := e45) (h := h)
            refine op_call (wn rfl) rfl rfl hr (f := 30) (args := #[.agg #[.int .i64 r20.Base, .int .i64 r20.Frames], .int .i64 0]) (by kernel_rfl) hc ?_; clear hc h
            rintro _ w ⟨rfl, h⟩; refine ⟨_, rfl, ?_⟩
            clear hr a; intro a hr
            replace H := bd2 H; obtain ⟨r46, S47, e48, H⟩ := H
            replace h : Fit z (sepL (ob103 Bn12 S37 ca38 cc39 ca40 cc41 :: ro2 ca38 cc39 S37.cell :: ro96 ca40 cc41 S37.log :: rowOf 58 1 encZ_i64 (.slice (some ⟨b1, 0, none⟩) 8 8) ([at_ p2 0, at_ p2 1, at_ p2 2, at_ p2 3, at_ p2 4, at_ p2 5, at_ p2 6, at_ p2 7]) :: ob39 b28 r20 :: L)) _ := h.sel 5 [1, 2, 3, 0, 4] (by kernel_rfl) (by kernel_rfl)
            have hc := frames_Step_iface_ok (H := e48) (h := h)
            refine op_call (wn rfl) rfl rfl hr (f := 28) (args := #[.iface 26 (.pointer (some ⟨Bn12, 0, none⟩)), .agg #[.int .i64 r44.head_t_Base, .int .i64 r44.head_t_Frames, .int .i64 r44.head_frame, .int .i64 r44.head_stands, .int .i64 r44.head_code, .int .i64 r44.head_v, .int .i64 r44.kind, .int .i64 r44.slot, .int .i64 r44.give]]) (by kernel_rfl) hc ?_; clear hc h
            rintro _ w ⟨caq49, ccq50, caq51, ccq52, rfl, h⟩; refine ⟨_, rfl, ?_⟩
            clear hr a; intro a hr
            replace H := bd2 H; obtain ⟨r53, r54, e55, H⟩ := H
            have hc := frames_Answer_ok (H := e55) (h := h)
            refine op_call (wn rfl) rfl rfl hr (f := 26) (args := #[.agg #[.int .i64 r46.head_t_Base, .int .i64 r46.head_t_Frames, .int .i64 r46.head_frame, .int .i64 r46.head_stands, .int .i64 r46.head_code, .int .i64 r46.head_v, .int .i64 r46.kind, .int .i64 r46.slot, .int .i64 r46.give]]) (by kernel_rfl) hc ?_; clear hc h
            rintro _ w ⟨rfl, h⟩; refine ⟨_, rfl, ?_⟩
            clear hr a; intro a hr
            refine ovs [54, 61, 62, 12, 13] [.tuple #[.int .i64 r53, .int .i64 r54], .int .i64 r53, .int .i64 r54, .int .i64 r53, .int .i64 r54] hr ⟨rfl, rfl⟩ (by kernel_rfl) ?_; clear hr a; intro a hr
            refine wpList_nil ?_
            refine then_normal ?_
            refine wp_seq ?_
            refine wp_region_lit ?_
            refine ovs [63, 64, 65] [.int .i64 r53, .bool (r53 != (9 : Int)), .bool (r53 != (9 : Int))] hr ⟨rfl, rfl⟩ (by kernel_rfl) ?_; clear hr a; intro a hr
            by_cases c56 : r53 = (9 : Int)
            ·
              replace H := ifT c56 H
              refine op_val ((wg hr rfl rfl rfl (b' := (r53 != (9 : Int))) (by kernel_rfl)).trans (by rw [show (r53 != (9 : Int)) = false from (bne_eq_false_iff_eq.mpr c56)]; rfl)) rfl rfl hr (v := .int .i64 r54) (by kernel_rfl) ?_; clear hr a; intro a hr
              refine op_val ((wg hr rfl rfl rfl (b' := (r53 != (9 : Int))) (by kernel_rfl)).trans (by rw [show (r53 != (9 : Int)) = false from (bne_eq_false_iff_eq.mpr c56)]; rfl)) rfl rfl hr (v := .int .i64 g42) (by kernel_rfl) ?_; clear hr a; intro a hr
              refine op_val ((wg hr rfl rfl rfl (b' := (r53 != (9 : Int))) (by kernel_rfl)).trans (by rw [show (r53 != (9 : Int)) = false from (bne_eq_false_iff_eq.mpr c56)]; rfl)) rfl rfl hr (v := .int .i64 (wi (g42 + (2 : Int)))) (by kernel_rfl) ?_; clear hr a; intro a hr
              refine op_val ((wg hr rfl rfl rfl (b' := (r53 != (9 : Int))) (by kernel_rfl)).trans (by rw [show (r53 != (9 : Int)) = false from (bne_eq_false_iff_eq.mpr c56)]; rfl)) rfl rfl hr (v := .bool (r54 != (wi (g42 + (2 : Int))))) (by kernel_rfl) ?_; clear hr a; intro a hr
              refine op_val (wn rfl) rfl rfl hr (v := .bool (r54 != (wi (g42 + (2 : Int))))) (rp_f (b := (r53 != (9 : Int))) rfl (by kernel_rfl) (bne_eq_false_iff_eq.mpr c56) (by kernel_rfl)) ?_; clear hr a; intro a hr
              refine wpList_nil ?_
              refine then_normal ?_
              by_cases c57 : r54 = (wi (g42 + (2 : Int)))
              ·
                replace H := ifT c57 H
                refine cond_ff hr (b := (r54 != (wi (g42 + (2 : Int))))) (bne_eq_false_iff_eq.mpr c57) ?_
                refine wp_skip ?_
                refine blk_normal ?_
                refine then_normal ?_
                refine wp_region_lit ?_
                refine ovs [52, 53, 11] [.int .i64 g42, .int .i64 (wi (g42 + (1 : Int))), .int .i64 (wi (g42 + (1 : Int)))] hr ⟨rfl, rfl⟩ (by kernel_rfl) ?_; clear hr a; intro a hr
                refine wpList_nil ?_
                refine then_normal ?_
                replace hr := hr.fold2 [(0, .int .i64 r2), (1, .int .i64 r4), (5, .pointer (some ⟨b1, 0, none⟩)), (7, .pointer (some ⟨Bn12, 0, none⟩)), (9, .pointer (some ⟨b28, 0, none⟩)), (11, .int .i64 (wi (g42 + (1 : Int))))] (by kernel_rfl); obtain ⟨j, hr⟩ := hr
                replace h : Fit z (sepL (rowOf 58 1 encZ_i64 (.slice (some ⟨b1, 0, none⟩) 8 8) ([at_ p2 0, at_ p2 1, at_ p2 2, at_ p2 3, at_ p2 4, at_ p2 5, at_ p2 6, at_ p2 7]) :: ob103 Bn12 S47 caq49 ccq50 caq51 ccq52 :: ro2 caq49 ccq50 S47.cell :: ro96 caq51 ccq52 S47.log :: ob39 b28 r20 :: L)) _ := h.sel 5 [3, 0, 1, 2, 4] (by kernel_rfl) (by kernel_rfl)
                exact ⟨_, ⟨caq49, ccq50, caq51, ccq52, S47, (wi (g42 + (1 : Int))), H, j, hr, h⟩, Nat.lt_succ_self _⟩
              ·
                replace H := ifF c57 H
                refine cond_tt hr (b := (r54 != (wi (g42 + (2 : Int))))) (bne_iff_ne.mpr c57) ?_
                refine wp_seq ?_
                refine wp_region_lit ?_
                refine ov hr (.bool false) (by kernel_rfl) ?_; clear hr a; intro a hr
                refine wpList_nil ?_
                refine then_normal ?_
                refine wp_ret ?_
                refine blk_ret ?_
                refine then_ret ?_
                refine then_ret ?_
                refine blk_ret ?_
                refine then_ret ?_
                refine end_ret1 (v := .bool false) rfl hr (by kernel_rfl) ?_
                replace H := jx1 H hK35
                replace h : Fit z (sepL (L)) _ := h.sel 5 [] (by kernel_rfl) (by kernel_rfl)
                replace H := ej1 H; subst H
                exact ⟨rfl, h⟩
            ·
              replace H := ifF c56 H
              refine op_off ((wg hr rfl rfl rfl (b' := (r53 != (9 : Int))) (by kernel_rfl)).trans (by rw [show (r53 != (9 : Int)) = true from (bne_iff_ne.mpr c56)]; rfl)) rfl rfl hr ?_; clear hr a; intro a hr
              refine op_off ((wg hr rfl rfl rfl (b' := (r53 != (9 : Int))) (by kernel_rfl)).trans (by rw [show (r53 != (9 : Int)) = true from (bne_iff_ne.mpr c56)]; rfl)) rfl rfl hr ?_; clear hr a; intro a hr
              refine op_off ((wg hr rfl rfl rfl (b' := (r53 != (9 : Int))) (by kernel_rfl)).trans (by rw [show (r53 != (9 : Int)) = true from (bne_iff_ne.mpr c56)]; rfl)) rfl rfl hr ?_; clear hr a; intro a hr
              refine op_off ((wg hr rfl rfl rfl (b' := (r53 != (9 : Int))) (by kernel_rfl)).trans (by rw [show (r53 != (9 : Int)) = true from (bne_iff_ne.mpr c56)]; rfl)) rfl rfl hr ?_; clear hr a; intro a hr
              refine op_val (wn rfl) rfl rfl hr (v := .bool true) (rp_t (b := (r53 != (9 : Int))) rfl (by kernel_rfl) (bne_iff_ne.mpr c56) (by kernel_rfl)) ?_; clear hr a; intro a hr
              refine wpList_nil ?_
              refine then_normal ?_
              refine cond_tt hr (b := true) rfl ?_
              refine wp_seq ?_
              refine wp_region_lit ?_
              refine ov hr (.bool false) (by kernel_rfl) ?_; clear hr a; intro a hr
              refine wpList_nil ?_
              refine then_normal ?_
              refine wp_ret ?_
              refine blk_ret ?_
              refine then_ret ?_
              refine then_ret ?_
              refine blk_ret ?_
              refine then_ret ?_
              refine end_ret1 (v := .bool false) rfl hr (by kernel_rfl) ?_
              replace H := jx1 H hK35
              replace h : Fit z (sepL (L)) _ := h.sel 5 [] (by kernel_rfl) (by kernel_rfl)
              replace H := ej1 H; subst H
              exact ⟨rfl, h⟩
          ·
            replace H := ifF c43 H
            refine cond_ff hr (b := (decide (g42 < r2))) (decide_eq_false c43) ?_
            refine wp_exit ?_
            refine then_exit ?_
            refine then_exit ?_
            refine blk_here ?_
            refine then_normal ?_
            replace hr := hr.fold2 [(0, .int .i64 r2), (1, .int .i64 r4), (5, .pointer (some ⟨b1, 0, none⟩)), (7, .pointer (some ⟨Bn12, 0, none⟩)), (9, .pointer (some ⟨b28, 0, none⟩))] (by kernel_rfl); obtain ⟨j, hr⟩ := hr
            exact ⟨(), ca38, cc39, ca40, cc41, S37, sinj H, j, hr, h⟩
      clear h hr a; rintro _ a w ⟨ca31, cc32, ca33, cc34, S30, rfl, j, hr, h⟩
      replace H := jk1 hK35
      refine wp_seq ?_
      refine wp_region_lit ?_
      refine ov hr (.int .i64 0) (by kernel_rfl) ?_; clear hr a; intro a hr
      refine wpList_nil ?_
      refine then_normal ?_
      replace H := jd1 H; obtain ⟨o64, H, hK63⟩ := H
      refine cut_rule (β := Unit) (fun _ a w => ∃ ca59 : Option Addr, ∃ cc60 : Nat, ∃ ca61 : Option Addr, ∃ cc62 : Nat, ∃ S58 : T_cells_Arena, .inl S58 = o64 ∧ ∃ j, Rep 164 (lk [(0, .int .i64 r2), (5, .pointer (some ⟨b1, 0, none⟩)), (7, .pointer (some ⟨Bn12, 0, none⟩)), (9, .pointer (some ⟨b28, 0, none⟩))] j) a ∧ Fit z (sepL (rowOf 58 1 encZ_i64 (.slice (some ⟨b1, 0, none⟩) 8 8) ([at_ p2 0, at_ p2 1, at_ p2 2, at_ p2 3, at_ p2 4, at_ p2 5, at_ p2 6, at_ p2 7]) :: ob103 Bn12 S58 ca59 cc60 ca61 cc62 :: ro2 ca59 cc60 S58.cell :: ro96 ca61 cc62 S58.log :: ob39 b28 r20 :: L)) w) ?_ ?_
      ·
        refine wp_seq ?_
        refine wp_region_lit ?_
        refine ov hr (.int .i64 0) (by kernel_rfl) ?_; clear hr a; intro a hr
        refine wpList_nil ?_
        refine then_normal ?_
        refine wp_block ?_
        replace hr := hr.fold2 [(0, .int .i64 r2), (1, .int .i64 r4), (5, .pointer (some ⟨b1, 0, none⟩)), (7, .pointer (some ⟨Bn12, 0, none⟩)), (9, .pointer (some ⟨b28, 0, none⟩)), (14, .int .i64 0), (15, .int .i64 0)] (by kernel_rfl); obtain ⟨j, hr⟩ := hr
        refine loop_rule (β := Nat) id (fun m a w => ∃ ca66 : Option Addr, ∃ cc67 : Nat, ∃ ca68 : Option Addr, ∃ cc69 : Nat, ∃ S65 : T_cells_Arena, ∃ g70 : Int, ∃ g71 : Int, (plunderlaw8_FramesCount_l2 K p2 r2 r4 r20 m S65 g70 g71) = some o64 ∧ ∃ j, Rep 164 (lk [(0, .int .i64 r2), (1, .int .i64 r4), (5, .pointer (some ⟨b1, 0, none⟩)), (7, .pointer (some ⟨Bn12, 0, none⟩)), (9, .pointer (some ⟨b28, 0, none⟩)), (14, .int .i64 g70), (15, .int .i64 g71)] j) a ∧ Fit z (sepL (rowOf 58 1 encZ_i64 (.slice (some ⟨b1, 0, none⟩) 8 8) ([at_ p2 0, at_ p2 1, at_ p2 2, at_ p2 3, at_ p2 4, at_ p2 5, at_ p2 6, at_ p2 7]) :: ob103 Bn12 S65 ca66 cc67 ca68 cc69 :: ro2 ca66 cc67 S65.cell :: ro96 ca68 cc69 S65.log :: ob39 b28 r20 :: L)) w) K ⟨ca31, cc32, ca33, cc34, S30, 0, 0, H, j, hr, h⟩ ?_
        clear h hr a H; rintro k2 a w ⟨ca66, cc67, ca68, cc69, S65, g70, g71, H, j, hr, h⟩
        cases k2 with
        | zero => exact absurd H (by simp [plunderlaw8_FramesCount_l2])
        | succ k2 =>
          rw [plunderlaw8_FramesCount_l2] at H
          refine wp_seq ?_
          refine wp_seq ?_
          refine wp_region_lit ?_
          refine ovs [71, 72, 73] [.int .i64 g71, .int .i64 r2, .bool (decide (g71 ≤ r2))] hr ⟨rfl, rfl⟩ (by kernel_rfl) ?_; clear hr a; intro a hr
          refine wpList_nil ?_
          refine then_normal ?_
          by_cases c72 : g71 ≤ r2
          ·
            replace H := ifT c72 H
            refine cond_tt hr (b := (decide (g71 ≤ r2))) (decide_eq_true c72) ?_
            refine wp_skip ?_
            refine then_normal ?_
            refine wp_seq ?_
            refine wp_block ?_
            refine wp_seq ?_
            refine wp_region_lit ?_
            refine op_val (wn rfl) rfl rfl hr (v := .agg #[.int .i64 r20.Base, .int .i64 r20.Frames]) (rlm (cs := [.int .i64 r20.Base, .int .i64 r20.Frames]) rfl (by kernel_rfl) (by kernel_rfl) (by kernel_rfl) ⟨(h.pick 4).cell 0 rfl, (h.pick 4).cell 1 rfl, trivial⟩) ?_; clear hr a; intro a hr
            replace H := bd1 H; obtain ⟨r73, e74, H⟩ := H
            have hc := frames_Sync_ok (H := e74) (h := h)
            refine op_call (wn rfl) rfl rfl hr (f := 31) (args := #[.agg #[.int .i64 r20.Base, .int .i64 r20.Frames], .int .i64 0]) (by kernel_rfl) hc ?_; clear hc h
            rintro _ w ⟨rfl, h⟩; refine ⟨_, rfl, ?_⟩
            clear hr a; intro a hr
            refine op_new (wn rfl) rfl rfl hr h (vf := fun b => .pointer (some ⟨b, 0, none⟩)) (cs := #[.int .i64 0, .int .i64 0, .int .i64 0, .int .i64 0, .int .i64 0, .int .i64 0, .int .i64 0, .int .i64 0, .int .i64 0]) (T := 50) (by kernel_rfl) ?_; clear h hr a; intro b75 w a h hr
            refine op_stores (wn rfl) rfl hr rfl (by kernel_rfl) (by kernel_rfl) (vs := [.int .i64 r73.head_t_Base, .int .i64 r73.head_t_Frames, .int .i64 r73.head_frame, .int .i64 r73.head_stands, .int .i64 r73.head_code, .int .i64 r73.head_v, .int .i64 r73.kind, .int .i64 r73.slot, .int .i64 r73.give]) rfl rfl (by kernel_rfl) h (i := 0) (cs' := #[.int .i64 r73.head_t_Base, .int .i64 r73.head_t_Frames, .int .i64 r73.head_frame, .int .i64 r73.head_stands, .int .i64 r73.head_code, .int .i64 r73.head_v, .int .i64 r73.kind, .int .i64 r73.slot, .int .i64 r73.give]) rfl ?_; clear h; intro w h
            refine wpList_nil ?_
            replace h : Fit z (sepL (ob50 b75 r73 :: rowOf 58 1 encZ_i64 (.slice (some ⟨b1, 0, none⟩) 8 8) ([at_ p2 0, at_ p2 1, at_ p2 2, at_ p2 3, at_ p2 4, at_ p2 5, at_ p2 6, at_ p2 7]) :: ob103 Bn12 S65 ca66 cc67 ca68 cc69 :: ro2 ca66 cc67 S65.cell :: ro96 ca68 cc69 S65.log :: ob39 b28 r20 :: L)) _ := h
            refine then_normal ?_
            refine wp_seq ?_
            refine wp_region_lit ?_
            refine ov hr (.int .i64 12) (by kernel_rfl) ?_; clear hr a; intro a hr
            refine wpList_nil ?_
            refine then_normal ?_
            refine wp_seq ?_
            refine wp_region_lit ?_
            refine ov hr (.int .i64 13) (by kernel_rfl) ?_; clear hr a; intro a hr
            refine wpList_nil ?_
            refine then_normal ?_
            replace H := kd5 H; obtain ⟨o86, H, hK85⟩ := H
            refine cut_rule (β := Unit) (fun _ a w => ∃ ca77 : Option Addr, ∃ cc78 : Nat, ∃ ca79 : Option Addr, ∃ cc80 : Nat, ∃ S76 : T_cells_Arena, ∃ g81 : Int, ∃ S82 : T_frames_Op, ∃ g83 : Int, ∃ g84 : Int, (S76, g81, S82, g83, g84) = o86 ∧ ∃ j, Rep 164 (lk [(0, .int .i64 r2), (1, .int .i64 r4), (5, .pointer (some ⟨b1, 0, none⟩)), (7, .pointer (some ⟨Bn12, 0, none⟩)), (9, .pointer (some ⟨b28, 0, none⟩)), (14, .int .i64 g81), (15, .int .i64 g71), (16, .pointer (some ⟨b75, 0, none⟩)), (17, .int .i64 g83), (18, .int .i64 g84)] j) a ∧ Fit z (sepL (rowOf 58 1 encZ_i64 (.slice (some ⟨b1, 0, none⟩) 8 8) ([at_ p2 0, at_ p2 1, at_ p2 2, at_ p2 3, at_ p2 4, at_ p2 5, at_ p2 6, at_ p2 7]) :: ob103 Bn12 S76 ca77 cc78 ca79 cc80 :: ro2 ca77 cc78 S76.cell :: ro96 ca79 cc80 S76.log :: ob39 b28 r20 :: ob50 b75 S82 :: L)) w) ?_ ?_
            ·
              refine wp_seq ?_
              refine wp_region_lit ?_
              refine ovs [78, 79, 80] [.int .i64 g71, .int .i64 r4, .bool (g71 != r4)] hr ⟨rfl, rfl⟩ (by kernel_rfl) ?_; clear hr a; intro a hr
              refine wpList_nil ?_
              refine then_normal ?_
              by_cases c87 : g71 = r4
              ·
                replace H := ifT c87 H
                refine cond_ff hr (b := (g71 != r4)) (bne_eq_false_iff_eq.mpr c87) ?_
                refine wp_skip ?_
                refine then_normal ?_
                replace hr := hr.fold2 [(0, .int .i64 r2), (1, .int .i64 r4), (5, .pointer (some ⟨b1, 0, none⟩)), (7, .pointer (some ⟨Bn12, 0, none⟩)), (9, .pointer (some ⟨b28, 0, none⟩)), (14, .int .i64 g70), (15, .int .i64 g71), (16, .pointer (some ⟨b75, 0, none⟩)), (17, .int .i64 12), (18, .int .i64 13)] (by kernel_rfl); obtain ⟨j, hr⟩ := hr
                replace h : Fit z (sepL (rowOf 58 1 encZ_i64 (.slice (some ⟨b1, 0, none⟩) 8 8) ([at_ p2 0, at_ p2 1, at_ p2 2, at_ p2 3, at_ p2 4, at_ p2 5, at_ p2 6, at_ p2 7]) :: ob103 Bn12 S65 ca66 cc67 ca68 cc69 :: ro2 ca66 cc67 S65.cell :: ro96 ca68 cc69 S65.log :: ob39 b28 r20 :: ob50 b75 r73 :: L)) _ := h.sel 6 [1, 2, 3, 4, 5, 0] (by kernel_rfl) (by kernel_rfl)
                exact ⟨(), ca66, cc67, ca68, cc69, S65, g70, r73, 12, 13, sinj H, j, hr, h⟩
              ·
                replace H := ifF c87 H
                refine cond_tt hr (b := (g71 != r4)) (bne_iff_ne.mpr c87) ?_
                refine wp_seq ?_
                replace H := gd H; obtain ⟨c88, H⟩ := H
                replace H := bd1 H; obtain ⟨r89, e90, H⟩ := H
                replace H := bd2 H; obtain ⟨r91, S92, e93, H⟩ := H
                refine reg_E (fun w => heldC w b28 0 [.int .i64 r20.Base, .int .i64 r20.Frames] ∧ heldC w (blk (some ⟨b1, 0, none⟩)) (g70.toNat * 1) [.int .i64 (at_ ([at_ p2 0, at_ p2 1, at_ p2 2, at_ p2 3, at_ p2 4, at_ p2 5, at_ p2 6, at_ p2 7]) g70.toNat)] ∧ True) [1, 5, 7] h (by kernel_rfl) ?_; intro w h
                change wpAnyE _ _ _ _ _ _ 10 (Array.replicate 10 false) a w
                have hgo : ∀ w w', CellsGo w w' → (heldC w b28 0 [.int .i64 r20.Base, .int .i64 r20.Frames] ∧ heldC w (blk (some ⟨b1, 0, none⟩)) (g70.toNat * 1) [.int .i64 (at_ ([at_ p2 0, at_ p2 1, at_ p2 2, at_ p2 3, at_ p2 4, at_ p2 5, at_ p2 6, at_ p2 7]) g70.toNat)] ∧ True) → heldC w' b28 0 [.int .i64 r20.Base, .int .i64 r20.Frames] ∧ heldC w' (blk (some ⟨b1, 0, none⟩)) (g70.toNat * 1) [.int .i64 (at_ ([at_ p2 0, at_ p2 1, at_ p2 2, at_ p2 3, at_ p2 4, at_ p2 5, at_ p2 6, at_ p2 7]) g70.toNat)] ∧ True := fun w w' g hD => ⟨heldC_go _ _ _ _ _ g hD.1, heldC_go _ _ _ _ _ g hD.2.1, trivial⟩
                refine ev 9 0 rfl (by kernel_rfl) (wn rfl) hr (.pointer (some ⟨Bn12, 0, none⟩)) (fun w => by kernel_rfl) ?_; clear hr a; intro a hr
                refine evD hgo ⟨⟨(h.pick 5).cell 0 rfl, (h.pick 5).cell 1 rfl, trivial⟩, ⟨(h.pick 1).row_cell encZ_i64_ok (f := 0) (at_ok c88) rfl, trivial⟩, trivial⟩ 8 1 rfl (by kernel_rfl) (wn rfl) hr (.iface 26 (.pointer (some ⟨Bn12, 0, none⟩))) (fun w => by kernel_rfl) ?_; clear hr a; intro a hr
                refine ev 7 3 rfl (by kernel_rfl) (wn rfl) hr (.int .i64 g70) (fun w => by kernel_rfl) ?_; clear hr a; intro a hr
                refine ev 6 4 rfl (by kernel_rfl) (wn rfl) hr (.int .i64 g70) (fun w => by kernel_rfl) ?_; clear hr a; intro a hr
                refine evD hgo ⟨⟨(h.pick 5).cell 0 rfl, (h.pick 5).cell 1 rfl, trivial⟩, ⟨(h.pick 1).row_cell encZ_i64_ok (f := 0) (at_ok c88) rfl, trivial⟩, trivial⟩ 5 5 rfl (by kernel_rfl) (wn rfl) hr (.pointer (some ⟨blk (some ⟨b1, 0, none⟩), g70.toNat * 1, none⟩)) (fun w => ri_arr (k := .i64) (E := 2) rfl (by kernel_rfl) (by kernel_rfl) (by kernel_rfl) (by kernel_rfl) (h.pick 1).row_n.symm c88) ?_; clear hr a; intro a hr
                refine el [1, 5, 7] (b := b28) (off := 0) (cs := [.int .i64 r20.Base, .int .i64 r20.Frames]) (fun _ hk => ⟨hk, fun w hD => hD.1⟩) 4 2 rfl (by kernel_rfl) (wn rfl) hr (.agg #[.int .i64 r20.Base, .int .i64 r20.Frames]) ⟨(h.pick 5).cell 0 rfl, (h.pick 5).cell 1 rfl, trivial⟩ (fun w hc => rlm (cs := [.int .i64 r20.Base, .int .i64 r20.Frames]) rfl (by kernel_rfl) (by kernel_rfl) (by kernel_rfl) hc) ?_; clear hr a; intro a hr
                refine el [1, 5, 7] (b := blk (some ⟨b1, 0, none⟩)) (off := g70.toNat * 1) (cs := [.int .i64 (at_ ([at_ p2 0, at_ p2 1, at_ p2 2, at_ p2 3, at_ p2 4, at_ p2 5, at_ p2 6, at_ p2 7]) g70.toNat)]) (fun _ hk => ⟨hk, fun w hD => hD.2.1⟩) 3 6 rfl (by kernel_rfl) (wn rfl) hr (.int .i64 (at_ ([at_ p2 0, at_ p2 1, at_ p2 2, at_ p2 3, at_ p2 4, at_ p2 5, at_ p2 6, at_ p2 7]) g70.toNat)) ⟨(h.pick 1).row_cell encZ_i64_ok (f := 0) (at_ok c88) rfl, trivial⟩ (fun w hc => rl rfl (by kernel_rfl) (by kernel_rfl) hc.1) ?_; clear hr a; intro a hr
                refine e_one (fuel := 2) (i := 7) (by kernel_rfl) rfl ?_
                have hc := frames_Finish_ok (H := e90) (h := h)
                refine op_call (wn rfl) rfl rfl hr (f := 32) (args := #[.agg #[.int .i64 r20.Base, .int .i64 r20.Frames], .int .i64 0, .int .i64 g70, .int .i64 (at_ ([at_ p2 0, at_ p2 1, at_ p2 2, at_ p2 3, at_ p2 4, at_ p2 5, at_ p2 6, at_ p2 7]) g70.toNat)]) (by kernel_rfl) hc ?_; clear hc h
                rintro _ w ⟨rfl, h⟩; refine ⟨_, rfl, ?_⟩
                clear hr a; intro a hr
                refine wpList_nil ?_; refine then_normal ?_
                refine ⟨fun _ => ⟨⟨(h.pick 5).cell 0 rfl, (h.pick 5).cell 1 rfl, trivial⟩, ⟨(h.pick 1).row_cell encZ_i64_ok (f := 0) (at_ok c88) rfl, trivial⟩, trivial⟩, ?_⟩
                refine e_one (fuel := 1) (i := 8) (by kernel_rfl) rfl ?_
                replace h : Fit z (sepL (ob103 Bn12 S65 ca66 cc67 ca68 cc69 :: ro2 ca66 cc67 S65.cell :: ro96 ca68 cc69 S65.log :: ob50 b75 r73 :: rowOf 58 1 encZ_i64 (.slice (some ⟨b1, 0, none⟩) 8 8) ([at_ p2 0, at_ p2 1, at_ p2 2, at_ p2 3, at_ p2 4, at_ p2 5, at_ p2 6, at_ p2 7]) :: ob39 b28 r20 :: L)) _ := h.sel 6 [2, 3, 4, 0, 1, 5] (by kernel_rfl) (by kernel_rfl)
                have hc := frames_Step_iface_ok (H := e93) (h := h)
                refine op_call (wn rfl) rfl rfl hr (f := 28) (args := #[.iface 26 (.pointer (some ⟨Bn12, 0, none⟩)), .agg #[.int .i64 r89.head_t_Base, .int .i64 r89.head_t_Frames, .int .i64 r89.head_frame, .int .i64 r89.head_stands, .int .i64 r89.head_code, .int .i64 r89.head_v, .int .i64 r89.kind, .int .i64 r89.slot, .int .i64 r89.give]]) (by kernel_rfl) hc ?_; clear hc h
                rintro _ w ⟨caq94, ccq95, caq96, ccq97, rfl, h⟩; refine ⟨_, rfl, ?_⟩
                clear hr a; intro a hr
                refine wpList_nil ?_; refine then_normal ?_
                refine ⟨fun hE => absurd hE (by decide), ?_⟩
                refine e_one (fuel := 0) (i := 9) (by kernel_rfl) rfl ?_
                replace h : Fit z (sepL (ob50 b75 r73 :: ob103 Bn12 S92 caq94 ccq95 caq96 ccq97 :: ro2 caq94 ccq95 S92.cell :: ro96 caq96 ccq97 S92.log :: rowOf 58 1 encZ_i64 (.slice (some ⟨b1, 0, none⟩) 8 8) ([at_ p2 0, at_ p2 1, at_ p2 2, at_ p2 3, at_ p2 4, at_ p2 5, at_ p2 6, at_ p2 7]) :: ob39 b28 r20 :: L)) _ := h.sel 6 [3, 0, 1, 2, 4, 5] (by kernel_rfl) (by kernel_rfl)
                refine op_stores (wn rfl) rfl hr rfl (by kernel_rfl) (by kernel_rfl) (vs := [.int .i64 r91.head_t_Base, .int .i64 r91.head_t_Frames, .int .i64 r91.head_frame, .int .i64 r91.head_stands, .int .i64 r91.head_code, .int .i64 r91.head_v, .int .i64 r91.kind, .int .i64 r91.slot, .int .i64 r91.give]) rfl rfl (by kernel_rfl) h (i := 0) (cs' := #[.int .i64 r91.head_t_Base, .int .i64 r91.head_t_Frames, .int .i64 r91.head_frame, .int .i64 r91.head_stands, .int .i64 r91.head_code, .int .i64 r91.head_v, .int .i64 r91.kind, .int .i64 r91.slot, .int .i64 r91.give]) rfl ?_; clear h; intro w h
                refine wpList_nil ?_; refine then_normal ?_
                replace h : Fit z (sepL (ob50 b75 r91 :: ob103 Bn12 S92 caq94 ccq95 caq96 ccq97 :: ro2 caq94 ccq95 S92.cell :: ro96 caq96 ccq97 S92.log :: rowOf 58 1 encZ_i64 (.slice (some ⟨b1, 0, none⟩) 8 8) ([at_ p2 0, at_ p2 1, at_ p2 2, at_ p2 3, at_ p2 4, at_ p2 5, at_ p2 6, at_ p2 7]) :: ob39 b28 r20 :: L)) _ := h
                refine ⟨fun hE => absurd hE (by decide), ?_⟩
                refine e_end (by kernel_rfl) ?_
                refine then_normal ?_
                refine wp_seq ?_
                refine wp_region_lit ?_
                refine ov hr (.int .i64 10) (by kernel_rfl) ?_; clear hr a; intro a hr
                refine wpList_nil ?_
                refine then_normal ?_
                refine wp_seq ?_
                refine wp_region_lit ?_
                refine ov hr (.int .i64 11) (by kernel_rfl) ?_; clear hr a; intro a hr
                refine wpList_nil ?_
                refine then_normal ?_
                refine wp_region_lit ?_
                refine ovs [90, 91, 14] [.int .i64 g70, .int .i64 (wi (g70 + (1 : Int))), .int .i64 (wi (g70 + (1 : Int)))] hr ⟨rfl, rfl⟩ (by kernel_rfl) ?_; clear hr a; intro a hr
                refine wpList_nil ?_
                refine then_normal ?_
                replace hr := hr.fold2 [(0, .int .i64 r2), (1, .int .i64 r4), (5, .pointer (some ⟨b1, 0, none⟩)), (7, .pointer (some ⟨Bn12, 0, none⟩)), (9, .pointer (some ⟨b28, 0, none⟩)), (14, .int .i64 (wi (g70 + (1 : Int)))), (15, .int .i64 g71), (16, .pointer (some ⟨b75, 0, none⟩)), (17, .int .i64 10), (18, .int .i64 11)] (by kernel_rfl); obtain ⟨j, hr⟩ := hr
                replace h : Fit z (sepL (rowOf 58 1 encZ_i64 (.slice (some ⟨b1, 0, none⟩) 8 8) ([at_ p2 0, at_ p2 1, at_ p2 2, at_ p2 3, at_ p2 4, at_ p2 5, at_ p2 6, at_ p2 7]) :: ob103 Bn12 S92 caq94 ccq95 caq96 ccq97 :: ro2 caq94 ccq95 S92.cell :: ro96 caq96 ccq97 S92.log :: ob39 b28 r20 :: ob50 b75 r91 :: L)) _ := h.sel 6 [4, 1, 2, 3, 5, 0] (by kernel_rfl) (by kernel_rfl)
                exact ⟨(), caq94, ccq95, caq96, ccq97, S92, (wi (g70 + (1 : Int))), r91, 10, 11, sinj H, j, hr, h⟩
            clear h hr a; rintro _ a w ⟨ca77, cc78, ca79, cc80, S76, g81, S82, g83, g84, rfl, j, hr, h⟩
            replace H := kk5 hK85
            refine wp_seq ?_
            refine wp_region_lit ?_
            refine ovs [92, 93] [.pointer (some ⟨Bn12, 0, none⟩), .iface 26 (.pointer (some ⟨Bn12, 0, none⟩))] hr ⟨rfl, rfl⟩ (by kernel_rfl) ?_; clear hr a; intro a hr
            refine op_val (wn rfl) rfl rfl hr (v := .agg #[.int .i64 S82.head_t_Base, .int .i64 S82.head_t_Frames, .int .i64 S82.head_frame, .int .i64 S82.head_stands, .int .i64 S82.head_code, .int .i64 S82.head_v, .int .i64 S82.kind, .int .i64 S82.slot, .int .i64 S82.give]) (rlm (cs := [.int .i64 S82.head_t_Base, .int .i64 S82.head_t_Frames, .int .i64 S82.head_frame, .int .i64 S82.head_stands, .int .i64 S82.head_code, .int .i64 S82.head_v, .int .i64 S82.kind, .int .i64 S82.slot, .int .i64 S82.give]) rfl (by kernel_rfl) (by kernel_rfl) (by kernel_rfl) ⟨(h.pick 5).cell 0 rfl, (h.pick 5).cell 1 rfl, (h.pick 5).cell 2 rfl, (h.pick 5).cell 3 rfl, (h.pick 5).cell 4 rfl, (h.pick 5).cell 5 rfl, (h.pick 5).cell 6 rfl, (h.pick 5).cell 7 rfl, (h.pick 5).cell 8 rfl, trivial⟩) ?_; clear hr a; intro a hr
            replace H := bd2 H; obtain ⟨r98, S99, e100, H⟩ := H
            replace h : Fit z (sepL (ob103 Bn12 S76 ca77 cc78 ca79 cc80 :: ro2 ca77 cc78 S76.cell :: ro96 ca79 cc80 S76.log :: rowOf 58 1 encZ_i64 (.slice (some ⟨b1, 0, none⟩) 8 8) ([at_ p2 0, at_ p2 1, at_ p2 2, at_ p2 3, at_ p2 4, at_ p2 5, at_ p2 6, at_ p2 7]) :: ob39 b28 r20 :: ob50 b75 S82 :: L)) _ := h.sel 6 [1, 2, 3, 0, 4, 5] (by kernel_rfl) (by kernel_rfl)
            have hc := frames_Step_iface_ok (H := e100) (h := h)
            refine op_call (wn rfl) rfl rfl hr (f := 28) (args := #[.iface 26 (.pointer (some ⟨Bn12, 0, none⟩)), .agg #[.int .i64 S82.head_t_Base, .int .i64 S82.head_t_Frames, .int .i64 S82.head_frame, .int .i64 S82.head_stands, .int .i64 S82.head_code, .int .i64 S82.head_v, .int .i64 S82.kind, .int .i64 S82.slot, .int .i64 S82.give]]) (by kernel_rfl) hc ?_; clear hc h
            rintro _ w ⟨caq101, ccq102, caq103, ccq104, rfl, h⟩; refine ⟨_, rfl, ?_⟩
            clear hr a; intro a hr
            replace h : Fit z (sepL (ob50 b75 S82 :: ob103 Bn12 S99 caq101 ccq102 caq103 ccq104 :: ro2 caq101 ccq102 S99.cell :: ro96 caq103 ccq104 S99.log :: rowOf 58 1 encZ_i64 (.slice (some ⟨b1, 0, none⟩) 8 8) ([at_ p2 0, at_ p2 1, at_ p2 2, at_ p2 3, at_ p2 4, at_ p2 5, at_ p2 6, at_ p2 7]) :: ob39 b28 r20 :: L)) _ := h.sel 6 [5, 0, 1, 2, 3, 4] (by kernel_rfl) (by kernel_rfl)
            refine op_stores (wn rfl) rfl hr rfl (by kernel_rfl) (by kernel_rfl) (vs := [.int .i64 r98.head_t_Base, .int .i64 r98.head_t_Frames, .int .i64 r98.head_frame, .int .i64 r98.head_stands, .int .i64 r98.head_code, .int .i64 r98.head_v, .int .i64 r98.kind, .int .i64 r98.slot, .int .i64 r98.give]) rfl rfl (by kernel_rfl) h (i := 0) (cs' := #[.int .i64 r98.head_t_Base, .int .i64 r98.head_t_Frames, .int .i64 r98.head_frame, .int .i64 r98.head_stands, .int .i64 r98.head_code, .int .i64 r98.head_v, .int .i64 r98.kind, .int .i64 r98.slot, .int .i64 r98.give]) rfl ?_; clear h; intro w h
            refine wpList_nil ?_
            replace h : Fit z (sepL (ob50 b75 r98 :: ob103 Bn12 S99 caq101 ccq102 caq103 ccq104 :: ro2 caq101 ccq102 S99.cell :: ro96 caq103 ccq104 S99.log :: rowOf 58 1 encZ_i64 (.slice (some ⟨b1, 0, none⟩) 8 8) ([at_ p2 0, at_ p2 1, at_ p2 2, at_ p2 3, at_ p2 4, at_ p2 5, at_ p2 6, at_ p2 7]) :: ob39 b28 r20 :: L)) _ := h
            refine then_normal ?_
            refine wp_seq ?_
            refine wp_region_lit ?_
            refine op_val (wn rfl) rfl rfl hr (v := .agg #[.int .i64 r98.head_t_Base, .int .i64 r98.head_t_Frames, .int .i64 r98.head_frame, .int .i64 r98.head_stands, .int .i64 r98.head_code, .int .i64 r98.head_v, .int .i64 r98.kind, .int .i64 r98.slot, .int .i64 r98.give]) (rlm (cs := [.int .i64 r98.head_t_Base, .int .i64 r98.head_t_Frames, .int .i64 r98.head_frame, .int .i64 r98.head_stands, .int .i64 r98.head_code, .int .i64 r98.head_v, .int .i64 r98.kind, .int .i64 r98.slot, .int .i64 r98.give]) rfl (by kernel_rfl) (by kernel_rfl) (by kernel_rfl) ⟨h.cell 0 rfl, h.cell 1 rfl, h.cell 2 rfl, h.cell 3 rfl, h.cell 4 rfl, h.cell 5 rfl, h.cell 6 rfl, h.cell 7 rfl, h.cell 8 rfl, trivial⟩) ?_; clear hr a; intro a hr
            replace H := bd2 H; obtain ⟨r105, r106, e107, H⟩ := H
            have hc := frames_Answer_ok (H := e107) (h := h)
            refine op_call (wn rfl) rfl rfl hr (f := 26) (args := #[.agg #[.int .i64 r98.head_t_Base, .int .i64 r98.head_t_Frames, .int .i64 r98.head_frame, .int .i64 r98.head_stands, .int .i64 r98.head_code, .int .i64 r98.head_v, .int .i64 r98.kind, .int .i64 r98.slot, .int .i64 r98.give]]) (by kernel_rfl) hc ?_; clear hc h
            rintro _ w ⟨rfl, h⟩; refine ⟨_, rfl, ?_⟩
            clear hr a; intro a hr
            refine ovs [96, 99, 100, 19, 20] [.tuple #[.int .i64 r105, .int .i64 r106], .int .i64 r105, .int .i64 r106, .int .i64 r105, .int .i64 r106] hr ⟨rfl, rfl⟩ (by kernel_rfl) ?_; clear hr a; intro a hr
            refine wpList_nil ?_
            refine then_normal ?_
            replace H := jd0 H; obtain ⟨o109, H, hK108⟩ := H
            refine cut_rule (β := Unit) (fun _ a w => .inl () = o109 ∧ ∃ j, Rep 164 (lk [(0, .int .i64 r2), (1, .int .i64 r4), (5, .pointer (some ⟨b1, 0, none⟩)), (7, .pointer (some ⟨Bn12, 0, none⟩)), (9, .pointer (some ⟨b28, 0, none⟩)), (14, .int .i64 g81), (15, .int .i64 g71), (16, .pointer (some ⟨b75, 0, none⟩)), (18, .int .i64 g84), (19, .int .i64 r105), (20, .int .i64 r106)] j) a ∧ Fit z (sepL (rowOf 58 1 encZ_i64 (.slice (some ⟨b1, 0, none⟩) 8 8) ([at_ p2 0, at_ p2 1, at_ p2 2, at_ p2 3, at_ p2 4, at_ p2 5, at_ p2 6, at_ p2 7]) :: ob103 Bn12 S99 caq101 ccq102 caq103 ccq104 :: ro2 caq101 ccq102 S99.cell :: ro96 caq103 ccq104 S99.log :: ob39 b28 r20 :: ob50 b75 r98 :: L)) w) ?_ ?_
            ·
              refine wp_seq ?_
              refine wp_region_lit ?_
              refine ovs [101, 102, 103, 104] [.int .i64 g71, .int .i64 r2, .bool (decide (g71 < r2)), .bool (decide (g71 < r2))] hr ⟨rfl, rfl⟩ (by kernel_rfl) ?_; clear hr a; intro a hr
              by_cases c110 : g71 < r2
              ·
                replace H := ifT c110 H
                refine op_val ((wg hr rfl rfl rfl (b' := (decide (g71 < r2))) (by kernel_rfl)).trans (by rw [show (decide (g71 < r2)) = true from (decide_eq_true c110)]; rfl)) rfl rfl hr (v := .int .i64 r105) (by kernel_rfl) ?_; clear hr a; intro a hr
                refine op_val ((wg hr rfl rfl rfl (b' := (decide (g71 < r2))) (by kernel_rfl)).trans (by rw [show (decide (g71 < r2)) = true from (decide_eq_true c110)]; rfl)) rfl rfl hr (v := .int .i64 g83) (by kernel_rfl) ?_; clear hr a; intro a hr
                refine op_val ((wg hr rfl rfl rfl (b' := (decide (g71 < r2))) (by kernel_rfl)).trans (by rw [show (decide (g71 < r2)) = true from (decide_eq_true c110)]; rfl)) rfl rfl hr (v := .bool (r105 != g83)) (by kernel_rfl) ?_; clear hr a; intro a hr
                refine op_val ((wg hr rfl rfl rfl (b' := (decide (g71 < r2))) (by kernel_rfl)).trans (by rw [show (decide (g71 < r2)) = true from (decide_eq_true c110)]; rfl)) rfl rfl hr (v := .bool (r105 != g83)) (by kernel_rfl) ?_; clear hr a; intro a hr
                by_cases c111 : r105 = g83
                ·
                  replace H := ifT c111 H
                  refine op_val ((wg hr rfl rfl rfl (b' := (r105 != g83)) (by kernel_rfl)).trans (by rw [show (r105 != g83) = false from (bne_eq_false_iff_eq.mpr c111)]; rfl)) rfl rfl hr (v := .int .i64 r106) (by kernel_rfl) ?_; clear hr a; intro a hr
                  refine op_val ((wg hr rfl rfl rfl (b' := (r105 != g83)) (by kernel_rfl)).trans (by rw [show (r105 != g83) = false from (bne_eq_false_iff_eq.mpr c111)]; rfl)) rfl rfl hr (v := .int .i64 r2) (by kernel_rfl) ?_; clear hr a; intro a hr
                  refine op_val ((wg hr rfl rfl rfl (b' := (r105 != g83)) (by kernel_rfl)).trans (by rw [show (r105 != g83) = false from (bne_eq_false_iff_eq.mpr c111)]; rfl)) rfl rfl hr (v := .int .i64 g71) (by kernel_rfl) ?_; clear hr a; intro a hr
                  refine op_val ((wg hr rfl rfl rfl (b' := (r105 != g83)) (by kernel_rfl)).trans (by rw [show (r105 != g83) = false from (bne_eq_false_iff_eq.mpr c111)]; rfl)) rfl rfl hr (v := .int .i64 (wi (r2 - g71))) (by kernel_rfl) ?_; clear hr a; intro a hr
                  refine op_val ((wg hr rfl rfl rfl (b' := (r105 != g83)) (by kernel_rfl)).trans (by rw [show (r105 != g83) = false from (bne_eq_false_iff_eq.mpr c111)]; rfl)) rfl rfl hr (v := .bool (r106 != (wi (r2 - g71)))) (by kernel_rfl) ?_; clear hr a; intro a hr
                  refine op_val ((wg hr rfl rfl rfl (b' := (decide (g71 < r2))) (by kernel_rfl)).trans (by rw [show (decide (g71 < r2)) = true from (decide_eq_true c110)]; rfl)) rfl rfl hr (v := .bool (r106 != (wi (r2 - g71)))) (rp_f (b := (r105 != g83)) rfl (by kernel_rfl) (bne_eq_false_iff_eq.mpr c111) (by kernel_rfl)) ?_; clear hr a; intro a hr
                  refine op_val (wn rfl) rfl rfl hr (v := .bool (r106 != (wi (r2 - g71)))) (rp_t (b := (decide (g71 < r2))) rfl (by kernel_rfl) (decide_eq_true c110) (by kernel_rfl)) ?_; clear hr a; intro a hr
                  refine wpList_nil ?_
                  refine then_normal ?_
                  by_cases c112 : r106 = (wi (r2 - g71))
                  ·
                    replace H := ifT c112 H
                    refine cond_ff hr (b := (r106 != (wi (r2 - g71)))) (bne_eq_false_iff_eq.mpr c112) ?_
                    refine wp_skip ?_
                    refine then_normal ?_
                    replace hr := hr.fold2 [(0, .int .i64 r2), (1, .int .i64 r4), (5, .pointer (some ⟨b1, 0, none⟩)), (7, .pointer (some ⟨Bn12, 0, none⟩)), (9, .pointer (some ⟨b28, 0, none⟩)), (14, .int .i64 g81), (15, .int .i64 g71), (16, .pointer (some ⟨b75, 0, none⟩)), (18, .int .i64 g84), (19, .int .i64 r105), (20, .int .i64 r106)] (by kernel_rfl); obtain ⟨j, hr⟩ := hr
                    replace h : Fit z (sepL (rowOf 58 1 encZ_i64 (.slice (some ⟨b1, 0, none⟩) 8 8) ([at_ p2 0, at_ p2 1, at_ p2 2, at_ p2 3, at_ p2 4, at_ p2 5, at_ p2 6, at_ p2 7]) :: ob103 Bn12 S99 caq101 ccq102 caq103 ccq104 :: ro2 caq101 ccq102 S99.cell :: ro96 caq103 ccq104 S99.log :: ob39 b28 r20 :: ob50 b75 r98 :: L)) _ := h.sel 6 [4, 1, 2, 3, 5, 0] (by kernel_rfl) (by kernel_rfl)
                    exact ⟨(), sinj H, j, hr, h⟩
                  ·
                    replace H := ifF c112 H
                    refine cond_tt hr (b := (r106 != (wi (r2 - g71)))) (bne_iff_ne.mpr c112) ?_
                    refine wp_seq ?_
                    refine wp_region_lit ?_
                    refine ov hr (.bool false) (by kernel_rfl) ?_; clear hr a; intro a hr
                    refine wpList_nil ?_
                    refine then_normal ?_
                    refine wp_ret ?_
                    refine then_ret ?_
                    refine blk_ret ?_
                    refine then_ret ?_
                    refine then_ret ?_
                    refine blk_ret ?_
                    refine then_ret ?_
                    refine end_ret1 (v := .bool false) rfl hr (by kernel_rfl) ?_
                    replace H := jx0 H hK108
                    replace H := jx1 H hK63
                    replace h : Fit z (sepL (L)) _ := h.sel 6 [] (by kernel_rfl) (by kernel_rfl)
                    replace H := ej1 H; subst H
                    exact ⟨rfl, h⟩
                ·
                  replace H := ifF c111 H
                  refine op_off ((wg hr rfl rfl rfl (b' := (r105 != g83)) (by kernel_rfl)).trans (by rw [show (r105 != g83) = true from (bne_iff_ne.mpr c111)]; rfl)) rfl rfl hr ?_; clear hr a; intro a hr
                  refine op_off ((wg hr rfl rfl rfl (b' := (r105 != g83)) (by kernel_rfl)).trans (by rw [show (r105 != g83) = true from (bne_iff_ne.mpr c111)]; rfl)) rfl rfl hr ?_; clear hr a; intro a hr
                  refine op_off ((wg hr rfl rfl rfl (b' := (r105 != g83)) (by kernel_rfl)).trans (by rw [show (r105 != g83) = true from (bne_iff_ne.mpr c111)]; rfl)) rfl rfl hr ?_; clear hr a; intro a hr
                  refine op_off ((wg hr rfl rfl rfl (b' := (r105 != g83)) (by kernel_rfl)).trans (by rw [show (r105 != g83) = true from (bne_iff_ne.mpr c111)]; rfl)) rfl rfl hr ?_; clear hr a; intro a hr
                  refine op_off ((wg hr rfl rfl rfl (b' := (r105 != g83)) (by kernel_rfl)).trans (by rw [show (r105 != g83) = true from (bne_iff_ne.mpr c111)]; rfl)) rfl rfl hr ?_; clear hr a; intro a hr
                  refine op_val ((wg hr rfl rfl rfl (b' := (decide (g71 < r2))) (by kernel_rfl)).trans (by rw [show (decide (g71 < r2)) = true from (decide_eq_true c110)]; rfl)) rfl rfl hr (v := .bool true) (rp_t (b := (r105 != g83)) rfl (by kernel_rfl) (bne_iff_ne.mpr c111) (by kernel_rfl)) ?_; clear hr a; intro a hr
                  refine op_val (wn rfl) rfl rfl hr (v := .bool true) (rp_t (b := (decide (g71 < r2))) rfl (by kernel_rfl) (decide_eq_true c110) (by kernel_rfl)) ?_; clear hr a; intro a hr
                  refine wpList_nil ?_
                  refine then_normal ?_
                  refine cond_tt hr (b := true) rfl ?_
                  refine wp_seq ?_
                  refine wp_region_lit ?_
                  refine ov hr (.bool false) (by kernel_rfl) ?_; clear hr a; intro a hr
                  refine wpList_nil ?_
                  refine then_normal ?_
                  refine wp_ret ?_
                  refine then_ret ?_
                  refine blk_ret ?_
                  refine then_ret ?_
                  refine then_ret ?_
                  refine blk_ret ?_
                  refine then_ret ?_
                  refine end_ret1 (v := .bool false) rfl hr (by kernel_rfl) ?_
                  replace H := jx0 H hK108
                  replace H := jx1 H hK63
                  replace h : Fit z (sepL (L)) _ := h.sel 6 [] (by kernel_rfl) (by kernel_rfl)
                  replace H := ej1 H; subst H
                  exact ⟨rfl, h⟩
              ·
                replace H := ifF c110 H
                refine op_off ((wg hr rfl rfl rfl (b' := (decide (g71 < r2))) (by kernel_rfl)).trans (by rw [show (decide (g71 < r2)) = false from (decide_eq_false c110)]; rfl)) rfl rfl hr ?_; clear hr a; intro a hr
                refine op_off ((wg hr rfl rfl rfl (b' := (decide (g71 < r2))) (by kernel_rfl)).trans (by rw [show (decide (g71 < r2)) = false from (decide_eq_false c110)]; rfl)) rfl rfl hr ?_; clear hr a; intro a hr
                refine op_off ((wg hr rfl rfl rfl (b' := (decide (g71 < r2))) (by kernel_rfl)).trans (by rw [show (decide (g71 < r2)) = false from (decide_eq_false c110)]; rfl)) rfl rfl hr ?_; clear hr a; intro a hr
                refine op_off ((wg hr rfl rfl rfl (b' := (decide (g71 < r2))) (by kernel_rfl)).trans (by rw [show (decide (g71 < r2)) = false from (decide_eq_false c110)]; rfl)) rfl rfl hr ?_; clear hr a; intro a hr
                refine op_off (wg_undef hr rfl rfl rfl (by kernel_rfl)) rfl rfl hr ?_; clear hr a; intro a hr
                refine op_off (wg_undef hr rfl rfl rfl (by kernel_rfl)) rfl rfl hr ?_; clear hr a; intro a hr
                refine op_off (wg_undef hr rfl rfl rfl (by kernel_rfl)) rfl rfl hr ?_; clear hr a; intro a hr
                refine op_off (wg_undef hr rfl rfl rfl (by kernel_rfl)) rfl rfl hr ?_; clear hr a; intro a hr
                refine op_off (wg_undef hr rfl rfl rfl (by kernel_rfl)) rfl rfl hr ?_; clear hr a; intro a hr
                refine op_off ((wg hr rfl rfl rfl (b' := (decide (g71 < r2))) (by kernel_rfl)).trans (by rw [show (decide (g71 < r2)) = false from (decide_eq_false c110)]; rfl)) rfl rfl hr ?_; clear hr a; intro a hr
                refine op_val (wn rfl) rfl rfl hr (v := .bool false) (rp_f (b := (decide (g71 < r2))) rfl (by kernel_rfl) (decide_eq_false c110) (by kernel_rfl)) ?_; clear hr a; intro a hr
                refine wpList_nil ?_
                refine then_normal ?_
                refine cond_ff hr (b := false) rfl ?_
                refine wp_skip ?_
                refine then_normal ?_
                replace hr := hr.fold2 [(0, .int .i64 r2), (1, .int .i64 r4), (5, .pointer (some ⟨b1, 0, none⟩)), (7, .pointer (some ⟨Bn12, 0, none⟩)), (9, .pointer (some ⟨b28, 0, none⟩)), (14, .int .i64 g81), (15, .int .i64 g71), (16, .pointer (some ⟨b75, 0, none⟩)), (18, .int .i64 g84), (19, .int .i64 r105), (20, .int .i64 r106)] (by kernel_rfl); obtain ⟨j, hr⟩ := hr
                replace h : Fit z (sepL (rowOf 58 1 encZ_i64 (.slice (some ⟨b1, 0, none⟩) 8 8) ([at_ p2 0, at_ p2 1, at_ p2 2, at_ p2 3, at_ p2 4, at_ p2 5, at_ p2 6, at_ p2 7]) :: ob103 Bn12 S99 caq101 ccq102 caq103 ccq104 :: ro2 caq101 ccq102 S99.cell :: ro96 caq103 ccq104 S99.log :: ob39 b28 r20 :: ob50 b75 r98 :: L)) _ := h.sel 6 [4, 1, 2, 3, 5, 0] (by kernel_rfl) (by kernel_rfl)
                exact ⟨(), sinj H, j, hr, h⟩
            clear h hr a; rintro _ a w ⟨rfl, j, hr, h⟩
            replace H := jk0 hK108
            refine wp_seq ?_
            refine wp_region_lit ?_
            refine ovs [116, 117, 118] [.int .i64 g71, .int .i64 r2, .bool (g71 == r2)] hr ⟨rfl, rfl⟩ (by kernel_rfl) ?_; clear hr a; intro a hr
            refine wpList_nil ?_
            refine then_normal ?_
            by_cases c113 : g71 = r2
            ·
              replace H := ifT c113 H
              refine cond_tt hr (b := (g71 == r2)) (beq_iff_eq.mpr c113) ?_
              replace H := jd0 H; obtain ⟨o115, H, hK114⟩ := H
              refine cut_rule (β := Unit) (fun _ a w => .inl () = o115 ∧ ∃ j, Rep 164 (lk [(0, .int .i64 r2), (1, .int .i64 r4), (5, .pointer (some ⟨b1, 0, none⟩)), (7, .pointer (some ⟨Bn12, 0, none⟩)), (9, .pointer (some ⟨b28, 0, none⟩)), (14, .int .i64 g81), (15, .int .i64 g71), (16, .pointer (some ⟨b75, 0, none⟩)), (18, .int .i64 g84), (122, .int .i64 r106), (123, .bool (r106 != (0 : Int)))] j) a ∧ Fit z (sepL (rowOf 58 1 encZ_i64 (.slice (some ⟨b1, 0, none⟩) 8 8) ([at_ p2 0, at_ p2 1, at_ p2 2, at_ p2 3, at_ p2 4, at_ p2 5, at_ p2 6, at_ p2 7]) :: ob103 Bn12 S99 caq101 ccq102 caq103 ccq104 :: ro2 caq101 ccq102 S99.cell :: ro96 caq103 ccq104 S99.log :: ob39 b28 r20 :: ob50 b75 r98 :: L)) w) ?_ ?_
              ·
                refine wp_seq ?_
                refine wp_region_lit ?_
                refine ovs [119, 120, 121] [.int .i64 r105, .bool (r105 != (0 : Int)), .bool (r105 != (0 : Int))] hr ⟨rfl, rfl⟩ (by kernel_rfl) ?_; clear hr a; intro a hr
                by_cases c116 : r105 = (0 : Int)
                ·
                  replace H := ifT c116 H
                  refine op_val ((wg hr rfl rfl rfl (b' := (r105 != (0 : Int))) (by kernel_rfl)).trans (by rw [show (r105 != (0 : Int)) = false from (bne_eq_false_iff_eq.mpr c116)]; rfl)) rfl rfl hr (v := .int .i64 r106) (by kernel_rfl) ?_; clear hr a; intro a hr
                  refine op_val ((wg hr rfl rfl rfl (b' := (r105 != (0 : Int))) (by kernel_rfl)).trans (by rw [show (r105 != (0 : Int)) = false from (bne_eq_false_iff_eq.mpr c116)]; rfl)) rfl rfl hr (v := .bool (r106 != (0 : Int))) (by kernel_rfl) ?_; clear hr a; intro a hr
                  refine op_val (wn rfl) rfl rfl hr (v := .bool (r106 != (0 : Int))) (rp_f (b := (r105 != (0 : Int))) rfl (by kernel_rfl) (bne_eq_false_iff_eq.mpr c116) (by kernel_rfl)) ?_; clear hr a; intro a hr
                  refine wpList_nil ?_
                  refine then_normal ?_
                  by_cases c117 : r106 = (0 : Int)
                  ·
                    replace H := ifT c117 H
                    refine cond_ff hr (b := (r106 != (0 : Int))) (bne_eq_false_iff_eq.mpr c117) ?_
                    refine wp_skip ?_
                    refine then_normal ?_
                    replace hr := hr.fold2 [(0, .int .i64 r2), (1, .int .i64 r4), (5, .pointer (some ⟨b1, 0, none⟩)), (7, .pointer (some ⟨Bn12, 0, none⟩)), (9, .pointer (some ⟨b28, 0, none⟩)), (14, .int .i64 g81), (15, .int .i64 g71), (16, .pointer (some ⟨b75, 0, none⟩)), (18, .int .i64 g84), (122, .int .i64 r106), (123, .bool (r106 != (0 : Int)))] (by kernel_rfl); obtain ⟨j, hr⟩ := hr
                    exact ⟨(), sinj H, j, hr, h⟩
                  ·
                    replace H := ifF c117 H
                    refine cond_tt hr (b := (r106 != (0 : Int))) (bne_iff_ne.mpr c117) ?_
                    refine wp_seq ?_
                    refine wp_region_lit ?_
                    refine ov hr (.bool false) (by kernel_rfl) ?_; clear hr a; intro a hr
                    refine wpList_nil ?_
                    refine then_normal ?_
                    refine wp_ret ?_
                    refine then_ret ?_
                    refine blk_ret ?_
                    refine then_ret ?_
                    refine then_ret ?_
                    refine blk_ret ?_
                    refine then_ret ?_
                    refine end_ret1 (v := .bool false) rfl hr (by kernel_rfl) ?_
                    replace H := jx0 H hK114
                    replace H := jx1 H hK63
                    replace h : Fit z (sepL (L)) _ := h.sel 6 [] (by kernel_rfl) (by kernel_rfl)
                    replace H := ej1 H; subst H
                    exact ⟨rfl, h⟩
                ·
                  replace H := ifF c116 H
                  refine op_off ((wg hr rfl rfl rfl (b' := (r105 != (0 : Int))) (by kernel_rfl)).trans (by rw [show (r105 != (0 : Int)) = true from (bne_iff_ne.mpr c116)]; rfl)) rfl rfl hr ?_; clear hr a; intro a hr
                  refine op_off ((wg hr rfl rfl rfl (b' := (r105 != (0 : Int))) (by kernel_rfl)).trans (by rw [show (r105 != (0 : Int)) = true from (bne_iff_ne.mpr c116)]; rfl)) rfl rfl hr ?_; clear hr a; intro a hr
                  refine op_val (wn rfl) rfl rfl hr (v := .bool true) (rp_t (b := (r105 != (0 : Int))) rfl (by kernel_rfl) (bne_iff_ne.mpr c116) (by kernel_rfl)) ?_; clear hr a; intro a hr
                  refine wpList_nil ?_
                  refine then_normal ?_
                  refine cond_tt hr (b := true) rfl ?_
                  refine wp_seq ?_
                  refine wp_region_lit ?_
                  refine ov hr (.bool false) (by kernel_rfl) ?_; clear hr a; intro a hr
                  refine wpList_nil ?_
                  refine then_normal ?_
                  refine wp_ret ?_
                  refine then_ret ?_
                  refine blk_ret ?_
                  refine then_ret ?_
                  refine then_ret ?_
                  refine blk_ret ?_
                  refine then_ret ?_
                  refine end_ret1 (v := .bool false) rfl hr (by kernel_rfl) ?_
                  replace H := jx0 H hK114
                  replace H := jx1 H hK63
                  replace h : Fit z (sepL (L)) _ := h.sel 6 [] (by kernel_rfl) (by kernel_rfl)
                  replace H := ej1 H; subst H
                  exact ⟨rfl, h⟩
              clear h hr a; rintro _ a w ⟨rfl, j, hr, h⟩
              replace H := jk0 hK114
              refine wp_seq ?_
              refine wp_region_lit ?_
              refine ovs [126, 127] [.pointer (some ⟨Bn12, 0, none⟩), .iface 26 (.pointer (some ⟨Bn12, 0, none⟩))] hr ⟨rfl, rfl⟩ (by kernel_rfl) ?_; clear hr a; intro a hr
              refine op_val (wn rfl) rfl rfl hr (v := .agg #[.int .i64 r98.head_t_Base, .int .i64 r98.head_t_Frames, .int .i64 r98.head_frame, .int .i64 r98.head_stands, .int .i64 r98.head_code, .int .i64 r98.head_v, .int .i64 r98.kind, .int .i64 r98.slot, .int .i64 r98.give]) (rlm (cs := [.int .i64 r98.head_t_Base, .int .i64 r98.head_t_Frames, .int .i64 r98.head_frame, .int .i64 r98.head_stands, .int .i64 r98.head_code, .int .i64 r98.head_v, .int .i64 r98.kind, .int .i64 r98.slot, .int .i64 r98.give]) rfl (by kernel_rfl) (by kernel_rfl) (by kernel_rfl) ⟨(h.pick 5).cell 0 rfl, (h.pick 5).cell 1 rfl, (h.pick 5).cell 2 rfl, (h.pick 5).cell 3 rfl, (h.pick 5).cell 4 rfl, (h.pick 5).cell 5 rfl, (h.pick 5).cell 6 rfl, (h.pick 5).cell 7 rfl, (h.pick 5).cell 8 rfl, trivial⟩) ?_; clear hr a; intro a hr
              replace H := bd2 H; obtain ⟨r118, S119, e120, H⟩ := H
              replace h : Fit z (sepL (ob103 Bn12 S99 caq101 ccq102 caq103 ccq104 :: ro2 caq101 ccq102 S99.cell :: ro96 caq103 ccq104 S99.log :: rowOf 58 1 encZ_i64 (.slice (some ⟨b1, 0, none⟩) 8 8) ([at_ p2 0, at_ p2 1, at_ p2 2, at_ p2 3, at_ p2 4, at_ p2 5, at_ p2 6, at_ p2 7]) :: ob39 b28 r20 :: ob50 b75 r98 :: L)) _ := h.sel 6 [1, 2, 3, 0, 4, 5] (by kernel_rfl) (by kernel_rfl)
              have hc := frames_Step_iface_ok (H := e120) (h := h)
              refine op_call (wn rfl) rfl rfl hr (f := 28) (args := #[.iface 26 (.pointer (some ⟨Bn12, 0, none⟩)), .agg #[.int .i64 r98.head_t_Base, .int .i64 r98.head_t_Frames, .int .i64 r98.head_frame, .int .i64 r98.head_stands, .int .i64 r98.head_code, .int .i64 r98.head_v, .int .i64 r98.kind, .int .i64 r98.slot, .int .i64 r98.give]]) (by kernel_rfl) hc ?_; clear hc h
              rintro _ w ⟨caq121, ccq122, caq123, ccq124, rfl, h⟩; refine ⟨_, rfl, ?_⟩
              clear hr a; intro a hr
              replace H := bd2 H; obtain ⟨r125, r126, e127, H⟩ := H
              have hc := frames_Answer_ok (H := e127) (h := h)
              refine op_call (wn rfl) rfl rfl hr (f := 26) (args := #[.agg #[.int .i64 r118.head_t_Base, .int .i64 r118.head_t_Frames, .int .i64 r118.head_frame, .int .i64 r118.head_stands, .int .i64 r118.head_code, .int .i64 r118.head_v, .int .i64 r118.kind, .int .i64 r118.slot, .int .i64 r118.give]]) (by kernel_rfl) hc ?_; clear hc h
              rintro _ w ⟨rfl, h⟩; refine ⟨_, rfl, ?_⟩
              clear hr a; intro a hr
              refine ovs [125, 131, 132, 19, 20] [.tuple #[.int .i64 r125, .int .i64 r126], .int .i64 r125, .int .i64 r126, .int .i64 r125, .int .i64 r126] hr ⟨rfl, rfl⟩ (by kernel_rfl) ?_; clear hr a; intro a hr
              refine wpList_nil ?_
              refine then_normal ?_
              refine wp_seq ?_
              refine wp_region_lit ?_
              refine ovs [133, 134, 135, 136] [.int .i64 r125, .int .i64 g84, .bool (r125 != g84), .bool (r125 != g84)] hr ⟨rfl, rfl⟩ (by kernel_rfl) ?_; clear hr a; intro a hr
              by_cases c128 : r125 = g84
              ·
                replace H := ifT c128 H
                refine op_val ((wg hr rfl rfl rfl (b' := (r125 != g84)) (by kernel_rfl)).trans (by rw [show (r125 != g84) = false from (bne_eq_false_iff_eq.mpr c128)]; rfl)) rfl rfl hr (v := .int .i64 r126) (by kernel_rfl) ?_; clear hr a; intro a hr
                refine op_val ((wg hr rfl rfl rfl (b' := (r125 != g84)) (by kernel_rfl)).trans (by rw [show (r125 != g84) = false from (bne_eq_false_iff_eq.mpr c128)]; rfl)) rfl rfl hr (v := .bool (r126 != (0 : Int))) (by kernel_rfl) ?_; clear hr a; intro a hr
                refine op_val (wn rfl) rfl rfl hr (v := .bool (r126 != (0 : Int))) (rp_f (b := (r125 != g84)) rfl (by kernel_rfl) (bne_eq_false_iff_eq.mpr c128) (by kernel_rfl)) ?_; clear hr a; intro a hr
                refine wpList_nil ?_
                refine then_normal ?_
                by_cases c129 : r126 = (0 : Int)
                ·
                  replace H := ifT c129 H
                  refine cond_ff hr (b := (r126 != (0 : Int))) (bne_eq_false_iff_eq.mpr c129) ?_
                  refine wp_skip ?_
                  refine blk_normal ?_
                  refine then_normal ?_
                  refine wp_region_lit ?_
                  refine ovs [74, 75, 15] [.int .i64 g71, .int .i64 (wi (g71 + (1 : Int))), .int .i64 (wi (g71 + (1 : Int)))] hr ⟨rfl, rfl⟩ (by kernel_rfl) ?_; clear hr a; intro a hr
                  refine wpList_nil ?_
                  refine then_normal ?_
                  replace hr := hr.fold2 [(0, .int .i64 r2), (1, .int .i64 r4), (5, .pointer (some ⟨b1, 0, none⟩)), (7, .pointer (some ⟨Bn12, 0, none⟩)), (9, .pointer (some ⟨b28, 0, none⟩)), (14, .int .i64 g81), (15, .int .i64 (wi (g71 + (1 : Int))))] (by kernel_rfl); obtain ⟨j, hr⟩ := hr
                  replace h : Fit z (sepL (rowOf 58 1 encZ_i64 (.slice (some ⟨b1, 0, none⟩) 8 8) ([at_ p2 0, at_ p2 1, at_ p2 2, at_ p2 3, at_ p2 4, at_ p2 5, at_ p2 6, at_ p2 7]) :: ob103 Bn12 S119 caq121 ccq122 caq123 ccq124 :: ro2 caq121 ccq122 S119.cell :: ro96 caq123 ccq124 S119.log :: ob39 b28 r20 :: L)) _ := h.sel 6 [3, 0, 1, 2, 4] (by kernel_rfl) (by kernel_rfl)
                  exact ⟨_, ⟨caq121, ccq122, caq123, ccq124, S119, g81, (wi (g71 + (1 : Int))), H, j, hr, h⟩, Nat.lt_succ_self _⟩
                ·
                  replace H := ifF c129 H
                  refine cond_tt hr (b := (r126 != (0 : Int))) (bne_iff_ne.mpr c129) ?_
                  refine wp_seq ?_
                  refine wp_region_lit ?_
                  refine ov hr (.bool false) (by kernel_rfl) ?_; clear hr a; intro a hr
                  refine wpList_nil ?_
                  refine then_normal ?_
                  refine wp_ret ?_
                  refine blk_ret ?_
                  refine then_ret ?_
                  refine then_ret ?_
                  refine blk_ret ?_
                  refine then_ret ?_
                  refine end_ret1 (v := .bool false) rfl hr (by kernel_rfl) ?_
                  replace H := jx1 H hK63
                  replace h : Fit z (sepL (L)) _ := h.sel 6 [] (by kernel_rfl) (by kernel_rfl)
                  replace H := ej1 H; subst H
                  exact ⟨rfl, h⟩
              ·
                replace H := ifF c128 H
                refine op_off ((wg hr rfl rfl rfl (b' := (r125 != g84)) (by kernel_rfl)).trans (by rw [show (r125 != g84) = true from (bne_iff_ne.mpr c128)]; rfl)) rfl rfl hr ?_; clear hr a; intro a hr
                refine op_off ((wg hr rfl rfl rfl (b' := (r125 != g84)) (by kernel_rfl)).trans (by rw [show (r125 != g84) = true from (bne_iff_ne.mpr c128)]; rfl)) rfl rfl hr ?_; clear hr a; intro a hr
                refine op_val (wn rfl) rfl rfl hr (v := .bool true) (rp_t (b := (r125 != g84)) rfl (by kernel_rfl) (bne_iff_ne.mpr c128) (by kernel_rfl)) ?_; clear hr a; intro a hr
                refine wpList_nil ?_
                refine then_normal ?_
                refine cond_tt hr (b := true) rfl ?_
                refine wp_seq ?_
                refine wp_region_lit ?_
                refine ov hr (.bool false) (by kernel_rfl) ?_; clear hr a; intro a hr
                refine wpList_nil ?_
                refine then_normal ?_
                refine wp_ret ?_
                refine blk_ret ?_
                refine then_ret ?_
                refine then_ret ?_
                refine blk_ret ?_
                refine then_ret ?_
                refine end_ret1 (v := .bool false) rfl hr (by kernel_rfl) ?_
                replace H := jx1 H hK63
                replace h : Fit z (sepL (L)) _ := h.sel 6 [] (by kernel_rfl) (by kernel_rfl)
                replace H := ej1 H; subst H
                exact ⟨rfl, h⟩
            ·
              replace H := ifF c113 H
              refine cond_ff hr (b := (g71 == r2)) (beq_eq_false_iff_ne.mpr c113) ?_
              refine wp_skip ?_
              refine blk_normal ?_
              refine then_normal ?_
              refine wp_region_lit ?_
              refine ovs [74, 75, 15] [.int .i64 g71, .int .i64 (wi (g71 + (1 : Int))), .int .i64 (wi (g71 + (1 : Int)))] hr ⟨rfl, rfl⟩ (by kernel_rfl) ?_; clear hr a; intro a hr
              refine wpList_nil ?_
              refine then_normal ?_
              replace hr := hr.fold2 [(0, .int .i64 r2), (1, .int .i64 r4), (5, .pointer (some ⟨b1, 0, none⟩)), (7, .pointer (some ⟨Bn12, 0, none⟩)), (9, .pointer (some ⟨b28, 0, none⟩)), (14, .int .i64 g81), (15, .int .i64 (wi (g71 + (1 : Int))))] (by kernel_rfl); obtain ⟨j, hr⟩ := hr
              replace h : Fit z (sepL (rowOf 58 1 encZ_i64 (.slice (some ⟨b1, 0, none⟩) 8 8) ([at_ p2 0, at_ p2 1, at_ p2 2, at_ p2 3, at_ p2 4, at_ p2 5, at_ p2 6, at_ p2 7]) :: ob103 Bn12 S99 caq101 ccq102 caq103 ccq104 :: ro2 caq101 ccq102 S99.cell :: ro96 caq103 ccq104 S99.log :: ob39 b28 r20 :: L)) _ := h.sel 6 [0, 1, 2, 3, 4] (by kernel_rfl) (by kernel_rfl)
              exact ⟨_, ⟨caq101, ccq102, caq103, ccq104, S99, g81, (wi (g71 + (1 : Int))), H, j, hr, h⟩, Nat.lt_succ_self _⟩
          ·
            replace H := ifF c72 H
            refine cond_ff hr (b := (decide (g71 ≤ r2))) (decide_eq_false c72) ?_
            refine wp_exit ?_
            refine then_exit ?_
            refine then_exit ?_
            refine blk_here ?_
            refine then_normal ?_
            replace hr := hr.fold2 [(0, .int .i64 r2), (5, .pointer (some ⟨b1, 0, none⟩)), (7, .pointer (some ⟨Bn12, 0, none⟩)), (9, .pointer (some ⟨b28, 0, none⟩))] (by kernel_rfl); obtain ⟨j, hr⟩ := hr
            exact ⟨(), ca66, cc67, ca68, cc69, S65, sinj H, j, hr, h⟩
      clear h hr a; rintro _ a w ⟨ca59, cc60, ca61, cc62, S58, rfl, j, hr, h⟩
      replace H := jk1 hK63
      refine wp_seq ?_
      refine wp_seq ?_
      refine wp_region_lit ?_
      refine ov hr (.int .i64 0) (by kernel_rfl) ?_; clear hr a; intro a hr
      refine wpList_nil ?_
      refine then_normal ?_
      refine wp_block ?_
      replace hr := hr.fold2 [(0, .int .i64 r2), (5, .pointer (some ⟨b1, 0, none⟩)), (7, .pointer (some ⟨Bn12, 0, none⟩)), (9, .pointer (some ⟨b28, 0, none⟩)), (21, .int .i64 0)] (by kernel_rfl); obtain ⟨j, hr⟩ := hr
      refine loop_rule (β := Nat) id (fun m a w => ∃ ca131 : Option Addr, ∃ cc132 : Nat, ∃ ca133 : Option Addr, ∃ cc134 : Nat, ∃ S130 : T_cells_Arena, ∃ g135 : Int, (plunderlaw8_FramesCount_l3 K p2 r2 r20 m S130 g135) = some r0 ∧ ∃ j, Rep 164 (lk [(0, .int .i64 r2), (5, .pointer (some ⟨b1, 0, none⟩)), (7, .pointer (some ⟨Bn12, 0, none⟩)), (9, .pointer (some ⟨b28, 0, none⟩)), (21, .int .i64 g135)] j) a ∧ Fit z (sepL (rowOf 58 1 encZ_i64 (.slice (some ⟨b1, 0, none⟩) 8 8) ([at_ p2 0, at_ p2 1, at_ p2 2, at_ p2 3, at_ p2 4, at_ p2 5, at_ p2 6, at_ p2 7]) :: ob103 Bn12 S130 ca131 cc132 ca133 cc134 :: ro2 ca131 cc132 S130.cell :: ro96 ca133 cc134 S130.log :: ob39 b28 r20 :: L)) w) K ⟨ca59, cc60, ca61, cc62, S58, 0, H, j, hr, h⟩ ?_
      clear h hr a H; rintro k3 a w ⟨ca131, cc132, ca133, cc134, S130, g135, H, j, hr, h⟩
      cases k3 with
      | zero => exact absurd H (by simp [plunderlaw8_FramesCount_l3])
      | succ k3 =>
        rw [plunderlaw8_FramesCount_l3] at H
        refine wp_seq ?_
        refine wp_seq ?_
        refine wp_region_lit ?_
        refine ovs [140, 141, 142] [.int .i64 g135, .int .i64 r2, .bool (decide (g135 < r2))] hr ⟨rfl, rfl⟩ (by kernel_rfl) ?_; clear hr a; intro a hr
        refine wpList_nil ?_
        refine then_normal ?_
        by_cases c136 : g135 < r2
        ·
          replace H := ifT c136 H
          refine cond_tt hr (b := (decide (g135 < r2))) (decide_eq_true c136) ?_
          refine wp_skip ?_
          refine then_normal ?_
          refine wp_seq ?_
          refine wp_block ?_
          refine wp_seq ?_
          refine wp_region_lit ?_
          refine ovs [146, 147] [.pointer (some ⟨Bn12, 0, none⟩), .iface 26 (.pointer (some ⟨Bn12, 0, none⟩))] hr ⟨rfl, rfl⟩ (by kernel_rfl) ?_; clear hr a; intro a hr
          refine op_val (wn rfl) rfl rfl hr (v := .agg #[.int .i64 r20.Base, .int .i64 r20.Frames]) (rlm (cs := [.int .i64 r20.Base, .int .i64 r20.Frames]) rfl (by kernel_rfl) (by kernel_rfl) (by kernel_rfl) ⟨(h.pick 4).cell 0 rfl, (h.pick 4).cell 1 rfl, trivial⟩) ?_; clear hr a; intro a hr
          replace H := bd1 H; obtain ⟨r137, e138, H⟩ := H
          refine ov hr (.int .i64 g135) (by kernel_rfl) ?_; clear hr a; intro a hr
          have hc := frames_Fetch_ok (H := e138) (h := h)
          refine op_call (wn rfl) rfl rfl hr (f := 33) (args := #[.agg #[.int .i64 r20.Base, .int .i64 r20.Frames], .int .i64 0, .int .i64 g135]) (by kernel_rfl) hc ?_; clear hc h
          rintro _ w ⟨rfl, h⟩; refine ⟨_, rfl, ?_⟩
          clear hr a; intro a hr
          replace H := bd2 H; obtain ⟨r139, S140, e141, H⟩ := H
          replace h : Fit z (sepL (ob103 Bn12 S130 ca131 cc132 ca133 cc134 :: ro2 ca131 cc132 S130.cell :: ro96 ca133 cc134 S130.log :: rowOf 58 1 encZ_i64 (.slice (some ⟨b1, 0, none⟩) 8 8) ([at_ p2 0, at_ p2 1, at_ p2 2, at_ p2 3, at_ p2 4, at_ p2 5, at_ p2 6, at_ p2 7]) :: ob39 b28 r20 :: L)) _ := h.sel 5 [1, 2, 3, 0, 4] (by kernel_rfl) (by kernel_rfl)
          have hc := frames_Step_iface_ok (H := e141) (h := h)
          refine op_call (wn rfl) rfl rfl hr (f := 28) (args := #[.iface 26 (.pointer (some ⟨Bn12, 0, none⟩)), .agg #[.int .i64 r137.head_t_Base, .int .i64 r137.head_t_Frames, .int .i64 r137.head_frame, .int .i64 r137.head_stands, .int .i64 r137.head_code, .int .i64 r137.head_v, .int .i64 r137.kind, .int .i64 r137.slot, .int .i64 r137.give]]) (by kernel_rfl) hc ?_; clear hc h
          rintro _ w ⟨caq142, ccq143, caq144, ccq145, rfl, h⟩; refine ⟨_, rfl, ?_⟩
          clear hr a; intro a hr
          replace H := bd2 H; obtain ⟨r146, r147, e148, H⟩ := H
          have hc := frames_Answer_ok (H := e148) (h := h)
          refine op_call (wn rfl) rfl rfl hr (f := 26) (args := #[.agg #[.int .i64 r139.head_t_Base, .int .i64 r139.head_t_Frames, .int .i64 r139.head_frame, .int .i64 r139.head_stands, .int .i64 r139.head_code, .int .i64 r139.head_v, .int .i64 r139.kind, .int .i64 r139.slot, .int .i64 r139.give]]) (by kernel_rfl) hc ?_; clear hc h
          rintro _ w ⟨rfl, h⟩; refine ⟨_, rfl, ?_⟩
          clear hr a; intro a hr
          refine ovs [145, 153, 154, 22, 23] [.tuple #[.int .i64 r146, .int .i64 r147], .int .i64 r146, .int .i64 r147, .int .i64 r146, .int .i64 r147] hr ⟨rfl, rfl⟩ (by kernel_rfl) ?_; clear hr a; intro a hr
          refine wpList_nil ?_
          refine then_normal ?_
          refine wp_seq ?_
          refine wp_region_lit ?_
          refine ovs [155, 156, 157] [.int .i64 r146, .bool (r146 != (15 : Int)), .bool (r146 != (15 : Int))] hr ⟨rfl, rfl⟩ (by kernel_rfl) ?_; clear hr a; intro a hr
          by_cases c149 : r146 = (15 : Int)
          ·
            replace H := ifT c149 H
            refine op_val ((wg hr rfl rfl rfl (b' := (r146 != (15 : Int))) (by kernel_rfl)).trans (by rw [show (r146 != (15 : Int)) = false from (bne_eq_false_iff_eq.mpr c149)]; rfl)) rfl rfl hr (v := .int .i64 r147) (by kernel_rfl) ?_; clear hr a; intro a hr
            refine op_val ((wg hr rfl rfl rfl (b' := (r146 != (15 : Int))) (by kernel_rfl)).trans (by rw [show (r146 != (15 : Int)) = false from (bne_eq_false_iff_eq.mpr c149)]; rfl)) rfl rfl hr (v := .int .i64 g135) (by kernel_rfl) ?_; clear hr a; intro a hr
            replace H := gd H; obtain ⟨c150, H⟩ := H
            refine op_val ((wg hr rfl rfl rfl (b' := (r146 != (15 : Int))) (by kernel_rfl)).trans (by rw [show (r146 != (15 : Int)) = false from (bne_eq_false_iff_eq.mpr c149)]; rfl)) rfl rfl hr (v := .pointer (some ⟨blk (some ⟨b1, 0, none⟩), g135.toNat * 1, none⟩)) (ri_arr (k := .i64) (E := 2) rfl (by kernel_rfl) (by kernel_rfl) (by kernel_rfl) (by kernel_rfl) (h.pick 3).row_n.symm c150) ?_; clear hr a; intro a hr
            refine op_val ((wg hr rfl rfl rfl (b' := (r146 != (15 : Int))) (by kernel_rfl)).trans (by rw [show (r146 != (15 : Int)) = false from (bne_eq_false_iff_eq.mpr c149)]; rfl)) rfl rfl hr (v := .int .i64 (at_ ([at_ p2 0, at_ p2 1, at_ p2 2, at_ p2 3, at_ p2 4, at_ p2 5, at_ p2 6, at_ p2 7]) g135.toNat)) (rl rfl (by kernel_rfl) (by kernel_rfl) ((h.pick 3).row_cell encZ_i64_ok (f := 0) (at_ok c150) rfl)) ?_; clear hr a; intro a hr
            refine op_val ((wg hr rfl rfl rfl (b' := (r146 != (15 : Int))) (by kernel_rfl)).trans (by rw [show (r146 != (15 : Int)) = false from (bne_eq_false_iff_eq.mpr c149)]; rfl)) rfl rfl hr (v := .bool (r147 != (at_ ([at_ p2 0, at_ p2 1, at_ p2 2, at_ p2 3, at_ p2 4, at_ p2 5, at_ p2 6, at_ p2 7]) g135.toNat))) (by kernel_rfl) ?_; clear hr a; intro a hr
            refine op_val (wn rfl) rfl rfl hr (v := .bool (r147 != (at_ ([at_ p2 0, at_ p2 1, at_ p2 2, at_ p2 3, at_ p2 4, at_ p2 5, at_ p2 6, at_ p2 7]) g135.toNat))) (rp_f (b := (r146 != (15 : Int))) rfl (by kernel_rfl) (bne_eq_false_iff_eq.mpr c149) (by kernel_rfl)) ?_; clear hr a; intro a hr
            refine wpList_nil ?_
            refine then_normal ?_
            by_cases c151 : r147 = (at_ ([at_ p2 0, at_ p2 1, at_ p2 2, at_ p2 3, at_ p2 4, at_ p2 5, at_ p2 6, at_ p2 7]) g135.toNat)
            ·
              replace H := ifT c151 H
              refine cond_ff hr (b := (r147 != (at_ ([at_ p2 0, at_ p2 1, at_ p2 2, at_ p2 3, at_ p2 4, at_ p2 5, at_ p2 6, at_ p2 7]) g135.toNat))) (bne_eq_false_iff_eq.mpr c151) ?_
              refine wp_skip ?_
              refine blk_normal ?_
              refine then_normal ?_
              refine wp_region_lit ?_
              refine ovs [143, 144, 21] [.int .i64 g135, .int .i64 (wi (g135 + (1 : Int))), .int .i64 (wi (g135 + (1 : Int)))] hr ⟨rfl, rfl⟩ (by kernel_rfl) ?_; clear hr a; intro a hr
              refine wpList_nil ?_
              refine then_normal ?_
              replace hr := hr.fold2 [(0, .int .i64 r2), (5, .pointer (some ⟨b1, 0, none⟩)), (7, .pointer (some ⟨Bn12, 0, none⟩)), (9, .pointer (some ⟨b28, 0, none⟩)), (21, .int .i64 (wi (g135 + (1 : Int))))] (by kernel_rfl); obtain ⟨j, hr⟩ := hr
              replace h : Fit z (sepL (rowOf 58 1 encZ_i64 (.slice (some ⟨b1, 0, none⟩) 8 8) ([at_ p2 0, at_ p2 1, at_ p2 2, at_ p2 3, at_ p2 4, at_ p2 5, at_ p2 6, at_ p2 7]) :: ob103 Bn12 S140 caq142 ccq143 caq144 ccq145 :: ro2 caq142 ccq143 S140.cell :: ro96 caq144 ccq145 S140.log :: ob39 b28 r20 :: L)) _ := h.sel 5 [3, 0, 1, 2, 4] (by kernel_rfl) (by kernel_rfl)
              exact ⟨_, ⟨caq142, ccq143, caq144, ccq145, S140, (wi (g135 + (1 : Int))), H, j, hr, h⟩, Nat.lt_succ_self _⟩
            ·
              replace H := ifF c151 H
              refine cond_tt hr (b := (r147 != (at_ ([at_ p2 0, at_ p2 1, at_ p2 2, at_ p2 3, at_ p2 4, at_ p2 5, at_ p2 6, at_ p2 7]) g135.toNat))) (bne_iff_ne.mpr c151) ?_
              refine wp_seq ?_
              refine wp_region_lit ?_
              refine ov hr (.bool false) (by kernel_rfl) ?_; clear hr a; intro a hr
              refine wpList_nil ?_
              refine then_normal ?_
              refine wp_ret ?_
              refine blk_ret ?_
              refine then_ret ?_
              refine then_ret ?_
              refine blk_ret ?_
              refine then_ret ?_
              refine end_ret1 (v := .bool false) rfl hr (by kernel_rfl) ?_
              replace h : Fit z (sepL (L)) _ := h.sel 5 [] (by kernel_rfl) (by kernel_rfl)
              replace H := ej1 H; subst H
              exact ⟨rfl, h⟩
          ·
            replace H := ifF c149 H
            refine op_off ((wg hr rfl rfl rfl (b' := (r146 != (15 : Int))) (by kernel_rfl)).trans (by rw [show (r146 != (15 : Int)) = true from (bne_iff_ne.mpr c149)]; rfl)) rfl rfl hr ?_; clear hr a; intro a hr
            refine op_off ((wg hr rfl rfl rfl (b' := (r146 != (15 : Int))) (by kernel_rfl)).trans (by rw [show (r146 != (15 : Int)) = true from (bne_iff_ne.mpr c149)]; rfl)) rfl rfl hr ?_; clear hr a; intro a hr
            refine op_off ((wg hr rfl rfl rfl (b' := (r146 != (15 : Int))) (by kernel_rfl)).trans (by rw [show (r146 != (15 : Int)) = true from (bne_iff_ne.mpr c149)]; rfl)) rfl rfl hr ?_; clear hr a; intro a hr
            refine op_off ((wg hr rfl rfl rfl (b' := (r146 != (15 : Int))) (by kernel_rfl)).trans (by rw [show (r146 != (15 : Int)) = true from (bne_iff_ne.mpr c149)]; rfl)) rfl rfl hr ?_; clear hr a; intro a hr
            refine op_off ((wg hr rfl rfl rfl (b' := (r146 != (15 : Int))) (by kernel_rfl)).trans (by rw [show (r146 != (15 : Int)) = true from (bne_iff_ne.mpr c149)]; rfl)) rfl rfl hr ?_; clear hr a; intro a hr
            refine op_val (wn rfl) rfl rfl hr (v := .bool true) (rp_t (b := (r146 != (15 : Int))) rfl (by kernel_rfl) (bne_iff_ne.mpr c149) (by kernel_rfl)) ?_; clear hr a; intro a hr
            refine wpList_nil ?_
            refine then_normal ?_
            refine cond_tt hr (b := true) rfl ?_
            refine wp_seq ?_
            refine wp_region_lit ?_
            refine ov hr (.bool false) (by kernel_rfl) ?_; clear hr a; intro a hr
            refine wpList_nil ?_
            refine then_normal ?_
            refine wp_ret ?_
            refine blk_ret ?_
            refine then_ret ?_
            refine then_ret ?_
            refine blk_ret ?_
            refine then_ret ?_
            refine end_ret1 (v := .bool false) rfl hr (by kernel_rfl) ?_
            replace h : Fit z (sepL (L)) _ := h.sel 5 [] (by kernel_rfl) (by kernel_rfl)
            replace H := ej1 H; subst H
            exact ⟨rfl, h⟩
        ·
          replace H := ifF c136 H
          refine cond_ff hr (b := (decide (g135 < r2))) (decide_eq_false c136) ?_
          refine wp_exit ?_
          refine then_exit ?_
          refine then_exit ?_
          refine blk_here ?_
          refine then_normal ?_
          refine wp_seq ?_
          refine wp_region_lit ?_
          refine ov hr (.bool true) (by kernel_rfl) ?_; clear hr a; intro a hr
          refine wpList_nil ?_
          refine then_normal ?_
          refine wp_ret ?_
          refine end_ret1 (v := .bool true) rfl hr (by kernel_rfl) ?_
          replace h : Fit z (sepL (L)) _ := h.sel 5 [] (by kernel_rfl) (by kernel_rfl)
          replace H := ej1 H; subst H
          exact ⟨rfl, h⟩
    ·
      replace H := ifF c29 H
      refine cond_tt hr (b := (r21 != (0 : Int))) (bne_iff_ne.mpr c29) ?_
      refine wp_seq ?_
      refine wp_region_lit ?_
      refine ov hr (.bool false) (by kernel_rfl) ?_; clear hr a; intro a hr
      refine wpList_nil ?_
      refine then_normal ?_
      refine wp_ret ?_
      refine then_ret ?_
      refine end_ret1 (v := .bool false) rfl hr (by kernel_rfl) ?_
      replace h : Fit z (sepL (L)) _ := h.sel 5 [] (by kernel_rfl) (by kernel_rfl)
      replace H := ej1 H; subst H
      exact ⟨rfl, h⟩
  | none =>
    have hc := cells_New_ok1 (H := e10) (h := h)
    refine op_call (wn rfl) rfl rfl hr (f := 14) (args := #[.int .i64 r6]) (by kernel_rfl) hc ?_; clear hc h
    rintro _ w ⟨rfl, h⟩; refine ⟨_, rfl, ?_⟩
    clear hr a; intro a hr
    refine ovs [30, 33, 34, 7, 8] [.tuple #[.pointer none, .int .i64 r9], .pointer none, .int .i64 r9, .pointer none, .int .i64 r9] hr ⟨rfl, rfl⟩ (by kernel_rfl) ?_; clear hr a; intro a hr
    refine wpList_nil ?_
    refine then_normal ?_
    refine wp_seq ?_
    refine wp_seq ?_
    refine wp_region_lit ?_
    refine ovs [35, 36, 37] [.int .i64 r9, .bool (r9 != (0 : Int)), .bool (r9 != (0 : Int))] hr ⟨rfl, rfl⟩ (by kernel_rfl) ?_; clear hr a; intro a hr
    by_cases c152 : r9 = (0 : Int)
    ·
      replace H := ifT c152 H
      refine op_val ((wg hr rfl rfl rfl (b' := (r9 != (0 : Int))) (by kernel_rfl)).trans (by rw [show (r9 != (0 : Int)) = false from (bne_eq_false_iff_eq.mpr c152)]; rfl)) rfl rfl hr (v := .pointer none) (by kernel_rfl) ?_; clear hr a; intro a hr
      refine op_val ((wg hr rfl rfl rfl (b' := (r9 != (0 : Int))) (by kernel_rfl)).trans (by rw [show (r9 != (0 : Int)) = false from (bne_eq_false_iff_eq.mpr c152)]; rfl)) rfl rfl hr (v := .bool true) (by kernel_rfl) ?_; clear hr a; intro a hr
      refine op_val (wn rfl) rfl rfl hr (v := .bool true) (rp_f (b := (r9 != (0 : Int))) rfl (by kernel_rfl) (bne_eq_false_iff_eq.mpr c152) (by kernel_rfl)) ?_; clear hr a; intro a hr
      refine wpList_nil ?_
      refine then_normal ?_
      refine cond_tt hr (b := true) rfl ?_
      refine wp_seq ?_
      refine wp_region_lit ?_
      refine ov hr (.bool false) (by kernel_rfl) ?_; clear hr a; intro a hr
      refine wpList_nil ?_
      refine then_normal ?_
      refine wp_ret ?_
      refine then_ret ?_
      refine end_ret1 (v := .bool false) rfl hr (by kernel_rfl) ?_
      replace h : Fit z (sepL (L)) _ := h.sel 1 [] (by kernel_rfl) (by kernel_rfl)
      replace H := ej1 H; subst H
      exact ⟨rfl, h⟩
    ·
      replace H := ifF c152 H
      refine op_off ((wg hr rfl rfl rfl (b' := (r9 != (0 : Int))) (by kernel_rfl)).trans (by rw [show (r9 != (0 : Int)) = true from (bne_iff_ne.mpr c152)]; rfl)) rfl rfl hr ?_; clear hr a; intro a hr
      refine op_off ((wg hr rfl rfl rfl (b' := (r9 != (0 : Int))) (by kernel_rfl)).trans (by rw [show (r9 != (0 : Int)) = true from (bne_iff_ne.mpr c152)]; rfl)) rfl rfl hr ?_; clear hr a; intro a hr
      refine op_val (wn rfl) rfl rfl hr (v := .bool true) (rp_t (b := (r9 != (0 : Int))) rfl (by kernel_rfl) (bne_iff_ne.mpr c152) (by kernel_rfl)) ?_; clear hr a; intro a hr
      refine wpList_nil ?_
      refine then_normal ?_
      refine cond_tt hr (b := true) rfl ?_
      refine wp_seq ?_
      refine wp_region_lit ?_
      refine ov hr (.bool false) (by kernel_rfl) ?_; clear hr a; intro a hr
      refine wpList_nil ?_
      refine then_normal ?_
      refine wp_ret ?_
      refine then_ret ?_
      refine end_ret1 (v := .bool false) rfl hr (by kernel_rfl) ?_
      replace h : Fit z (sepL (L)) _ := h.sel 1 [] (by kernel_rfl) (by kernel_rfl)
      replace H := ej1 H; subst H
      exact ⟨rfl, h⟩


end Go.Proofs.Ytnghahgfcaolbaa.Mo
