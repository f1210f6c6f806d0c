/- what the functions compute, as plain Lean functions, and that they do -/
import Derived.Test.YtnghahgfcaolbaaFs5
namespace Go.Proofs.Ytnghahgfcaolbaa.Mo
open Go Go.RowKit Go.Proofs.Ytnghahgfcaolbaa.SL Go.Proofs.Ytnghahgfcaolbaa.GX
set_option linter.unusedVariables false
set_option linter.unusedSimpArgs false

def plunderlaw8_FramesSteps_l1 (K : Nat) (p2 : List T_plunderlaw8_Ask) (r78 : T_plunderref8_Table) (r87 : T_frames_Table) : Nat → (List T_frames_Op) → (List T_plunderref8_Op) → Int → Option (((List T_frames_Op) × (List T_plunderref8_Op)) ⊕ (Bool))
  | 0, _, _, _ => none
  | k1 + 1, l128, l131, g132 => (if g132 < ((p2.length : Nat) : Int) then if inr_ g132 p2.length then ob1 (plunderlaw8_begin r87 (at_ p2 g132.toNat)) (fun r135 => if (l128.length + 1) * 72 ≤ 140737488355328 then ob1 (plunderlaw8_beginRef r78 (at_ p2 g132.toNat)) (fun r141 => if (l131.length + 1) * 72 ≤ 140737488355328 then if inr_ g132 (l128 ++ [r135]).length then if inr_ g132 (l131 ++ [r141]).length then ob1 (plunderlaw8_answers (at_ (l128 ++ [r135]) g132.toNat) (at_ (l131 ++ [r141]) g132.toNat)) (fun r149 => (if r149 = true then (plunderlaw8_FramesSteps_l1 K p2 r78 r87 k1 (l128 ++ [r135]) (l131 ++ [r141]) (wi (g132 + (1 : Int)))) else some (.inr false))) else none else none else none) else none) else none else some (.inl (l128, l131)))
def plunderlaw8_FramesSteps_l2 (K : Nat) (p3 : List Int) (l120 : List T_frames_Op) : Nat → T_plunderref2_Arena → T_cells_Arena → T_cells_Arena → (List T_frames_Op) → (List T_plunderref8_Op) → Int → Option ((T_plunderref2_Arena × T_cells_Arena × T_cells_Arena) ⊕ (Bool))
  | 0, _, _, _, _, _, _ => none
  | k2 + 1, S169, S174, S179, l184, l185, g186 => (if g186 < ((p3.length : Nat) : Int) then (if ((l120.length : Nat) : Int) > (0 : Int) then if inr_ g186 p3.length then ob1 (plunderlaw8_mod (at_ p3 g186.toNat) ((l120.length : Nat) : Int)) (fun r190 => ob1 (cells_Arena_Who S174 r190) (fun S192 => if inr_ r190 l184.length then if inr_ r190 l185.length then ob2 (frames_Step_iface S192 (at_ l184 r190.toNat)) (fun r202 S203 => ob2 (frames_Step_iface S179 (at_ l184 r190.toNat)) (fun r209 S210 => ob2 (plunderref8_Step K ({ S169 with Actor := r190 }) (at_ l185 r190.toNat)) (fun r217 S218 => if inr_ r190 (l184.set r190.toNat r202).length then if inr_ r190 (l185.set r190.toNat r217).length then ob1 (plunderlaw8_answers r202 r217) (fun r226 => (if r226 = true then ob1 (plunderlaw8_answers r209 r217) (fun r229 => (if r229 = true then ob1 (plunderlaw8_answers (at_ l184 r190.toNat) (at_ l185 r190.toNat)) (fun r232 => (if r232 = true then (plunderlaw8_FramesSteps_l2 K p3 l120 k2 S218 S203 S210 (l184.set r190.toNat r202) (l185.set r190.toNat r217) (wi (g186 + (1 : Int)))) else some (.inr false))) else some (.inr false))) else some (.inr false))) else none else none))) else none else none)) else none else some (.inl (S169, S174, S179))) else some (.inl (S169, S174, S179)))
/-- plunder/plunderlaw8.FramesSteps -/
def plunderlaw8_FramesSteps (K : Nat) (p0 : Int) (p1 : Int) (p2 : List T_plunderlaw8_Ask) (p3 : List Int) : Option (Bool) :=
  ob1 (plunderlaw8_mod p0 8) (fun r1 => ob1 (plunderlaw8_mod p1 6) (fun r3 => ob1 (plunderref8_Cells (wi ((1 : Int) + r3))) (fun r5 => ob2 (plunderref2_New (wi (r1 + r5))) (fun r7 r8 => ob2 (cells_New (wi (r1 + r5))) (fun r15 r16 => (match r15 with | some S18 => ob2 (cells_New (wi (r1 + r5))) (fun r24 r25 => (match r24 with | some S27 => jn0 ((if r16 = (0 : Int) then (if r25 = (0 : Int) then some (.inl ()) else some (.inr false)) else some (.inr false))) (ob3 ((if r1 > (0 : Int) then ob2 (plunderref2_Arena_Do K r7 (⟨0, 4, 0, r1, 0⟩ : T_api_Act)) (fun r55 S56 => ob3 (cells_Arena_Reserve S18 r1) (fun r62 r63 S64 => ob3 (cells_Arena_Reserve S27 r1) (fun r70 r71 S72 => some (S56, S64, S72)))) else some (r7, S18, S27))) (fun S37 S42 S47 => ob3 (plunderref8_New K S37 (wi ((1 : Int) + r3))) (fun r78 r79 S80 => ob3 (frames_New_iface K S42 (wi ((1 : Int) + r3))) (fun r87 r88 S89 => ob3 (frames_New_iface K S47 (wi ((1 : Int) + r3))) (fun r96 r97 S98 => jn0 ((if r88 = (0 : Int) then (if r97 = (0 : Int) then (if r87 = r96 then (if r87.Base = r78.Base then (if r87.Frames = r78.Frames then some (.inl ()) else some (.inr false)) else some (.inr false)) else some (.inr false)) else some (.inr false)) else some (.inr false))) (ob1 (cells_Arena_Watch S89 true) (fun S112 => jn2 ((plunderlaw8_FramesSteps_l1 K p2 r78 r87 K ([] : List T_frames_Op) ([] : List T_plunderref8_Op) 0)) (fun l120 l123 => jn3 ((plunderlaw8_FramesSteps_l2 K p3 l120 K ({ S80 with On := true }) S112 S98 l120 l123 0)) (fun S152 S157 S162 => ob1 (cells_Arena_Log S157) (fun r235 => ob1 (plunderref2_Arena_Log K S152) (fun r238 => ob1 (plunderlaw8_sameLog K r235 r238) (fun r242 => (if r242 = true then ob1 (cells_Arena_Cells S157) (fun r245 => ob1 (plunderref2_Arena_Cells K S152) (fun r248 => ob1 (plunderlaw8_sameNumbers K r245 r248) (fun r252 => (if r252 = true then ob1 (cells_Arena_Cells S162) (fun r255 => ob1 (plunderref2_Arena_Cells K S152) (fun r258 => ob1 (plunderlaw8_sameNumbers K r255 r258) (fun r262 => some r262))) else some false)))) else some false))))))))))))) | none => (if r16 = (0 : Int) then (if r25 = (0 : Int) then some false else some false) else some false))) | none => ob2 (cells_New (wi (r1 + r5))) (fun r266 r267 => (match r266 with | some S269 => (if r16 = (0 : Int) then (if r267 = (0 : Int) then some false else some false) else some false) | none => (if r16 = (0 : Int) then (if r267 = (0 : Int) then some false else some false) else some false)))))))))
set_option maxRecDepth 100000 in
set_option maxHeartbeats 4000000 in
theorem plunderlaw8_FramesSteps_ok {z w : World} {L : List HProp} {K : Nat} {p0 : Int} {p1 : Int} {p2 : List T_plunderlaw8_Ask} {p3 : List Int} {va2 : Option Addr} {vc2 : Nat} {va3 : Option Addr} {vc3 : Nat} {r0 : Bool} (H : plunderlaw8_FramesSteps K p0 p1 p2 p3 = some r0) (h : Fit z (sepL (L)) w) (hv2 : RdRow L 7 enc_T_plunderlaw8_Ask va2 p2) (hv3 : RdRow L 1 encZ_i64 va3 p3) :
    Calls Try.prog 7 #[.int .i64 p0, .int .i64 p1, .slice va2 p2.length vc2, .slice va3 p3.length vc3] w fun e w => e = .returned (.bool r0) ∧ Fit z (sepL (L)) w := by
  unfold plunderlaw8_FramesSteps at H
  refine enter Try.func7 rfl 258 rfl rfl [(0, .int .i64 p0), (1, .int .i64 p1), (2, .slice va2 p2.length vc2), (3, .slice va3 p3.length vc3)] ⟨rfl, rfl, rfl, rfl, trivial⟩ ?_
  intro j a hr
  refine wp_seq ?_
  refine wp_region_lit ?_
  refine ov hr (.bool false) (by kernel_rfl) ?_; clear hr a; intro a hr
  refine wpList_nil ?_
  refine then_normal ?_
  refine wp_seq ?_
  refine wp_region_lit ?_
  replace H := bd1 H; obtain ⟨r1, e2, H⟩ := H
  refine ov hr (.int .i64 p0) (by kernel_rfl) ?_; clear hr a; intro a hr
  have hc := plunderlaw8_mod_ok (H := e2) (h := h)
  refine op_call (wn rfl) rfl rfl hr (f := 29) (args := #[.int .i64 p0, .int .i64 8]) (by kernel_rfl) hc ?_; clear hc h
  rintro _ w ⟨rfl, h⟩; refine ⟨_, rfl, ?_⟩
  clear hr a; intro a hr
  refine ov hr (.int .i64 r1) (by kernel_rfl) ?_; clear hr a; intro a hr
  refine wpList_nil ?_
  refine then_normal ?_
  refine wp_seq ?_
  refine wp_region_lit ?_
  replace H := bd1 H; obtain ⟨r3, e4, H⟩ := H
  refine ov hr (.int .i64 p1) (by kernel_rfl) ?_; clear hr a; intro a hr
  have hc := plunderlaw8_mod_ok (H := e4) (h := h)
  refine op_call (wn rfl) rfl rfl hr (f := 29) (args := #[.int .i64 p1, .int .i64 6]) (by kernel_rfl) hc ?_; clear hc h
  rintro _ w ⟨rfl, h⟩; refine ⟨_, rfl, ?_⟩
  clear hr a; intro a hr
  refine ovs [34, 1] [.int .i64 (wi ((1 : Int) + r3)), .int .i64 (wi ((1 : Int) + r3))] hr ⟨rfl, rfl⟩ (by kernel_rfl) ?_; clear hr a; intro a hr
  refine wpList_nil ?_
  refine then_normal ?_
  refine wp_seq ?_
  refine wp_region_lit ?_
  replace H := bd1 H; obtain ⟨r5, e6, H⟩ := H
  refine ovs [35, 36] [.int .i64 r1, .int .i64 (wi ((1 : Int) + r3))] hr ⟨rfl, rfl⟩ (by kernel_rfl) ?_; clear hr a; intro a hr
  have hc := plunderref8_Cells_ok (H := e6) (h := h)
  refine op_call (wn rfl) rfl rfl hr (f := 16) (args := #[.int .i64 (wi ((1 : Int) + r3))]) (by kernel_rfl) hc ?_; clear hc h
  rintro _ w ⟨rfl, h⟩; refine ⟨_, rfl, ?_⟩
  clear hr a; intro a hr
  refine ovs [38, 9] [.int .i64 (wi (r1 + r5)), .int .i64 (wi (r1 + r5))] hr ⟨rfl, rfl⟩ (by kernel_rfl) ?_; clear hr a; intro a hr
  refine wpList_nil ?_
  refine then_normal ?_
  refine wp_seq ?_
  refine wp_region_lit ?_
  replace H := bd2 H; obtain ⟨r7, r8, e9, H⟩ := H
  refine ov hr (.int .i64 (wi (r1 + r5))) (by kernel_rfl) ?_; clear hr a; intro a hr
  have hc := plunderref2_New_ok (H := e9) (h := h)
  refine op_call (wn rfl) rfl rfl hr (f := 13) (args := #[.int .i64 (wi (r1 + r5))]) (by kernel_rfl) hc ?_; clear hc h
  rintro _ w ⟨Bn10, car11, ccr12, car13, ccr14, rfl, h⟩; refine ⟨_, rfl, ?_⟩
  clear hr a; intro a hr
  refine ovs [39, 42, 43, 10, 11] [.tuple #[.pointer (some ⟨Bn10, 0, none⟩), .int .i64 r8], .pointer (some ⟨Bn10, 0, none⟩), .int .i64 r8, .pointer (some ⟨Bn10, 0, none⟩), .int .i64 r8] hr ⟨rfl, rfl⟩ (by kernel_rfl) ?_; clear hr a; intro a hr
  refine wpList_nil ?_
  refine then_normal ?_
  refine wp_seq ?_
  refine wp_region_lit ?_
  replace H := bd2 H; obtain ⟨r15, r16, e17, H⟩ := H
  refine ov hr (.int .i64 (wi (r1 + r5))) (by kernel_rfl) ?_; clear hr a; intro a hr
  cases r15 with
  | some S18 =>
    have hc := cells_New_ok0 (H := e17) (h := h)
    refine op_call (wn rfl) rfl rfl hr (f := 14) (args := #[.int .i64 (wi (r1 + r5))]) (by kernel_rfl) hc ?_; clear hc h
    rintro _ w ⟨Bn19, car20, ccr21, car22, ccr23, rfl, h⟩; refine ⟨_, rfl, ?_⟩
    clear hr a; intro a hr
    refine ovs [44, 47, 48, 12, 13] [.tuple #[.pointer (some ⟨Bn19, 0, none⟩), .int .i64 r16], .pointer (some ⟨Bn19, 0, none⟩), .int .i64 r16, .pointer (some ⟨Bn19, 0, none⟩), .int .i64 r16] hr ⟨rfl, rfl⟩ (by kernel_rfl) ?_; clear hr a; intro a hr
    refine wpList_nil ?_
    refine then_normal ?_
    refine wp_seq ?_
    refine wp_region_lit ?_
    replace H := bd2 H; obtain ⟨r24, r25, e26, H⟩ := H
    refine ov hr (.int .i64 (wi (r1 + r5))) (by kernel_rfl) ?_; clear hr a; intro a hr
    cases r24 with
    | some S27 =>
      have hc := cells_New_ok0 (H := e26) (h := h)
      refine op_call (wn rfl) rfl rfl hr (f := 14) (args := #[.int .i64 (wi (r1 + r5))]) (by kernel_rfl) hc ?_; clear hc h
      rintro _ w ⟨Bn28, car29, ccr30, car31, ccr32, rfl, h⟩; refine ⟨_, rfl, ?_⟩
      clear hr a; intro a hr
      refine ovs [49, 52, 53, 14, 15] [.tuple #[.pointer (some ⟨Bn28, 0, none⟩), .int .i64 r25], .pointer (some ⟨Bn28, 0, none⟩), .int .i64 r25, .pointer (some ⟨Bn28, 0, none⟩), .int .i64 r25] hr ⟨rfl, rfl⟩ (by kernel_rfl) ?_; clear hr a; intro a hr
      refine wpList_nil ?_
      refine then_normal ?_
      replace H := jd0 H; obtain ⟨o34, H, hK33⟩ := H
      refine cut_rule (β := Unit) (fun _ a w => .inl () = o34 ∧ ∃ j, Rep 258 (lk [(0, .int .i64 r1), (1, .int .i64 (wi ((1 : Int) + r3))), (2, .slice va2 p2.length vc2), (3, .slice va3 p3.length vc3), (10, .pointer (some ⟨Bn10, 0, none⟩)), (12, .pointer (some ⟨Bn19, 0, none⟩)), (14, .pointer (some ⟨Bn28, 0, none⟩))] j) a ∧ Fit z (sepL (ob34 Bn10 r7 car11 ccr12 car13 ccr14 :: ro2 car11 ccr12 r7.Held :: ro96 car13 ccr14 r7.Book :: ob103 Bn19 S18 car20 ccr21 car22 ccr23 :: ro2 car20 ccr21 S18.cell :: ro96 car22 ccr23 S18.log :: ob103 Bn28 S27 car29 ccr30 car31 ccr32 :: ro2 car29 ccr30 S27.cell :: ro96 car31 ccr32 S27.log :: L)) w) ?_ ?_
      ·
        refine wp_seq ?_
        refine wp_region_lit ?_
        refine ovs [54, 55, 56] [.int .i64 r16, .bool (r16 != (0 : Int)), .bool (r16 != (0 : Int))] hr ⟨rfl, rfl⟩ (by kernel_rfl) ?_; clear hr a; intro a hr
        by_cases c35 : r16 = (0 : Int)
        ·
          replace H := ifT c35 H
          refine op_val ((wg hr rfl rfl rfl (b' := (r16 != (0 : Int))) (by kernel_rfl)).trans (by rw [show (r16 != (0 : Int)) = false from (bne_eq_false_iff_eq.mpr c35)]; rfl)) rfl rfl hr (v := .int .i64 r25) (by kernel_rfl) ?_; clear hr a; intro a hr
          refine op_val ((wg hr rfl rfl rfl (b' := (r16 != (0 : Int))) (by kernel_rfl)).trans (by rw [show (r16 != (0 : Int)) = false from (bne_eq_false_iff_eq.mpr c35)]; rfl)) rfl rfl hr (v := .bool (r25 != (0 : Int))) (by kernel_rfl) ?_; clear hr a; intro a hr
          refine op_val (wn rfl) rfl rfl hr (v := .bool (r25 != (0 : Int))) (rp_f (b := (r16 != (0 : Int))) rfl (by kernel_rfl) (bne_eq_false_iff_eq.mpr c35) (by kernel_rfl)) ?_; clear hr a; intro a hr
          refine ov hr (.bool (r25 != (0 : Int))) (by kernel_rfl) ?_; clear hr a; intro a hr
          by_cases c36 : r25 = (0 : Int)
          ·
            replace H := ifT c36 H
            refine op_val ((wg hr rfl rfl rfl (b' := (r25 != (0 : Int))) (by kernel_rfl)).trans (by rw [show (r25 != (0 : Int)) = false from (bne_eq_false_iff_eq.mpr c36)]; rfl)) rfl rfl hr (v := .pointer (some ⟨Bn19, 0, none⟩)) (by kernel_rfl) ?_; clear hr a; intro a hr
            refine op_val ((wg hr rfl rfl rfl (b' := (r25 != (0 : Int))) (by kernel_rfl)).trans (by rw [show (r25 != (0 : Int)) = false from (bne_eq_false_iff_eq.mpr c36)]; rfl)) rfl rfl hr (v := .bool false) (by kernel_rfl) ?_; clear hr a; intro a hr
            refine op_val (wn rfl) rfl rfl hr (v := .bool false) (rp_f (b := (r25 != (0 : Int))) rfl (by kernel_rfl) (bne_eq_false_iff_eq.mpr c36) (by kernel_rfl)) ?_; clear hr a; intro a hr
            refine ov hr (.bool false) (by kernel_rfl) ?_; clear hr a; intro a hr
            refine op_val ((wg hr rfl rfl rfl (b' := false) (by kernel_rfl)).trans rfl) rfl rfl hr (v := .pointer (some ⟨Bn28, 0, none⟩)) (by kernel_rfl) ?_; clear hr a; intro a hr
            refine op_val ((wg hr rfl rfl rfl (b' := false) (by kernel_rfl)).trans rfl) rfl rfl hr (v := .bool false) (by kernel_rfl) ?_; clear hr a; intro a hr
            refine ov hr (.bool false) (by kernel_rfl) ?_; clear hr a; intro a hr
            refine wpList_nil ?_
            refine then_normal ?_
            refine cond_ff hr (b := false) rfl ?_
            refine wp_skip ?_
            refine then_normal ?_
            replace hr := hr.fold2 [(0, .int .i64 r1), (1, .int .i64 (wi ((1 : Int) + r3))), (2, .slice va2 p2.length vc2), (3, .slice va3 p3.length vc3), (10, .pointer (some ⟨Bn10, 0, none⟩)), (12, .pointer (some ⟨Bn19, 0, none⟩)), (14, .pointer (some ⟨Bn28, 0, none⟩))] (by kernel_rfl); obtain ⟨j, hr⟩ := hr
            replace h : Fit z (sepL (ob34 Bn10 r7 car11 ccr12 car13 ccr14 :: ro2 car11 ccr12 r7.Held :: ro96 car13 ccr14 r7.Book :: ob103 Bn19 S18 car20 ccr21 car22 ccr23 :: ro2 car20 ccr21 S18.cell :: ro96 car22 ccr23 S18.log :: ob103 Bn28 S27 car29 ccr30 car31 ccr32 :: ro2 car29 ccr30 S27.cell :: ro96 car31 ccr32 S27.log :: L)) _ := h.sel 9 [6, 7, 8, 3, 4, 5, 0, 1, 2] (by kernel_rfl) (by kernel_rfl)
            exact ⟨(), sinj H, j, hr, h⟩
          ·
            replace H := ifF c36 H
            refine op_off ((wg hr rfl rfl rfl (b' := (r25 != (0 : Int))) (by kernel_rfl)).trans (by rw [show (r25 != (0 : Int)) = true from (bne_iff_ne.mpr c36)]; rfl)) rfl rfl hr ?_; clear hr a; intro a hr
            refine op_off ((wg hr rfl rfl rfl (b' := (r25 != (0 : Int))) (by kernel_rfl)).trans (by rw [show (r25 != (0 : Int)) = true from (bne_iff_ne.mpr c36)]; rfl)) rfl rfl hr ?_; clear hr a; intro a hr
            refine op_val (wn rfl) rfl rfl hr (v := .bool true) (rp_t (b := (r25 != (0 : Int))) rfl (by kernel_rfl) (bne_iff_ne.mpr c36) (by kernel_rfl)) ?_; clear hr a; intro a hr
            refine ov hr (.bool true) (by kernel_rfl) ?_; clear hr a; intro a hr
            refine op_off ((wg hr rfl rfl rfl (b' := true) (by kernel_rfl)).trans rfl) rfl rfl hr ?_; clear hr a; intro a hr
            refine op_off ((wg hr rfl rfl rfl (b' := true) (by kernel_rfl)).trans rfl) rfl rfl hr ?_; clear hr a; intro a hr
            refine ov hr (.bool true) (by kernel_rfl) ?_; clear hr a; intro a hr
            refine wpList_nil ?_
            refine then_normal ?_
            refine cond_tt hr (b := true) rfl ?_
            refine wp_seq ?_
            refine wp_region_lit ?_
            refine ov hr (.bool false) (by kernel_rfl) ?_; clear hr a; intro a hr
            refine wpList_nil ?_
            refine then_normal ?_
            refine wp_ret ?_
            refine then_ret ?_
            refine end_ret1 (v := .bool false) rfl hr (by kernel_rfl) ?_
            replace H := jx0 H hK33
            replace h : Fit z (sepL (L)) _ := h.sel 9 [] (by kernel_rfl) (by kernel_rfl)
            replace H := ej1 H; subst H
            exact ⟨rfl, h⟩
        ·
          replace H := ifF c35 H
          refine op_off ((wg hr rfl rfl rfl (b' := (r16 != (0 : Int))) (by kernel_rfl)).trans (by rw [show (r16 != (0 : Int)) = true from (bne_iff_ne.mpr c35)]; rfl)) rfl rfl hr ?_; clear hr a; intro a hr
          refine op_off ((wg hr rfl rfl rfl (b' := (r16 != (0 : Int))) (by kernel_rfl)).trans (by rw [show (r16 != (0 : Int)) = true from (bne_iff_ne.mpr c35)]; rfl)) rfl rfl hr ?_; clear hr a; intro a hr
          refine op_val (wn rfl) rfl rfl hr (v := .bool true) (rp_t (b := (r16 != (0 : Int))) rfl (by kernel_rfl) (bne_iff_ne.mpr c35) (by kernel_rfl)) ?_; clear hr a; intro a hr
          refine ov hr (.bool true) (by kernel_rfl) ?_; clear hr a; intro a hr
          refine op_off ((wg hr rfl rfl rfl (b' := true) (by kernel_rfl)).trans rfl) rfl rfl hr ?_; clear hr a; intro a hr
          refine op_off ((wg hr rfl rfl rfl (b' := true) (by kernel_rfl)).trans rfl) rfl rfl hr ?_; clear hr a; intro a hr
          refine ovs [63, 64] [.bool true, .bool true] hr ⟨rfl, rfl⟩ (by kernel_rfl) ?_; clear hr a; intro a hr
          refine op_off ((wg hr rfl rfl rfl (b' := true) (by kernel_rfl)).trans rfl) rfl rfl hr ?_; clear hr a; intro a hr
          refine op_off ((wg hr rfl rfl rfl (b' := true) (by kernel_rfl)).trans rfl) rfl rfl hr ?_; clear hr a; intro a hr
          refine ov hr (.bool true) (by kernel_rfl) ?_; clear hr a; intro a hr
          refine wpList_nil ?_
          refine then_normal ?_
          refine cond_tt hr (b := true) rfl ?_
          refine wp_seq ?_
          refine wp_region_lit ?_
          refine ov hr (.bool false) (by kernel_rfl) ?_; clear hr a; intro a hr
          refine wpList_nil ?_
          refine then_normal ?_
          refine wp_ret ?_
          refine then_ret ?_
          refine end_ret1 (v := .bool false) rfl hr (by kernel_rfl) ?_
          replace H := jx0 H hK33
          replace h : Fit z (sepL (L)) _ := h.sel 9 [] (by kernel_rfl) (by kernel_rfl)
          replace H := ej1 H; subst H
          exact ⟨rfl, h⟩
      clear h hr a; rintro _ a w ⟨rfl, j, hr, h⟩
      replace H := jk0 hK33
      replace H := kd3 H; obtain ⟨o53, H, hK52⟩ := H
      refine cut_rule (β := Unit) (fun _ a w => ∃ ca38 : Option Addr, ∃ cc39 : Nat, ∃ ca40 : Option Addr, ∃ cc41 : Nat, ∃ ca43 : Option Addr, ∃ cc44 : Nat, ∃ ca45 : Option Addr, ∃ cc46 : Nat, ∃ ca48 : Option Addr, ∃ cc49 : Nat, ∃ ca50 : Option Addr, ∃ cc51 : Nat, ∃ S37 : T_plunderref2_Arena, ∃ S42 : T_cells_Arena, ∃ S47 : T_cells_Arena, (S37, S42, S47) = o53 ∧ ∃ j, Rep 258 (lk [(1, .int .i64 (wi ((1 : Int) + r3))), (2, .slice va2 p2.length vc2), (3, .slice va3 p3.length vc3), (10, .pointer (some ⟨Bn10, 0, none⟩)), (12, .pointer (some ⟨Bn19, 0, none⟩)), (14, .pointer (some ⟨Bn28, 0, none⟩))] j) a ∧ Fit z (sepL (ob34 Bn10 S37 ca38 cc39 ca40 cc41 :: ro2 ca38 cc39 S37.Held :: ro96 ca40 cc41 S37.Book :: ob103 Bn19 S42 ca43 cc44 ca45 cc46 :: ro2 ca43 cc44 S42.cell :: ro96 ca45 cc46 S42.log :: ob103 Bn28 S47 ca48 cc49 ca50 cc51 :: ro2 ca48 cc49 S47.cell :: ro96 ca50 cc51 S47.log :: L)) w) ?_ ?_
      ·
        refine wp_seq ?_
        refine wp_region_lit ?_
        refine ovs [68, 69] [.int .i64 r1, .bool (decide (r1 > (0 : Int)))] hr ⟨rfl, rfl⟩ (by kernel_rfl) ?_; clear hr a; intro a hr
        refine wpList_nil ?_
        refine then_normal ?_
        by_cases c54 : r1 > (0 : Int)
        ·
          replace H := ifT c54 H
          refine cond_tt hr (b := (decide (r1 > (0 : Int)))) (decide_eq_true c54) ?_
          refine wp_seq ?_
          refine wp_region_lit ?_
          replace H := bd2 H; obtain ⟨r55, S56, e57, H⟩ := H
          refine ovs [70, 71, 72] [.pointer (some ⟨Bn10, 0, none⟩), .int .i64 r1, .agg #[.int .i64 0, .int .i64 4, .int .i64 0, .int .i64 r1, .int .i64 0]] hr ⟨rfl, rfl⟩ (by kernel_rfl) ?_; clear hr a; intro a hr
          have hc := plunderref2_Arena_Do_ok (H := e57) (h := h)
          refine op_call (wn rfl) rfl rfl hr (f := 34) (args := #[.pointer (some ⟨Bn10, 0, none⟩), .agg #[.int .i64 0, .int .i64 4, .int .i64 0, .int .i64 r1, .int .i64 0]]) (by kernel_rfl) hc ?_; clear hc h
          rintro _ w ⟨caq58, ccq59, caq60, ccq61, rfl, h⟩; refine ⟨_, rfl, ?_⟩
          clear hr a; intro a hr
          refine wpList_nil ?_
          refine then_normal ?_
          refine wp_seq ?_
          refine wp_region_lit ?_
          replace H := bd3 H; obtain ⟨r62, r63, S64, e65, H⟩ := H
          refine ovs [74, 75] [.pointer (some ⟨Bn19, 0, none⟩), .int .i64 r1] hr ⟨rfl, rfl⟩ (by kernel_rfl) ?_; clear hr a; intro a hr
          replace h : Fit z (sepL (ob103 Bn19 S18 car20 ccr21 car22 ccr23 :: ro2 car20 ccr21 S18.cell :: ro96 car22 ccr23 S18.log :: ob34 Bn10 S56 caq58 ccq59 caq60 ccq61 :: ro2 caq58 ccq59 S56.Held :: ro96 caq60 ccq61 S56.Book :: ob103 Bn28 S27 car29 ccr30 car31 ccr32 :: ro2 car29 ccr30 S27.cell :: ro96 car31 ccr32 S27.log :: L)) _ := h.sel 9 [3, 4, 5, 0, 1, 2, 6, 7, 8] (by kernel_rfl) (by kernel_rfl)
          have hc := cells_Arena_Reserve_ok (H := e65) (h := h)
          refine op_call (wn rfl) rfl rfl hr (f := 35) (args := #[.pointer (some ⟨Bn19, 0, none⟩), .int .i64 r1]) (by kernel_rfl) hc ?_; clear hc h
          rintro _ w ⟨caq66, ccq67, caq68, ccq69, rfl, h⟩; refine ⟨_, rfl, ?_⟩
          clear hr a; intro a hr
          refine wpList_nil ?_
          refine then_normal ?_
          refine wp_region_lit ?_
          replace H := bd3 H; obtain ⟨r70, r71, S72, e73, H⟩ := H
          refine ovs [77, 78] [.pointer (some ⟨Bn28, 0, none⟩), .int .i64 r1] hr ⟨rfl, rfl⟩ (by kernel_rfl) ?_; clear hr a; intro a hr
          replace h : Fit z (sepL (ob103 Bn28 S27 car29 ccr30 car31 ccr32 :: ro2 car29 ccr30 S27.cell :: ro96 car31 ccr32 S27.log :: ob103 Bn19 S64 caq66 ccq67 caq68 ccq69 :: ro2 caq66 ccq67 S64.cell :: ro96 caq68 ccq69 S64.log :: ob34 Bn10 S56 caq58 ccq59 caq60 ccq61 :: ro2 caq58 ccq59 S56.Held :: ro96 caq60 ccq61 S56.Book :: L)) _ := h.sel 9 [6, 7, 8, 0, 1, 2, 3, 4, 5] (by kernel_rfl) (by kernel_rfl)
          have hc := cells_Arena_Reserve_ok (H := e73) (h := h)
          refine op_call (wn rfl) rfl rfl hr (f := 35) (args := #[.pointer (some ⟨Bn28, 0, none⟩), .int .i64 r1]) (by kernel_rfl) hc ?_; clear hc h
          rintro _ w ⟨caq74, ccq75, caq76, ccq77, rfl, h⟩; refine ⟨_, rfl, ?_⟩
          clear hr a; intro a hr
          refine wpList_nil ?_
          refine then_normal ?_
          replace hr := hr.fold2 [(1, .int .i64 (wi ((1 : Int) + r3))), (2, .slice va2 p2.length vc2), (3, .slice va3 p3.length vc3), (10, .pointer (some ⟨Bn10, 0, none⟩)), (12, .pointer (some ⟨Bn19, 0, none⟩)), (14, .pointer (some ⟨Bn28, 0, none⟩))] (by kernel_rfl); obtain ⟨j, hr⟩ := hr
          replace h : Fit z (sepL (ob34 Bn10 S56 caq58 ccq59 caq60 ccq61 :: ro2 caq58 ccq59 S56.Held :: ro96 caq60 ccq61 S56.Book :: ob103 Bn19 S64 caq66 ccq67 caq68 ccq69 :: ro2 caq66 ccq67 S64.cell :: ro96 caq68 ccq69 S64.log :: ob103 Bn28 S72 caq74 ccq75 caq76 ccq77 :: ro2 caq74 ccq75 S72.cell :: ro96 caq76 ccq77 S72.log :: L)) _ := h.sel 9 [6, 7, 8, 3, 4, 5, 0, 1, 2] (by kernel_rfl) (by kernel_rfl)
          exact ⟨(), caq58, ccq59, caq60, ccq61, caq66, ccq67, caq68, ccq69, caq74, ccq75, caq76, ccq77, S56, S64, S72, sinj H, j, hr, h⟩
        ·
          replace H := ifF c54 H
          refine cond_ff hr (b := (decide (r1 > (0 : Int)))) (decide_eq_false c54) ?_
          refine wp_skip ?_
          refine then_normal ?_
          replace hr := hr.fold2 [(1, .int .i64 (wi ((1 : Int) + r3))), (2, .slice va2 p2.length vc2), (3, .slice va3 p3.length vc3), (10, .pointer (some ⟨Bn10, 0, none⟩)), (12, .pointer (some ⟨Bn19, 0, none⟩)), (14, .pointer (some ⟨Bn28, 0, none⟩))] (by kernel_rfl); obtain ⟨j, hr⟩ := hr
          exact ⟨(), car11, ccr12, car13, ccr14, car20, ccr21, car22, ccr23, car29, ccr30, car31, ccr32, r7, S18, S27, sinj H, j, hr, h⟩
      clear h hr a; rintro _ a w ⟨ca38, cc39, ca40, cc41, ca43, cc44, ca45, cc46, ca48, cc49, ca50, cc51, S37, S42, S47, rfl, j, hr, h⟩
      replace H := kk3 hK52
      refine wp_seq ?_
      refine wp_region_lit ?_
      replace H := bd3 H; obtain ⟨r78, r79, S80, e81, H⟩ := H
      refine ovs [81, 82] [.pointer (some ⟨Bn10, 0, none⟩), .int .i64 (wi ((1 : Int) + r3))] hr ⟨rfl, rfl⟩ (by kernel_rfl) ?_; clear hr a; intro a hr
      have hc := plunderref8_New_ok (H := e81) (h := h)
      refine op_call (wn rfl) rfl rfl hr (f := 18) (args := #[.pointer (some ⟨Bn10, 0, none⟩), .int .i64 (wi ((1 : Int) + r3))]) (by kernel_rfl) hc ?_; clear hc h
      rintro _ w ⟨caq82, ccq83, caq84, ccq85, rfl, h⟩; refine ⟨_, rfl, ?_⟩
      clear hr a; intro a hr
      refine ovs [80, 84, 85] [.tuple #[.agg #[.int .i64 r78.Base, .int .i64 r78.Frames], .int .i64 r79], .agg #[.int .i64 r78.Base, .int .i64 r78.Frames], .int .i64 r79] hr ⟨rfl, rfl⟩ (by kernel_rfl) ?_; clear hr a; intro a hr
      refine op_new (wn rfl) rfl rfl hr h (vf := fun b => .pointer (some ⟨b, 0, none⟩)) (cs := #[.int .i64 0, .int .i64 0]) (T := 36) (by kernel_rfl) ?_; clear h hr a; intro b86 w a h hr
      refine op_stores (wn rfl) rfl hr rfl (by kernel_rfl) (by kernel_rfl) (vs := [.int .i64 r78.Base, .int .i64 r78.Frames]) rfl rfl (by kernel_rfl) h (i := 0) (cs' := #[.int .i64 r78.Base, .int .i64 r78.Frames]) rfl ?_; clear h; intro w h
      refine ov hr (.int .i64 r79) (by kernel_rfl) ?_; clear hr a; intro a hr
      refine wpList_nil ?_
      replace h : Fit z (sepL (ob36 b86 r78 :: ob34 Bn10 S80 caq82 ccq83 caq84 ccq85 :: ro2 caq82 ccq83 S80.Held :: ro96 caq84 ccq85 S80.Book :: ob103 Bn19 S42 ca43 cc44 ca45 cc46 :: ro2 ca43 cc44 S42.cell :: ro96 ca45 cc46 S42.log :: ob103 Bn28 S47 ca48 cc49 ca50 cc51 :: ro2 ca48 cc49 S47.cell :: ro96 ca50 cc51 S47.log :: L)) _ := h
      refine then_normal ?_
      refine wp_seq ?_
      refine wp_region_lit ?_
      replace H := bd3 H; obtain ⟨r87, r88, S89, e90, H⟩ := H
      refine ovs [87, 88, 89] [.pointer (some ⟨Bn19, 0, none⟩), .iface 26 (.pointer (some ⟨Bn19, 0, none⟩)), .int .i64 (wi ((1 : Int) + r3))] hr ⟨rfl, rfl⟩ (by kernel_rfl) ?_; clear hr a; intro a hr
      replace h : Fit z (sepL (ob103 Bn19 S42 ca43 cc44 ca45 cc46 :: ro2 ca43 cc44 S42.cell :: ro96 ca45 cc46 S42.log :: ob36 b86 r78 :: ob34 Bn10 S80 caq82 ccq83 caq84 ccq85 :: ro2 caq82 ccq83 S80.Held :: ro96 caq84 ccq85 S80.Book :: ob103 Bn28 S47 ca48 cc49 ca50 cc51 :: ro2 ca48 cc49 S47.cell :: ro96 ca50 cc51 S47.log :: L)) _ := h.sel 10 [4, 5, 6, 0, 1, 2, 3, 7, 8, 9] (by kernel_rfl) (by kernel_rfl)
      have hc := frames_New_iface_ok (H := e90) (h := h)
      refine op_call (wn rfl) rfl rfl hr (f := 19) (args := #[.iface 26 (.pointer (some ⟨Bn19, 0, none⟩)), .int .i64 (wi ((1 : Int) + r3))]) (by kernel_rfl) hc ?_; clear hc h
      rintro _ w ⟨caq91, ccq92, caq93, ccq94, rfl, h⟩; refine ⟨_, rfl, ?_⟩
      clear hr a; intro a hr
      refine ovs [86, 91, 92] [.tuple #[.agg #[.int .i64 r87.Base, .int .i64 r87.Frames], .int .i64 r88], .agg #[.int .i64 r87.Base, .int .i64 r87.Frames], .int .i64 r88] hr ⟨rfl, rfl⟩ (by kernel_rfl) ?_; clear hr a; intro a hr
      refine op_new (wn rfl) rfl rfl hr h (vf := fun b => .pointer (some ⟨b, 0, none⟩)) (cs := #[.int .i64 0, .int .i64 0]) (T := 39) (by kernel_rfl) ?_; clear h hr a; intro b95 w a h hr
      refine op_stores (wn rfl) rfl hr rfl (by kernel_rfl) (by kernel_rfl) (vs := [.int .i64 r87.Base, .int .i64 r87.Frames]) rfl rfl (by kernel_rfl) h (i := 0) (cs' := #[.int .i64 r87.Base, .int .i64 r87.Frames]) rfl ?_; clear h; intro w h
      refine ov hr (.int .i64 r88) (by kernel_rfl) ?_; clear hr a; intro a hr
      refine wpList_nil ?_
      replace h : Fit z (sepL (ob39 b95 r87 :: ob103 Bn19 S89 caq91 ccq92 caq93 ccq94 :: ro2 caq91 ccq92 S89.cell :: ro96 caq93 ccq94 S89.log :: ob36 b86 r78 :: ob34 Bn10 S80 caq82 ccq83 caq84 ccq85 :: ro2 caq82 ccq83 S80.Held :: ro96 caq84 ccq85 S80.Book :: ob103 Bn28 S47 ca48 cc49 ca50 cc51 :: ro2 ca48 cc49 S47.cell :: ro96 ca50 cc51 S47.log :: L)) _ := h
      refine then_normal ?_
      refine wp_seq ?_
      refine wp_region_lit ?_
      replace H := bd3 H; obtain ⟨r96, r97, S98, e99, H⟩ := H
      refine ovs [94, 95, 96] [.pointer (some ⟨Bn28, 0, none⟩), .iface 26 (.pointer (some ⟨Bn28, 0, none⟩)), .int .i64 (wi ((1 : Int) + r3))] hr ⟨rfl, rfl⟩ (by kernel_rfl) ?_; clear hr a; intro a hr
      replace h : Fit z (sepL (ob103 Bn28 S47 ca48 cc49 ca50 cc51 :: ro2 ca48 cc49 S47.cell :: ro96 ca50 cc51 S47.log :: ob39 b95 r87 :: ob103 Bn19 S89 caq91 ccq92 caq93 ccq94 :: ro2 caq91 ccq92 S89.cell :: ro96 caq93 ccq94 S89.log :: ob36 b86 r78 :: ob34 Bn10 S80 caq82 ccq83 caq84 ccq85 :: ro2 caq82 ccq83 S80.Held :: ro96 caq84 ccq85 S80.Book :: L)) _ := h.sel 11 [8, 9, 10, 0, 1, 2, 3, 4, 5, 6, 7] (by kernel_rfl) (by kernel_rfl)
      have hc := frames_New_iface_ok (H := e99) (h := h)
      refine op_call (wn rfl) rfl rfl hr (f := 19) (args := #[.iface 26 (.pointer (some ⟨Bn28, 0, none⟩)), .int .i64 (wi ((1 : Int) + r3))]) (by kernel_rfl) hc ?_; clear hc h
      rintro _ w ⟨caq100, ccq101, caq102, ccq103, rfl, h⟩; refine ⟨_, rfl, ?_⟩
      clear hr a; intro a hr
      refine ovs [93, 98, 99] [.tuple #[.agg #[.int .i64 r96.Base, .int .i64 r96.Frames], .int .i64 r97], .agg #[.int .i64 r96.Base, .int .i64 r96.Frames], .int .i64 r97] hr ⟨rfl, rfl⟩ (by kernel_rfl) ?_; clear hr a; intro a hr
      refine op_new (wn rfl) rfl rfl hr h (vf := fun b => .pointer (some ⟨b, 0, none⟩)) (cs := #[.int .i64 0, .int .i64 0]) (T := 39) (by kernel_rfl) ?_; clear h hr a; intro b104 w a h hr
      refine op_stores (wn rfl) rfl hr rfl (by kernel_rfl) (by kernel_rfl) (vs := [.int .i64 r96.Base, .int .i64 r96.Frames]) rfl rfl (by kernel_rfl) h (i := 0) (cs' := #[.int .i64 r96.Base, .int .i64 r96.Frames]) rfl ?_; clear h; intro w h
      refine ov hr (.int .i64 r97) (by kernel_rfl) ?_; clear hr a; intro a hr
      refine wpList_nil ?_
      replace h : Fit z (sepL (ob39 b104 r96 :: ob103 Bn28 S98 caq100 ccq101 caq102 ccq103 :: ro2 caq100 ccq101 S98.cell :: ro96 caq102 ccq103 S98.log :: ob39 b95 r87 :: ob103 Bn19 S89 caq91 ccq92 caq93 ccq94 :: ro2 caq91 ccq92 S89.cell :: ro96 caq93 ccq94 S89.log :: ob36 b86 r78 :: ob34 Bn10 S80 caq82 ccq83 caq84 ccq85 :: ro2 caq82 ccq83 S80.Held :: ro96 caq84 ccq85 S80.Book :: L)) _ := h
      refine then_normal ?_
      replace H := jd0 H; obtain ⟨o106, H, hK105⟩ := H
      refine cut_rule (β := Unit) (fun _ a w => .inl () = o106 ∧ ∃ j, Rep 258 (lk [(2, .slice va2 p2.length vc2), (3, .slice va3 p3.length vc3), (10, .pointer (some ⟨Bn10, 0, none⟩)), (12, .pointer (some ⟨Bn19, 0, none⟩)), (14, .pointer (some ⟨Bn28, 0, none⟩)), (16, .pointer (some ⟨b86, 0, none⟩)), (18, .pointer (some ⟨b95, 0, none⟩))] j) a ∧ Fit z (sepL (ob34 Bn10 S80 caq82 ccq83 caq84 ccq85 :: ro2 caq82 ccq83 S80.Held :: ro96 caq84 ccq85 S80.Book :: ob103 Bn19 S89 caq91 ccq92 caq93 ccq94 :: ro2 caq91 ccq92 S89.cell :: ro96 caq93 ccq94 S89.log :: ob103 Bn28 S98 caq100 ccq101 caq102 ccq103 :: ro2 caq100 ccq101 S98.cell :: ro96 caq102 ccq103 S98.log :: ob36 b86 r78 :: ob39 b95 r87 :: L)) w) ?_ ?_
      ·
        refine wp_seq ?_
        refine wp_region_lit ?_
        refine ovs [100, 101, 102] [.int .i64 r88, .bool (r88 != (0 : Int)), .bool (r88 != (0 : Int))] hr ⟨rfl, rfl⟩ (by kernel_rfl) ?_; clear hr a; intro a hr
        by_cases c107 : r88 = (0 : Int)
        ·
          replace H := ifT c107 H
          refine op_val ((wg hr rfl rfl rfl (b' := (r88 != (0 : Int))) (by kernel_rfl)).trans (by rw [show (r88 != (0 : Int)) = false from (bne_eq_false_iff_eq.mpr c107)]; rfl)) rfl rfl hr (v := .int .i64 r97) (by kernel_rfl) ?_; clear hr a; intro a hr
          refine op_val ((wg hr rfl rfl rfl (b' := (r88 != (0 : Int))) (by kernel_rfl)).trans (by rw [show (r88 != (0 : Int)) = false from (bne_eq_false_iff_eq.mpr c107)]; rfl)) rfl rfl hr (v := .bool (r97 != (0 : Int))) (by kernel_rfl) ?_; clear hr a; intro a hr
          refine op_val (wn rfl) rfl rfl hr (v := .bool (r97 != (0 : Int))) (rp_f (b := (r88 != (0 : Int))) rfl (by kernel_rfl) (bne_eq_false_iff_eq.mpr c107) (by kernel_rfl)) ?_; clear hr a; intro a hr
          refine ov hr (.bool (r97 != (0 : Int))) (by kernel_rfl) ?_; clear hr a; intro a hr
          by_cases c108 : r97 = (0 : Int)
          ·
            replace H := ifT c108 H
            refine op_val ((wg hr rfl rfl rfl (b' := (r97 != (0 : Int))) (by kernel_rfl)).trans (by rw [show (r97 != (0 : Int)) = false from (bne_eq_false_iff_eq.mpr c108)]; rfl)) rfl rfl hr (v := .agg #[.int .i64 r87.Base, .int .i64 r87.Frames]) (rlm (cs := [.int .i64 r87.Base, .int .i64 r87.Frames]) rfl (by kernel_rfl) (by kernel_rfl) (by kernel_rfl) ⟨(h.pick 4).cell 0 rfl, (h.pick 4).cell 1 rfl, trivial⟩) ?_; clear hr a; intro a hr
            refine op_val ((wg hr rfl rfl rfl (b' := (r97 != (0 : Int))) (by kernel_rfl)).trans (by rw [show (r97 != (0 : Int)) = false from (bne_eq_false_iff_eq.mpr c108)]; rfl)) rfl rfl hr (v := .agg #[.int .i64 r96.Base, .int .i64 r96.Frames]) (rlm (cs := [.int .i64 r96.Base, .int .i64 r96.Frames]) rfl (by kernel_rfl) (by kernel_rfl) (by kernel_rfl) ⟨h.cell 0 rfl, h.cell 1 rfl, trivial⟩) ?_; clear hr a; intro a hr
            refine op_val ((wg hr rfl rfl rfl (b' := (r97 != (0 : Int))) (by kernel_rfl)).trans (by rw [show (r97 != (0 : Int)) = false from (bne_eq_false_iff_eq.mpr c108)]; rfl)) rfl rfl hr (v := .bool (!(decide (r87 = r96)))) (rb (rne rfl (by kernel_rfl) (by kernel_rfl) (by kernel_rfl) (by kernel_rfl) (by kernel_rfl) (by kernel_rfl)) (congrArg (!·) (eq_T_frames_Table r87 r96))) ?_; clear hr a; intro a hr
            refine op_val (wn rfl) rfl rfl hr (v := .bool (!(decide (r87 = r96)))) (rp_f (b := (r97 != (0 : Int))) rfl (by kernel_rfl) (bne_eq_false_iff_eq.mpr c108) (by kernel_rfl)) ?_; clear hr a; intro a hr
            refine ov hr (.bool (!(decide (r87 = r96)))) (by kernel_rfl) ?_; clear hr a; intro a hr
            by_cases c109 : r87 = r96
            ·
              replace H := ifT c109 H
              refine op_val ((wg hr rfl rfl rfl (b' := (!(decide (r87 = r96)))) (by kernel_rfl)).trans (by rw [show (!(decide (r87 = r96))) = false from (by rw [show (decide (r87 = r96)) = true from (decide_eq_true c109)]; rfl)]; rfl)) rfl rfl hr (v := .pointer (some ⟨b95, 0, none⟩)) (by kernel_rfl) ?_; clear hr a; intro a hr
              refine op_val ((wg hr rfl rfl rfl (b' := (!(decide (r87 = r96)))) (by kernel_rfl)).trans (by rw [show (!(decide (r87 = r96))) = false from (by rw [show (decide (r87 = r96)) = true from (decide_eq_true c109)]; rfl)]; rfl)) rfl rfl hr (v := .int .i64 r87.Base) (rl rfl (by kernel_rfl) (by kernel_rfl) ((h.pick 4).cell 0 rfl)) ?_; clear hr a; intro a hr
              refine op_val ((wg hr rfl rfl rfl (b' := (!(decide (r87 = r96)))) (by kernel_rfl)).trans (by rw [show (!(decide (r87 = r96))) = false from (by rw [show (decide (r87 = r96)) = true from (decide_eq_true c109)]; rfl)]; rfl)) rfl rfl hr (v := .pointer (some ⟨b86, 0, none⟩)) (by kernel_rfl) ?_; clear hr a; intro a hr
              refine op_val ((wg hr rfl rfl rfl (b' := (!(decide (r87 = r96)))) (by kernel_rfl)).trans (by rw [show (!(decide (r87 = r96))) = false from (by rw [show (decide (r87 = r96)) = true from (decide_eq_true c109)]; rfl)]; rfl)) rfl rfl hr (v := .int .i64 r78.Base) (rl rfl (by kernel_rfl) (by kernel_rfl) ((h.pick 8).cell 0 rfl)) ?_; clear hr a; intro a hr
              refine op_val ((wg hr rfl rfl rfl (b' := (!(decide (r87 = r96)))) (by kernel_rfl)).trans (by rw [show (!(decide (r87 = r96))) = false from (by rw [show (decide (r87 = r96)) = true from (decide_eq_true c109)]; rfl)]; rfl)) rfl rfl hr (v := .bool (r87.Base != r78.Base)) (by kernel_rfl) ?_; clear hr a; intro a hr
              refine op_val (wn rfl) rfl rfl hr (v := .bool (r87.Base != r78.Base)) (rp_f (b := (!(decide (r87 = r96)))) rfl (by kernel_rfl) (by rw [show (decide (r87 = r96)) = true from (decide_eq_true c109)]; rfl) (by kernel_rfl)) ?_; clear hr a; intro a hr
              refine ov hr (.bool (r87.Base != r78.Base)) (by kernel_rfl) ?_; clear hr a; intro a hr
              by_cases c110 : r87.Base = r78.Base
              ·
                replace H := ifT c110 H
                refine op_val ((wg hr rfl rfl rfl (b' := (r87.Base != r78.Base)) (by kernel_rfl)).trans (by rw [show (r87.Base != r78.Base) = false from (bne_eq_false_iff_eq.mpr c110)]; rfl)) rfl rfl hr (v := .pointer (some ⟨b95, 1, none⟩)) (by kernel_rfl) ?_; clear hr a; intro a hr
                refine op_val ((wg hr rfl rfl rfl (b' := (r87.Base != r78.Base)) (by kernel_rfl)).trans (by rw [show (r87.Base != r78.Base) = false from (bne_eq_false_iff_eq.mpr c110)]; rfl)) rfl rfl hr (v := .int .i64 r87.Frames) (rl rfl (by kernel_rfl) (by kernel_rfl) ((h.pick 4).cell 1 rfl)) ?_; clear hr a; intro a hr
                refine op_val ((wg hr rfl rfl rfl (b' := (r87.Base != r78.Base)) (by kernel_rfl)).trans (by rw [show (r87.Base != r78.Base) = false from (bne_eq_false_iff_eq.mpr c110)]; rfl)) rfl rfl hr (v := .pointer (some ⟨b86, 1, none⟩)) (by kernel_rfl) ?_; clear hr a; intro a hr
                refine op_val ((wg hr rfl rfl rfl (b' := (r87.Base != r78.Base)) (by kernel_rfl)).trans (by rw [show (r87.Base != r78.Base) = false from (bne_eq_false_iff_eq.mpr c110)]; rfl)) rfl rfl hr (v := .int .i64 r78.Frames) (rl rfl (by kernel_rfl) (by kernel_rfl) ((h.pick 8).cell 1 rfl)) ?_; clear hr a; intro a hr
                refine op_val ((wg hr rfl rfl rfl (b' := (r87.Base != r78.Base)) (by kernel_rfl)).trans (by rw [show (r87.Base != r78.Base) = false from (bne_eq_false_iff_eq.mpr c110)]; rfl)) rfl rfl hr (v := .bool (r87.Frames != r78.Frames)) (by kernel_rfl) ?_; clear hr a; intro a hr
                refine op_val (wn rfl) rfl rfl hr (v := .bool (r87.Frames != r78.Frames)) (rp_f (b := (r87.Base != r78.Base)) rfl (by kernel_rfl) (bne_eq_false_iff_eq.mpr c110) (by kernel_rfl)) ?_; clear hr a; intro a hr
                refine wpList_nil ?_
                refine then_normal ?_
                by_cases c111 : r87.Frames = r78.Frames
                ·
                  replace H := ifT c111 H
                  refine cond_ff hr (b := (r87.Frames != r78.Frames)) (bne_eq_false_iff_eq.mpr c111) ?_
                  refine wp_skip ?_
                  refine then_normal ?_
                  replace hr := hr.fold2 [(2, .slice va2 p2.length vc2), (3, .slice va3 p3.length vc3), (10, .pointer (some ⟨Bn10, 0, none⟩)), (12, .pointer (some ⟨Bn19, 0, none⟩)), (14, .pointer (some ⟨Bn28, 0, none⟩)), (16, .pointer (some ⟨b86, 0, none⟩)), (18, .pointer (some ⟨b95, 0, none⟩))] (by kernel_rfl); obtain ⟨j, hr⟩ := hr
                  replace h : Fit z (sepL (ob34 Bn10 S80 caq82 ccq83 caq84 ccq85 :: ro2 caq82 ccq83 S80.Held :: ro96 caq84 ccq85 S80.Book :: ob103 Bn19 S89 caq91 ccq92 caq93 ccq94 :: ro2 caq91 ccq92 S89.cell :: ro96 caq93 ccq94 S89.log :: ob103 Bn28 S98 caq100 ccq101 caq102 ccq103 :: ro2 caq100 ccq101 S98.cell :: ro96 caq102 ccq103 S98.log :: ob36 b86 r78 :: ob39 b95 r87 :: L)) _ := h.sel 12 [9, 10, 11, 5, 6, 7, 1, 2, 3, 8, 4] (by kernel_rfl) (by kernel_rfl)
                  exact ⟨(), sinj H, j, hr, h⟩
                ·
                  replace H := ifF c111 H
                  refine cond_tt hr (b := (r87.Frames != r78.Frames)) (bne_iff_ne.mpr c111) ?_
                  refine wp_seq ?_
                  refine wp_region_lit ?_
                  refine ov hr (.bool false) (by kernel_rfl) ?_; clear hr a; intro a hr
                  refine wpList_nil ?_
                  refine then_normal ?_
                  refine wp_ret ?_
                  refine then_ret ?_
                  refine end_ret1 (v := .bool false) rfl hr (by kernel_rfl) ?_
                  replace H := jx0 H hK105
                  replace h : Fit z (sepL (L)) _ := h.sel 12 [] (by kernel_rfl) (by kernel_rfl)
                  replace H := ej1 H; subst H
                  exact ⟨rfl, h⟩
              ·
                replace H := ifF c110 H
                refine op_off ((wg hr rfl rfl rfl (b' := (r87.Base != r78.Base)) (by kernel_rfl)).trans (by rw [show (r87.Base != r78.Base) = true from (bne_iff_ne.mpr c110)]; rfl)) rfl rfl hr ?_; clear hr a; intro a hr
                refine op_off ((wg hr rfl rfl rfl (b' := (r87.Base != r78.Base)) (by kernel_rfl)).trans (by rw [show (r87.Base != r78.Base) = true from (bne_iff_ne.mpr c110)]; rfl)) rfl rfl hr ?_; clear hr a; intro a hr
                refine op_off ((wg hr rfl rfl rfl (b' := (r87.Base != r78.Base)) (by kernel_rfl)).trans (by rw [show (r87.Base != r78.Base) = true from (bne_iff_ne.mpr c110)]; rfl)) rfl rfl hr ?_; clear hr a; intro a hr
                refine op_off ((wg hr rfl rfl rfl (b' := (r87.Base != r78.Base)) (by kernel_rfl)).trans (by rw [show (r87.Base != r78.Base) = true from (bne_iff_ne.mpr c110)]; rfl)) rfl rfl hr ?_; clear hr a; intro a hr
                refine op_off ((wg hr rfl rfl rfl (b' := (r87.Base != r78.Base)) (by kernel_rfl)).trans (by rw [show (r87.Base != r78.Base) = true from (bne_iff_ne.mpr c110)]; rfl)) rfl rfl hr ?_; clear hr a; intro a hr
                refine op_val (wn rfl) rfl rfl hr (v := .bool true) (rp_t (b := (r87.Base != r78.Base)) rfl (by kernel_rfl) (bne_iff_ne.mpr c110) (by kernel_rfl)) ?_; clear hr a; intro a hr
                refine wpList_nil ?_
                refine then_normal ?_
                refine cond_tt hr (b := true) rfl ?_
                refine wp_seq ?_
                refine wp_region_lit ?_
                refine ov hr (.bool false) (by kernel_rfl) ?_; clear hr a; intro a hr
                refine wpList_nil ?_
                refine then_normal ?_
                refine wp_ret ?_
                refine then_ret ?_
                refine end_ret1 (v := .bool false) rfl hr (by kernel_rfl) ?_
                replace H := jx0 H hK105
                replace h : Fit z (sepL (L)) _ := h.sel 12 [] (by kernel_rfl) (by kernel_rfl)
                replace H := ej1 H; subst H
                exact ⟨rfl, h⟩
            ·
              replace H := ifF c109 H
              refine op_off ((wg hr rfl rfl rfl (b' := (!(decide (r87 = r96)))) (by kernel_rfl)).trans (by rw [show (!(decide (r87 = r96))) = true from (by rw [show (decide (r87 = r96)) = false from (decide_eq_false c109)]; rfl)]; rfl)) rfl rfl hr ?_; clear hr a; intro a hr
              refine op_off ((wg hr rfl rfl rfl (b' := (!(decide (r87 = r96)))) (by kernel_rfl)).trans (by rw [show (!(decide (r87 = r96))) = true from (by rw [show (decide (r87 = r96)) = false from (decide_eq_false c109)]; rfl)]; rfl)) rfl rfl hr ?_; clear hr a; intro a hr
              refine op_off ((wg hr rfl rfl rfl (b' := (!(decide (r87 = r96)))) (by kernel_rfl)).trans (by rw [show (!(decide (r87 = r96))) = true from (by rw [show (decide (r87 = r96)) = false from (decide_eq_false c109)]; rfl)]; rfl)) rfl rfl hr ?_; clear hr a; intro a hr
              refine op_off ((wg hr rfl rfl rfl (b' := (!(decide (r87 = r96)))) (by kernel_rfl)).trans (by rw [show (!(decide (r87 = r96))) = true from (by rw [show (decide (r87 = r96)) = false from (decide_eq_false c109)]; rfl)]; rfl)) rfl rfl hr ?_; clear hr a; intro a hr
              refine op_off ((wg hr rfl rfl rfl (b' := (!(decide (r87 = r96)))) (by kernel_rfl)).trans (by rw [show (!(decide (r87 = r96))) = true from (by rw [show (decide (r87 = r96)) = false from (decide_eq_false c109)]; rfl)]; rfl)) rfl rfl hr ?_; clear hr a; intro a hr
              refine op_val (wn rfl) rfl rfl hr (v := .bool true) (rp_t (b := (!(decide (r87 = r96)))) rfl (by kernel_rfl) (by rw [show (decide (r87 = r96)) = false from (decide_eq_false c109)]; rfl) (by kernel_rfl)) ?_; clear hr a; intro a hr
              refine ov hr (.bool true) (by kernel_rfl) ?_; clear hr a; intro a hr
              refine op_off ((wg hr rfl rfl rfl (b' := true) (by kernel_rfl)).trans rfl) rfl rfl hr ?_; clear hr a; intro a hr
              refine op_off ((wg hr rfl rfl rfl (b' := true) (by kernel_rfl)).trans rfl) rfl rfl hr ?_; clear hr a; intro a hr
              refine op_off ((wg hr rfl rfl rfl (b' := true) (by kernel_rfl)).trans rfl) rfl rfl hr ?_; clear hr a; intro a hr
              refine op_off ((wg hr rfl rfl rfl (b' := true) (by kernel_rfl)).trans rfl) rfl rfl hr ?_; clear hr a; intro a hr
              refine op_off ((wg hr rfl rfl rfl (b' := true) (by kernel_rfl)).trans rfl) rfl rfl hr ?_; clear hr a; intro a hr
              refine ov hr (.bool true) (by kernel_rfl) ?_; clear hr a; intro a hr
              refine wpList_nil ?_
              refine then_normal ?_
              refine cond_tt hr (b := true) rfl ?_
              refine wp_seq ?_
              refine wp_region_lit ?_
              refine ov hr (.bool false) (by kernel_rfl) ?_; clear hr a; intro a hr
              refine wpList_nil ?_
              refine then_normal ?_
              refine wp_ret ?_
              refine then_ret ?_
              refine end_ret1 (v := .bool false) rfl hr (by kernel_rfl) ?_
              replace H := jx0 H hK105
              replace h : Fit z (sepL (L)) _ := h.sel 12 [] (by kernel_rfl) (by kernel_rfl)
              replace H := ej1 H; subst H
              exact ⟨rfl, h⟩
          ·
            replace H := ifF c108 H
            refine op_off ((wg hr rfl rfl rfl (b' := (r97 != (0 : Int))) (by kernel_rfl)).trans (by rw [show (r97 != (0 : Int)) = true from (bne_iff_ne.mpr c108)]; rfl)) rfl rfl hr ?_; clear hr a; intro a hr
            refine op_off ((wg hr rfl rfl rfl (b' := (r97 != (0 : Int))) (by kernel_rfl)).trans (by rw [show (r97 != (0 : Int)) = true from (bne_iff_ne.mpr c108)]; rfl)) rfl rfl hr ?_; clear hr a; intro a hr
            refine op_off ((wg hr rfl rfl rfl (b' := (r97 != (0 : Int))) (by kernel_rfl)).trans (by rw [show (r97 != (0 : Int)) = true from (bne_iff_ne.mpr c108)]; rfl)) rfl rfl hr ?_; clear hr a; intro a hr
            refine op_val (wn rfl) rfl rfl hr (v := .bool true) (rp_t (b := (r97 != (0 : Int))) rfl (by kernel_rfl) (bne_iff_ne.mpr c108) (by kernel_rfl)) ?_; clear hr a; intro a hr
            refine ov hr (.bool true) (by kernel_rfl) ?_; clear hr a; intro a hr
            refine op_off ((wg hr rfl rfl rfl (b' := true) (by kernel_rfl)).trans rfl) rfl rfl hr ?_; clear hr a; intro a hr
            refine op_off ((wg hr rfl rfl rfl (b' := true) (by kernel_rfl)).trans rfl) rfl rfl hr ?_; clear hr a; intro a hr
            refine op_off ((wg hr rfl rfl rfl (b' := true) (by kernel_rfl)).trans rfl) rfl rfl hr ?_; clear hr a; intro a hr
            refine op_off ((wg hr rfl rfl rfl (b' := true) (by kernel_rfl)).trans rfl) rfl rfl hr ?_; clear hr a; intro a hr
            refine op_off ((wg hr rfl rfl rfl (b' := true) (by kernel_rfl)).trans rfl) rfl rfl hr ?_; clear hr a; intro a hr
            refine ovs [117, 118] [.bool true, .bool true] hr ⟨rfl, rfl⟩ (by kernel_rfl) ?_; clear hr a; intro a hr
            refine op_off ((wg hr rfl rfl rfl (b' := true) (by kernel_rfl)).trans rfl) rfl rfl hr ?_; clear hr a; intro a hr
            refine op_off ((wg hr rfl rfl rfl (b' := true) (by kernel_rfl)).trans rfl) rfl rfl hr ?_; clear hr a; intro a hr
            refine op_off ((wg hr rfl rfl rfl (b' := true) (by kernel_rfl)).trans rfl) rfl rfl hr ?_; clear hr a; intro a hr
            refine op_off ((wg hr rfl rfl rfl (b' := true) (by kernel_rfl)).trans rfl) rfl rfl hr ?_; clear hr a; intro a hr
            refine op_off ((wg hr rfl rfl rfl (b' := true) (by kernel_rfl)).trans rfl) rfl rfl hr ?_; clear hr a; intro a hr
            refine ov hr (.bool true) (by kernel_rfl) ?_; clear hr a; intro a hr
            refine wpList_nil ?_
            refine then_normal ?_
            refine cond_tt hr (b := true) rfl ?_
            refine wp_seq ?_
            refine wp_region_lit ?_
            refine ov hr (.bool false) (by kernel_rfl) ?_; clear hr a; intro a hr
            refine wpList_nil ?_
            refine then_normal ?_
            refine wp_ret ?_
            refine then_ret ?_
            refine end_ret1 (v := .bool false) rfl hr (by kernel_rfl) ?_
            replace H := jx0 H hK105
            replace h : Fit z (sepL (L)) _ := h.sel 12 [] (by kernel_rfl) (by kernel_rfl)
            replace H := ej1 H; subst H
            exact ⟨rfl, h⟩
        ·
          replace H := ifF c107 H
          refine op_off ((wg hr rfl rfl rfl (b' := (r88 != (0 : Int))) (by kernel_rfl)).trans (by rw [show (r88 != (0 : Int)) = true from (bne_iff_ne.mpr c107)]; rfl)) rfl rfl hr ?_; clear hr a; intro a hr
          refine op_off ((wg hr rfl rfl rfl (b' := (r88 != (0 : Int))) (by kernel_rfl)).trans (by rw [show (r88 != (0 : Int)) = true from (bne_iff_ne.mpr c107)]; rfl)) rfl rfl hr ?_; clear hr a; intro a hr
          refine op_val (wn rfl) rfl rfl hr (v := .bool true) (rp_t (b := (r88 != (0 : Int))) rfl (by kernel_rfl) (bne_iff_ne.mpr c107) (by kernel_rfl)) ?_; clear hr a; intro a hr
          refine ov hr (.bool true) (by kernel_rfl) ?_; clear hr a; intro a hr
          refine op_off ((wg hr rfl rfl rfl (b' := true) (by kernel_rfl)).trans rfl) rfl rfl hr ?_; clear hr a; intro a hr
          refine op_off ((wg hr rfl rfl rfl (b' := true) (by kernel_rfl)).trans rfl) rfl rfl hr ?_; clear hr a; intro a hr
          refine op_off ((wg hr rfl rfl rfl (b' := true) (by kernel_rfl)).trans rfl) rfl rfl hr ?_; clear hr a; intro a hr
          refine ovs [110, 111] [.bool true, .bool true] hr ⟨rfl, rfl⟩ (by kernel_rfl) ?_; clear hr a; intro a hr
          refine op_off ((wg hr rfl rfl rfl (b' := true) (by kernel_rfl)).trans rfl) rfl rfl hr ?_; clear hr a; intro a hr
          refine op_off ((wg hr rfl rfl rfl (b' := true) (by kernel_rfl)).trans rfl) rfl rfl hr ?_; clear hr a; intro a hr
          refine op_off ((wg hr rfl rfl rfl (b' := true) (by kernel_rfl)).trans rfl) rfl rfl hr ?_; clear hr a; intro a hr
          refine op_off ((wg hr rfl rfl rfl (b' := true) (by kernel_rfl)).trans rfl) rfl rfl hr ?_; clear hr a; intro a hr
          refine op_off ((wg hr rfl rfl rfl (b' := true) (by kernel_rfl)).trans rfl) rfl rfl hr ?_; clear hr a; intro a hr
          refine ovs [117, 118] [.bool true, .bool true] hr ⟨rfl, rfl⟩ (by kernel_rfl) ?_; clear hr a; intro a hr
          refine op_off ((wg hr rfl rfl rfl (b' := true) (by kernel_rfl)).trans rfl) rfl rfl hr ?_; clear hr a; intro a hr
          refine op_off ((wg hr rfl rfl rfl (b' := true) (by kernel_rfl)).trans rfl) rfl rfl hr ?_; clear hr a; intro a hr
          refine op_off ((wg hr rfl rfl rfl (b' := true) (by kernel_rfl)).trans rfl) rfl rfl hr ?_; clear hr a; intro a hr
          refine op_off ((wg hr rfl rfl rfl (b' := true) (by kernel_rfl)).trans rfl) rfl rfl hr ?_; clear hr a; intro a hr
          refine op_off ((wg hr rfl rfl rfl (b' := true) (by kernel_rfl)).trans rfl) rfl rfl hr ?_; clear hr a; intro a hr
          refine ov hr (.bool true) (by kernel_rfl) ?_; clear hr a; intro a hr
          refine wpList_nil ?_
          refine then_normal ?_
          refine cond_tt hr (b := true) rfl ?_
          refine wp_seq ?_
          refine wp_region_lit ?_
          refine ov hr (.bool false) (by kernel_rfl) ?_; clear hr a; intro a hr
          refine wpList_nil ?_
          refine then_normal ?_
          refine wp_ret ?_
          refine then_ret ?_
          refine end_ret1 (v := .bool false) rfl hr (by kernel_rfl) ?_
          replace H := jx0 H hK105
          replace h : Fit z (sepL (L)) _ := h.sel 12 [] (by kernel_rfl) (by kernel_rfl)
          replace H := ej1 H; subst H
          exact ⟨rfl, h⟩
      clear h hr a; rintro _ a w ⟨rfl, j, hr, h⟩
      replace H := jk0 hK105
      refine wp_seq ?_
      refine wp_region_lit ?_
      replace H := bd1 H; obtain ⟨S112, e113, H⟩ := H
      refine ov hr (.pointer (some ⟨Bn19, 0, none⟩)) (by kernel_rfl) ?_; clear hr a; intro a hr
      replace h : Fit z (sepL (ob103 Bn19 S89 caq91 ccq92 caq93 ccq94 :: ro2 caq91 ccq92 S89.cell :: ro96 caq93 ccq94 S89.log :: ob34 Bn10 S80 caq82 ccq83 caq84 ccq85 :: ro2 caq82 ccq83 S80.Held :: ro96 caq84 ccq85 S80.Book :: ob103 Bn28 S98 caq100 ccq101 caq102 ccq103 :: ro2 caq100 ccq101 S98.cell :: ro96 caq102 ccq103 S98.log :: ob36 b86 r78 :: ob39 b95 r87 :: L)) _ := h.sel 11 [3, 4, 5, 0, 1, 2, 6, 7, 8, 9, 10] (by kernel_rfl) (by kernel_rfl)
      have hc := cells_Arena_Watch_ok (H := e113) (h := h)
      refine op_call (wn rfl) rfl rfl hr (f := 17) (args := #[.pointer (some ⟨Bn19, 0, none⟩), .bool true]) (by kernel_rfl) hc ?_; clear hc h
      rintro _ w ⟨caq114, ccq115, caq116, ccq117, rfl, h⟩; refine ⟨_, rfl, ?_⟩
      clear hr a; intro a hr
      refine wpList_nil ?_
      refine then_normal ?_
      refine wp_seq ?_
      refine wp_region_lit ?_
      refine ovs [127, 128, 129] [.pointer (some ⟨Bn10, 0, none⟩), .pointer (some ⟨Bn10, 0, none⟩), .pointer (some ⟨Bn10, 2, none⟩)] hr ⟨rfl, rfl⟩ (by kernel_rfl) ?_; clear hr a; intro a hr
      replace h : Fit z (sepL (ob34 Bn10 S80 caq82 ccq83 caq84 ccq85 :: ob103 Bn19 S112 caq114 ccq115 caq116 ccq117 :: ro2 caq114 ccq115 S112.cell :: ro96 caq116 ccq117 S112.log :: ro2 caq82 ccq83 S80.Held :: ro96 caq84 ccq85 S80.Book :: ob103 Bn28 S98 caq100 ccq101 caq102 ccq103 :: ro2 caq100 ccq101 S98.cell :: ro96 caq102 ccq103 S98.log :: ob36 b86 r78 :: ob39 b95 r87 :: L)) _ := h.sel 11 [3, 0, 1, 2, 4, 5, 6, 7, 8, 9, 10] (by kernel_rfl) (by kernel_rfl)
      refine op_store (wn rfl) rfl hr rfl (by kernel_rfl) (by kernel_rfl) (v := .bool true) rfl rfl (by kernel_rfl) h (i := 2) rfl ?_; clear h; intro w h
      refine wpList_nil ?_
      replace h : Fit z (sepL (pts Bn10 (.cells #[.int .i64 S80.Most, .slice caq82 S80.Held.length ccq83, .bool true, .int .i64 S80.Actor, .slice caq84 S80.Book.length ccq85] 34) :: ob103 Bn19 S112 caq114 ccq115 caq116 ccq117 :: ro2 caq114 ccq115 S112.cell :: ro96 caq116 ccq117 S112.log :: ro2 caq82 ccq83 S80.Held :: ro96 caq84 ccq85 S80.Book :: ob103 Bn28 S98 caq100 ccq101 caq102 ccq103 :: ro2 caq100 ccq101 S98.cell :: ro96 caq102 ccq103 S98.log :: ob36 b86 r78 :: ob39 b95 r87 :: L)) _ := h
      refine then_normal ?_
      refine wp_seq ?_
      refine wp_region_lit ?_
      refine ov hr (.slice none 0 0) (by kernel_rfl) ?_; clear hr a; intro a hr
      refine wpList_nil ?_
      refine then_normal ?_
      refine wp_seq ?_
      refine wp_region_lit ?_
      refine ov hr (.slice none 0 0) (by kernel_rfl) ?_; clear hr a; intro a hr
      refine wpList_nil ?_
      refine then_normal ?_
      replace H := jd2 H; obtain ⟨o125, H, hK124⟩ := H
      refine cut_rule (β := Unit) (fun _ a w => ∃ ca118 : Option Addr, ∃ cc119 : Nat, ∃ ca121 : Option Addr, ∃ cc122 : Nat, ∃ l120 : List T_frames_Op, ∃ l123 : List T_plunderref8_Op, .inl (l120, l123) = o125 ∧ ∃ j, Rep 258 (lk [(3, .slice va3 p3.length vc3), (10, .pointer (some ⟨Bn10, 0, none⟩)), (12, .pointer (some ⟨Bn19, 0, none⟩)), (14, .pointer (some ⟨Bn28, 0, none⟩)), (22, .slice ca118 l120.length cc119), (23, .slice ca121 l123.length cc122)] j) a ∧ Fit z (sepL (pts Bn10 (.cells #[.int .i64 S80.Most, .slice caq82 S80.Held.length ccq83, .bool true, .int .i64 S80.Actor, .slice caq84 S80.Book.length ccq85] 34) :: ro2 caq82 ccq83 S80.Held :: ro96 caq84 ccq85 S80.Book :: ob103 Bn19 S112 caq114 ccq115 caq116 ccq117 :: ro2 caq114 ccq115 S112.cell :: ro96 caq116 ccq117 S112.log :: ob103 Bn28 S98 caq100 ccq101 caq102 ccq103 :: ro2 caq100 ccq101 S98.cell :: ro96 caq102 ccq103 S98.log :: ro50 ca118 cc119 l120 :: ro78 ca121 cc122 l123 :: L)) w) ?_ ?_
      ·
        refine wp_seq ?_
        refine wp_region_lit ?_
        refine ov hr (.int .i64 0) (by kernel_rfl) ?_; clear hr a; intro a hr
        refine wpList_nil ?_
        refine then_normal ?_
        refine wp_block ?_
        replace hr := hr.fold2 [(2, .slice va2 p2.length vc2), (3, .slice va3 p3.length vc3), (10, .pointer (some ⟨Bn10, 0, none⟩)), (12, .pointer (some ⟨Bn19, 0, none⟩)), (14, .pointer (some ⟨Bn28, 0, none⟩)), (16, .pointer (some ⟨b86, 0, none⟩)), (18, .pointer (some ⟨b95, 0, none⟩)), (22, .slice none (([] : List T_frames_Op).length) 0), (23, .slice none (([] : List T_plunderref8_Op).length) 0), (24, .int .i64 0)] (by kernel_rfl); obtain ⟨j, hr⟩ := hr
        replace h : Fit z (sepL (rowOf 50 9 enc_T_frames_Op (.slice none 0 0) ([] : List T_frames_Op) :: pts Bn10 (.cells #[.int .i64 S80.Most, .slice caq82 S80.Held.length ccq83, .bool true, .int .i64 S80.Actor, .slice caq84 S80.Book.length ccq85] 34) :: ob103 Bn19 S112 caq114 ccq115 caq116 ccq117 :: ro2 caq114 ccq115 S112.cell :: ro96 caq116 ccq117 S112.log :: ro2 caq82 ccq83 S80.Held :: ro96 caq84 ccq85 S80.Book :: ob103 Bn28 S98 caq100 ccq101 caq102 ccq103 :: ro2 caq100 ccq101 S98.cell :: ro96 caq102 ccq103 S98.log :: ob36 b86 r78 :: ob39 b95 r87 :: L)) _ := h.row_nil
        replace h : Fit z (sepL (rowOf 78 9 enc_T_plunderref8_Op (.slice none 0 0) ([] : List T_plunderref8_Op) :: rowOf 50 9 enc_T_frames_Op (.slice none 0 0) ([] : List T_frames_Op) :: pts Bn10 (.cells #[.int .i64 S80.Most, .slice caq82 S80.Held.length ccq83, .bool true, .int .i64 S80.Actor, .slice caq84 S80.Book.length ccq85] 34) :: ob103 Bn19 S112 caq114 ccq115 caq116 ccq117 :: ro2 caq114 ccq115 S112.cell :: ro96 caq116 ccq117 S112.log :: ro2 caq82 ccq83 S80.Held :: ro96 caq84 ccq85 S80.Book :: ob103 Bn28 S98 caq100 ccq101 caq102 ccq103 :: ro2 caq100 ccq101 S98.cell :: ro96 caq102 ccq103 S98.log :: ob36 b86 r78 :: ob39 b95 r87 :: L)) _ := h.row_nil
        replace h : Fit z (sepL (pts Bn10 (.cells #[.int .i64 S80.Most, .slice caq82 S80.Held.length ccq83, .bool true, .int .i64 S80.Actor, .slice caq84 S80.Book.length ccq85] 34) :: ro2 caq82 ccq83 S80.Held :: ro96 caq84 ccq85 S80.Book :: ob103 Bn19 S112 caq114 ccq115 caq116 ccq117 :: ro2 caq114 ccq115 S112.cell :: ro96 caq116 ccq117 S112.log :: ob103 Bn28 S98 caq100 ccq101 caq102 ccq103 :: ro2 caq100 ccq101 S98.cell :: ro96 caq102 ccq103 S98.log :: ob36 b86 r78 :: ob39 b95 r87 :: rowOf 50 9 enc_T_frames_Op (.slice none (([] : List T_frames_Op).length) 0) ([] : List T_frames_Op) :: rowOf 78 9 enc_T_plunderref8_Op (.slice none (([] : List T_plunderref8_Op).length) 0) ([] : List T_plunderref8_Op) :: L)) _ := h.sel 13 [2, 6, 7, 3, 4, 5, 8, 9, 10, 11, 12, 1, 0] (by kernel_rfl) (by kernel_rfl)
        refine loop_rule (β := Nat) id (fun m a w => ∃ ca126 : Option Addr, ∃ cc127 : Nat, ∃ ca129 : Option Addr, ∃ cc130 : Nat, ∃ l128 : List T_frames_Op, ∃ l131 : List T_plunderref8_Op, ∃ g132 : Int, (plunderlaw8_FramesSteps_l1 K p2 r78 r87 m l128 l131 g132) = some o125 ∧ ∃ j, Rep 258 (lk [(2, .slice va2 p2.length vc2), (3, .slice va3 p3.length vc3), (10, .pointer (some ⟨Bn10, 0, none⟩)), (12, .pointer (some ⟨Bn19, 0, none⟩)), (14, .pointer (some ⟨Bn28, 0, none⟩)), (16, .pointer (some ⟨b86, 0, none⟩)), (18, .pointer (some ⟨b95, 0, none⟩)), (22, .slice ca126 l128.length cc127), (23, .slice ca129 l131.length cc130), (24, .int .i64 g132)] j) a ∧ Fit z (sepL (pts Bn10 (.cells #[.int .i64 S80.Most, .slice caq82 S80.Held.length ccq83, .bool true, .int .i64 S80.Actor, .slice caq84 S80.Book.length ccq85] 34) :: ro2 caq82 ccq83 S80.Held :: ro96 caq84 ccq85 S80.Book :: ob103 Bn19 S112 caq114 ccq115 caq116 ccq117 :: ro2 caq114 ccq115 S112.cell :: ro96 caq116 ccq117 S112.log :: ob103 Bn28 S98 caq100 ccq101 caq102 ccq103 :: ro2 caq100 ccq101 S98.cell :: ro96 caq102 ccq103 S98.log :: ob36 b86 r78 :: ob39 b95 r87 :: ro50 ca126 cc127 l128 :: ro78 ca129 cc130 l131 :: L)) w) K ⟨none, 0, none, 0, ([] : List T_frames_Op), ([] : List T_plunderref8_Op), 0, H, j, hr, h⟩ ?_
        clear h hr a H; rintro k1 a w ⟨ca126, cc127, ca129, cc130, l128, l131, g132, H, j, hr, h⟩
        cases k1 with
        | zero => exact absurd H (by simp [plunderlaw8_FramesSteps_l1])
        | succ k1 =>
          rw [plunderlaw8_FramesSteps_l1] at H
          refine wp_seq ?_
          refine wp_seq ?_
          refine wp_region_lit ?_
          refine ovs [130, 131, 132, 133] [.int .i64 g132, .slice va2 p2.length vc2, .int .i64 ((p2.length : Nat) : Int), .bool (decide (g132 < ((p2.length : Nat) : Int)))] hr ⟨rfl, rfl⟩ (by kernel_rfl) ?_; clear hr a; intro a hr
          refine wpList_nil ?_
          refine then_normal ?_
          by_cases c133 : g132 < ((p2.length : Nat) : Int)
          ·
            replace H := ifT c133 H
            refine cond_tt hr (b := (decide (g132 < ((p2.length : Nat) : Int)))) (decide_eq_true c133) ?_
            refine wp_skip ?_
            refine then_normal ?_
            refine wp_seq ?_
            refine wp_block ?_
            refine wp_seq ?_
            replace H := gd H; obtain ⟨c134, H⟩ := H
            replace H := bd1 H; obtain ⟨r135, e136, H⟩ := H
            replace H := gd H; obtain ⟨c140, H⟩ := H
            refine reg_E (fun w => heldC w b95 0 [.int .i64 r87.Base, .int .i64 r87.Frames] ∧ heldC w (blk va2) (offs va2 + g132.toNat * 7) [.int .i64 ((at_ p2 g132.toNat).Kind), .int .i64 ((at_ p2 g132.toNat).Frame), .int .i64 ((at_ p2 g132.toNat).Slot), .int .i64 ((at_ p2 g132.toNat).V), .bool ((at_ p2 g132.toNat).Odd), .int .i64 ((at_ p2 g132.toNat).Base), .int .i64 ((at_ p2 g132.toNat).Frames)] ∧ True) [4] h (by kernel_rfl) ?_; intro w h
            change wpAnyE _ _ _ _ _ _ 10 (Array.replicate 10 false) a w
            have hgo : ∀ w w', CellsGo w w' → (heldC w b95 0 [.int .i64 r87.Base, .int .i64 r87.Frames] ∧ heldC w (blk va2) (offs va2 + g132.toNat * 7) [.int .i64 ((at_ p2 g132.toNat).Kind), .int .i64 ((at_ p2 g132.toNat).Frame), .int .i64 ((at_ p2 g132.toNat).Slot), .int .i64 ((at_ p2 g132.toNat).V), .bool ((at_ p2 g132.toNat).Odd), .int .i64 ((at_ p2 g132.toNat).Base), .int .i64 ((at_ p2 g132.toNat).Frames)] ∧ True) → heldC w' b95 0 [.int .i64 r87.Base, .int .i64 r87.Frames] ∧ heldC w' (blk va2) (offs va2 + g132.toNat * 7) [.int .i64 ((at_ p2 g132.toNat).Kind), .int .i64 ((at_ p2 g132.toNat).Frame), .int .i64 ((at_ p2 g132.toNat).Slot), .int .i64 ((at_ p2 g132.toNat).V), .bool ((at_ p2 g132.toNat).Odd), .int .i64 ((at_ p2 g132.toNat).Base), .int .i64 ((at_ p2 g132.toNat).Frames)] ∧ True := fun w w' g hD => ⟨heldC_go _ _ _ _ _ g hD.1, heldC_go _ _ _ _ _ g hD.2.1, trivial⟩
            refine ev 9 0 rfl (by kernel_rfl) (wn rfl) hr (.slice ca126 l128.length cc127) (fun w => by kernel_rfl) ?_; clear hr a; intro a hr
            refine ev 8 2 rfl (by kernel_rfl) (wn rfl) hr (.slice va2 p2.length vc2) (fun w => by kernel_rfl) ?_; clear hr a; intro a hr
            refine ev 7 3 rfl (by kernel_rfl) (wn rfl) hr (.int .i64 g132) (fun w => by kernel_rfl) ?_; clear hr a; intro a hr
            refine evD hgo ⟨⟨(h.pick 10).cell 0 rfl, (h.pick 10).cell 1 rfl, trivial⟩, ⟨hv2.cell c134 (h.dn 13) 0 rfl, hv2.cell c134 (h.dn 13) 1 rfl, hv2.cell c134 (h.dn 13) 2 rfl, hv2.cell c134 (h.dn 13) 3 rfl, hv2.cell c134 (h.dn 13) 4 rfl, hv2.cell c134 (h.dn 13) 5 rfl, hv2.cell c134 (h.dn 13) 6 rfl, trivial⟩, trivial⟩ 6 4 rfl (by kernel_rfl) (wn rfl) hr (.pointer (some ⟨blk va2, offs va2 + g132.toNat * 7, none⟩)) (fun w => ri_rd (k := .i64) (E := 76) (cc := vc2) rfl (by kernel_rfl) (by kernel_rfl) rfl (by kernel_rfl) (by kernel_rfl) hv2 c134) ?_; clear hr a; intro a hr
            refine el [4] (b := b95) (off := 0) (cs := [.int .i64 r87.Base, .int .i64 r87.Frames]) (fun _ hk => ⟨hk, fun w hD => hD.1⟩) 5 1 rfl (by kernel_rfl) (wn rfl) hr (.agg #[.int .i64 r87.Base, .int .i64 r87.Frames]) ⟨(h.pick 10).cell 0 rfl, (h.pick 10).cell 1 rfl, trivial⟩ (fun w hc => rlm (cs := [.int .i64 r87.Base, .int .i64 r87.Frames]) rfl (by kernel_rfl) (by kernel_rfl) (by kernel_rfl) hc) ?_; clear hr a; intro a hr
            refine el [4] (b := blk va2) (off := offs va2 + g132.toNat * 7) (cs := [.int .i64 ((at_ p2 g132.toNat).Kind), .int .i64 ((at_ p2 g132.toNat).Frame), .int .i64 ((at_ p2 g132.toNat).Slot), .int .i64 ((at_ p2 g132.toNat).V), .bool ((at_ p2 g132.toNat).Odd), .int .i64 ((at_ p2 g132.toNat).Base), .int .i64 ((at_ p2 g132.toNat).Frames)]) (fun _ hk => ⟨hk, fun w hD => hD.2.1⟩) 4 5 rfl (by kernel_rfl) (wn rfl) hr (.agg #[.int .i64 ((at_ p2 g132.toNat).Kind), .int .i64 ((at_ p2 g132.toNat).Frame), .int .i64 ((at_ p2 g132.toNat).Slot), .int .i64 ((at_ p2 g132.toNat).V), .bool ((at_ p2 g132.toNat).Odd), .int .i64 ((at_ p2 g132.toNat).Base), .int .i64 ((at_ p2 g132.toNat).Frames)]) ⟨hv2.cell c134 (h.dn 13) 0 rfl, hv2.cell c134 (h.dn 13) 1 rfl, hv2.cell c134 (h.dn 13) 2 rfl, hv2.cell c134 (h.dn 13) 3 rfl, hv2.cell c134 (h.dn 13) 4 rfl, hv2.cell c134 (h.dn 13) 5 rfl, hv2.cell c134 (h.dn 13) 6 rfl, trivial⟩ (fun w hc => rlm (cs := [.int .i64 ((at_ p2 g132.toNat).Kind), .int .i64 ((at_ p2 g132.toNat).Frame), .int .i64 ((at_ p2 g132.toNat).Slot), .int .i64 ((at_ p2 g132.toNat).V), .bool ((at_ p2 g132.toNat).Odd), .int .i64 ((at_ p2 g132.toNat).Base), .int .i64 ((at_ p2 g132.toNat).Frames)]) rfl (by kernel_rfl) (by kernel_rfl) (by kernel_rfl) hc) ?_; clear hr a; intro a hr
            refine e_one (fuel := 3) (i := 6) (by kernel_rfl) rfl ?_
            have hc := plunderlaw8_begin_ok (H := e136) (h := h)
            refine op_call (wn rfl) rfl rfl hr (f := 36) (args := #[.agg #[.int .i64 r87.Base, .int .i64 r87.Frames], .agg #[.int .i64 ((at_ p2 g132.toNat).Kind), .int .i64 ((at_ p2 g132.toNat).Frame), .int .i64 ((at_ p2 g132.toNat).Slot), .int .i64 ((at_ p2 g132.toNat).V), .bool ((at_ p2 g132.toNat).Odd), .int .i64 ((at_ p2 g132.toNat).Base), .int .i64 ((at_ p2 g132.toNat).Frames)]]) (by kernel_rfl) hc ?_; clear hc h
            rintro _ w ⟨rfl, h⟩; refine ⟨_, rfl, ?_⟩
            clear hr a; intro a hr
            refine wpList_nil ?_; refine then_normal ?_
            refine ⟨fun hE => absurd hE (by decide), ?_⟩
            refine e_one (fuel := 2) (i := 7) (by kernel_rfl) rfl ?_
            refine op_new (wn rfl) rfl rfl hr h (vf := fun b => .slice (some ⟨b, 0, none⟩) 1 1) (cs := #[.int .i64 r135.head_t_Base, .int .i64 r135.head_t_Frames, .int .i64 r135.head_frame, .int .i64 r135.head_stands, .int .i64 r135.head_code, .int .i64 r135.head_v, .int .i64 r135.kind, .int .i64 r135.slot, .int .i64 r135.give]) (T := 50) (by kernel_rfl) ?_; clear h hr a; intro b137 w a h hr
            refine wpList_nil ?_; refine then_normal ?_
            refine ⟨fun hE => absurd hE (by decide), ?_⟩
            refine e_one (fuel := 1) (i := 8) (by kernel_rfl) rfl ?_
            replace h : Fit z (sepL (ro50 ca126 cc127 l128 :: ob50 b137 r135 :: pts Bn10 (.cells #[.int .i64 S80.Most, .slice caq82 S80.Held.length ccq83, .bool true, .int .i64 S80.Actor, .slice caq84 S80.Book.length ccq85] 34) :: ro2 caq82 ccq83 S80.Held :: ro96 caq84 ccq85 S80.Book :: ob103 Bn19 S112 caq114 ccq115 caq116 ccq117 :: ro2 caq114 ccq115 S112.cell :: ro96 caq116 ccq117 S112.log :: ob103 Bn28 S98 caq100 ccq101 caq102 ccq103 :: ro2 caq100 ccq101 S98.cell :: ro96 caq102 ccq103 S98.log :: ob36 b86 r78 :: ob39 b95 r87 :: ro78 ca129 cc130 l131 :: L)) _ := h.sel 14 [12, 0, 1, 2, 3, 4, 5, 6, 7, 8, 9, 10, 11, 13] (by kernel_rfl) (by kernel_rfl)
            refine op_append (n0 := l128.length) (c := 1) (bytes := 72) (wn rfl) rfl rfl hr rfl (by kernel_rfl) (by kernel_rfl) enc_T_frames_Op_ok (E := 50) (xs := l128) (by kernel_rfl) (by kernel_rfl) h (news := [r135]) (m := 1) rfl ((h.pick 1).news rfl) c140 rfl ?_; clear h hr a; intro ca138 cc139 w a h hr
            refine wpList_nil ?_; refine then_normal ?_
            replace h : Fit z (sepL (ro50 ca138 cc139 (l128 ++ [r135]) :: ob50 b137 r135 :: pts Bn10 (.cells #[.int .i64 S80.Most, .slice caq82 S80.Held.length ccq83, .bool true, .int .i64 S80.Actor, .slice caq84 S80.Book.length ccq85] 34) :: ro2 caq82 ccq83 S80.Held :: ro96 caq84 ccq85 S80.Book :: ob103 Bn19 S112 caq114 ccq115 caq116 ccq117 :: ro2 caq114 ccq115 S112.cell :: ro96 caq116 ccq117 S112.log :: ob103 Bn28 S98 caq100 ccq101 caq102 ccq103 :: ro2 caq100 ccq101 S98.cell :: ro96 caq102 ccq103 S98.log :: ob36 b86 r78 :: ob39 b95 r87 :: ro78 ca129 cc130 l131 :: L)) _ := h
            refine ⟨fun hE => absurd hE (by decide), ?_⟩
            refine ev 0 9 rfl (by kernel_rfl) (wn rfl) hr (.slice ca138 ((l128 ++ [r135]).length) cc139) (fun w => by kernel_rfl) ?_; clear hr a; intro a hr
            refine e_end (by kernel_rfl) ?_
            refine then_normal ?_
            refine wp_seq ?_
            replace H := bd1 H; obtain ⟨r141, e142, H⟩ := H
            replace H := gd H; obtain ⟨c146, H⟩ := H
            refine reg_E (fun w => heldC w b86 0 [.int .i64 r78.Base, .int .i64 r78.Frames] ∧ heldC w (blk va2) (offs va2 + g132.toNat * 7) [.int .i64 ((at_ p2 g132.toNat).Kind), .int .i64 ((at_ p2 g132.toNat).Frame), .int .i64 ((at_ p2 g132.toNat).Slot), .int .i64 ((at_ p2 g132.toNat).V), .bool ((at_ p2 g132.toNat).Odd), .int .i64 ((at_ p2 g132.toNat).Base), .int .i64 ((at_ p2 g132.toNat).Frames)] ∧ True) [4] h (by kernel_rfl) ?_; intro w h
            change wpAnyE _ _ _ _ _ _ 10 (Array.replicate 10 false) a w
            have hgo : ∀ w w', CellsGo w w' → (heldC w b86 0 [.int .i64 r78.Base, .int .i64 r78.Frames] ∧ heldC w (blk va2) (offs va2 + g132.toNat * 7) [.int .i64 ((at_ p2 g132.toNat).Kind), .int .i64 ((at_ p2 g132.toNat).Frame), .int .i64 ((at_ p2 g132.toNat).Slot), .int .i64 ((at_ p2 g132.toNat).V), .bool ((at_ p2 g132.toNat).Odd), .int .i64 ((at_ p2 g132.toNat).Base), .int .i64 ((at_ p2 g132.toNat).Frames)] ∧ True) → heldC w' b86 0 [.int .i64 r78.Base, .int .i64 r78.Frames] ∧ heldC w' (blk va2) (offs va2 + g132.toNat * 7) [.int .i64 ((at_ p2 g132.toNat).Kind), .int .i64 ((at_ p2 g132.toNat).Frame), .int .i64 ((at_ p2 g132.toNat).Slot), .int .i64 ((at_ p2 g132.toNat).V), .bool ((at_ p2 g132.toNat).Odd), .int .i64 ((at_ p2 g132.toNat).Base), .int .i64 ((at_ p2 g132.toNat).Frames)] ∧ True := fun w w' g hD => ⟨heldC_go _ _ _ _ _ g hD.1, heldC_go _ _ _ _ _ g hD.2.1, trivial⟩
            refine ev 9 0 rfl (by kernel_rfl) (wn rfl) hr (.slice ca129 l131.length cc130) (fun w => by kernel_rfl) ?_; clear hr a; intro a hr
            refine ev 8 2 rfl (by kernel_rfl) (wn rfl) hr (.slice va2 p2.length vc2) (fun w => by kernel_rfl) ?_; clear hr a; intro a hr
            refine ev 7 3 rfl (by kernel_rfl) (wn rfl) hr (.int .i64 g132) (fun w => by kernel_rfl) ?_; clear hr a; intro a hr
            refine evD hgo ⟨⟨(h.pick 11).cell 0 rfl, (h.pick 11).cell 1 rfl, trivial⟩, ⟨hv2.cell c134 (h.dn 14) 0 rfl, hv2.cell c134 (h.dn 14) 1 rfl, hv2.cell c134 (h.dn 14) 2 rfl, hv2.cell c134 (h.dn 14) 3 rfl, hv2.cell c134 (h.dn 14) 4 rfl, hv2.cell c134 (h.dn 14) 5 rfl, hv2.cell c134 (h.dn 14) 6 rfl, trivial⟩, trivial⟩ 6 4 rfl (by kernel_rfl) (wn rfl) hr (.pointer (some ⟨blk va2, offs va2 + g132.toNat * 7, none⟩)) (fun w => ri_rd (k := .i64) (E := 76) (cc := vc2) rfl (by kernel_rfl) (by kernel_rfl) rfl (by kernel_rfl) (by kernel_rfl) hv2 c134) ?_; clear hr a; intro a hr
            refine el [4] (b := b86) (off := 0) (cs := [.int .i64 r78.Base, .int .i64 r78.Frames]) (fun _ hk => ⟨hk, fun w hD => hD.1⟩) 5 1 rfl (by kernel_rfl) (wn rfl) hr (.agg #[.int .i64 r78.Base, .int .i64 r78.Frames]) ⟨(h.pick 11).cell 0 rfl, (h.pick 11).cell 1 rfl, trivial⟩ (fun w hc => rlm (cs := [.int .i64 r78.Base, .int .i64 r78.Frames]) rfl (by kernel_rfl) (by kernel_rfl) (by kernel_rfl) hc) ?_; clear hr a; intro a hr
            refine el [4] (b := blk va2) (off := offs va2 + g132.toNat * 7) (cs := [.int .i64 ((at_ p2 g132.toNat).Kind), .int .i64 ((at_ p2 g132.toNat).Frame), .int .i64 ((at_ p2 g132.toNat).Slot), .int .i64 ((at_ p2 g132.toNat).V), .bool ((at_ p2 g132.toNat).Odd), .int .i64 ((at_ p2 g132.toNat).Base), .int .i64 ((at_ p2 g132.toNat).Frames)]) (fun _ hk => ⟨hk, fun w hD => hD.2.1⟩) 4 5 rfl (by kernel_rfl) (wn rfl) hr (.agg #[.int .i64 ((at_ p2 g132.toNat).Kind), .int .i64 ((at_ p2 g132.toNat).Frame), .int .i64 ((at_ p2 g132.toNat).Slot), .int .i64 ((at_ p2 g132.toNat).V), .bool ((at_ p2 g132.toNat).Odd), .int .i64 ((at_ p2 g132.toNat).Base), .int .i64 ((at_ p2 g132.toNat).Frames)]) ⟨hv2.cell c134 (h.dn 14) 0 rfl, hv2.cell c134 (h.dn 14) 1 rfl, hv2.cell c134 (h.dn 14) 2 rfl, hv2.cell c134 (h.dn 14) 3 rfl, hv2.cell c134 (h.dn 14) 4 rfl, hv2.cell c134 (h.dn 14) 5 rfl, hv2.cell c134 (h.dn 14) 6 rfl, trivial⟩ (fun w hc => rlm (cs := [.int .i64 ((at_ p2 g132.toNat).Kind), .int .i64 ((at_ p2 g132.toNat).Frame), .int .i64 ((at_ p2 g132.toNat).Slot), .int .i64 ((at_ p2 g132.toNat).V), .bool ((at_ p2 g132.toNat).Odd), .int .i64 ((at_ p2 g132.toNat).Base), .int .i64 ((at_ p2 g132.toNat).Frames)]) rfl (by kernel_rfl) (by kernel_rfl) (by kernel_rfl) hc) ?_; clear hr a; intro a hr
            refine e_one (fuel := 3) (i := 6) (by kernel_rfl) rfl ?_
            have hc := plunderlaw8_beginRef_ok (H := e142) (h := h)
            refine op_call (wn rfl) rfl rfl hr (f := 37) (args := #[.agg #[.int .i64 r78.Base, .int .i64 r78.Frames], .agg #[.int .i64 ((at_ p2 g132.toNat).Kind), .int .i64 ((at_ p2 g132.toNat).Frame), .int .i64 ((at_ p2 g132.toNat).Slot), .int .i64 ((at_ p2 g132.toNat).V), .bool ((at_ p2 g132.toNat).Odd), .int .i64 ((at_ p2 g132.toNat).Base), .int .i64 ((at_ p2 g132.toNat).Frames)]]) (by kernel_rfl) hc ?_; clear hc h
            rintro _ w ⟨rfl, h⟩; refine ⟨_, rfl, ?_⟩
            clear hr a; intro a hr
            refine wpList_nil ?_; refine then_normal ?_
            refine ⟨fun hE => absurd hE (by decide), ?_⟩
            refine e_one (fuel := 2) (i := 7) (by kernel_rfl) rfl ?_
            refine op_new (wn rfl) rfl rfl hr h (vf := fun b => .slice (some ⟨b, 0, none⟩) 1 1) (cs := #[.int .i64 r141.Kind, .int .i64 r141.Join, .int .i64 r141.Cell, .int .i64 r141.V, .int .i64 r141.Next, .int .i64 r141.Frames, .int .i64 r141.Made, .int .i64 r141.Code, .int .i64 r141.Came]) (T := 78) (by kernel_rfl) ?_; clear h hr a; intro b143 w a h hr
            refine wpList_nil ?_; refine then_normal ?_
            refine ⟨fun hE => absurd hE (by decide), ?_⟩
            refine e_one (fuel := 1) (i := 8) (by kernel_rfl) rfl ?_
            replace h : Fit z (sepL (ro78 ca129 cc130 l131 :: ob78 b143 r141 :: ro50 ca138 cc139 (l128 ++ [r135]) :: ob50 b137 r135 :: pts Bn10 (.cells #[.int .i64 S80.Most, .slice caq82 S80.Held.length ccq83, .bool true, .int .i64 S80.Actor, .slice caq84 S80.Book.length ccq85] 34) :: ro2 caq82 ccq83 S80.Held :: ro96 caq84 ccq85 S80.Book :: ob103 Bn19 S112 caq114 ccq115 caq116 ccq117 :: ro2 caq114 ccq115 S112.cell :: ro96 caq116 ccq117 S112.log :: ob103 Bn28 S98 caq100 ccq101 caq102 ccq103 :: ro2 caq100 ccq101 S98.cell :: ro96 caq102 ccq103 S98.log :: ob36 b86 r78 :: ob39 b95 r87 :: L)) _ := h.sel 15 [14, 0, 1, 2, 3, 4, 5, 6, 7, 8, 9, 10, 11, 12, 13] (by kernel_rfl) (by kernel_rfl)
            refine op_append (n0 := l131.length) (c := 1) (bytes := 72) (wn rfl) rfl rfl hr rfl (by kernel_rfl) (by kernel_rfl) enc_T_plunderref8_Op_ok (E := 78) (xs := l131) (by kernel_rfl) (by kernel_rfl) h (news := [r141]) (m := 1) rfl ((h.pick 1).news rfl) c146 rfl ?_; clear h hr a; intro ca144 cc145 w a h hr
            refine wpList_nil ?_; refine then_normal ?_
            replace h : Fit z (sepL (ro78 ca144 cc145 (l131 ++ [r141]) :: ob78 b143 r141 :: ro50 ca138 cc139 (l128 ++ [r135]) :: ob50 b137 r135 :: pts Bn10 (.cells #[.int .i64 S80.Most, .slice caq82 S80.Held.length ccq83, .bool true, .int .i64 S80.Actor, .slice caq84 S80.Book.length ccq85] 34) :: ro2 caq82 ccq83 S80.Held :: ro96 caq84 ccq85 S80.Book :: ob103 Bn19 S112 caq114 ccq115 caq116 ccq117 :: ro2 caq114 ccq115 S112.cell :: ro96 caq116 ccq117 S112.log :: ob103 Bn28 S98 caq100 ccq101 caq102 ccq103 :: ro2 caq100 ccq101 S98.cell :: ro96 caq102 ccq103 S98.log :: ob36 b86 r78 :: ob39 b95 r87 :: L)) _ := h
            refine ⟨fun hE => absurd hE (by decide), ?_⟩
            refine ev 0 9 rfl (by kernel_rfl) (wn rfl) hr (.slice ca144 ((l131 ++ [r141]).length) cc145) (fun w => by kernel_rfl) ?_; clear hr a; intro a hr
            refine e_end (by kernel_rfl) ?_
            refine then_normal ?_
            refine wp_seq ?_
            replace H := gd H; obtain ⟨c147, H⟩ := H
            replace H := gd H; obtain ⟨c148, H⟩ := H
            replace H := bd1 H; obtain ⟨r149, e150, H⟩ := H
            refine reg_E (fun w => heldC w (blk ca138) (g132.toNat * 9) [.int .i64 ((at_ (l128 ++ [r135]) g132.toNat).head_t_Base), .int .i64 ((at_ (l128 ++ [r135]) g132.toNat).head_t_Frames), .int .i64 ((at_ (l128 ++ [r135]) g132.toNat).head_frame), .int .i64 ((at_ (l128 ++ [r135]) g132.toNat).head_stands), .int .i64 ((at_ (l128 ++ [r135]) g132.toNat).head_code), .int .i64 ((at_ (l128 ++ [r135]) g132.toNat).head_v), .int .i64 ((at_ (l128 ++ [r135]) g132.toNat).kind), .int .i64 ((at_ (l128 ++ [r135]) g132.toNat).slot), .int .i64 ((at_ (l128 ++ [r135]) g132.toNat).give)] ∧ heldC w (blk ca144) (g132.toNat * 9) [.int .i64 ((at_ (l131 ++ [r141]) g132.toNat).Kind), .int .i64 ((at_ (l131 ++ [r141]) g132.toNat).Join), .int .i64 ((at_ (l131 ++ [r141]) g132.toNat).Cell), .int .i64 ((at_ (l131 ++ [r141]) g132.toNat).V), .int .i64 ((at_ (l131 ++ [r141]) g132.toNat).Next), .int .i64 ((at_ (l131 ++ [r141]) g132.toNat).Frames), .int .i64 ((at_ (l131 ++ [r141]) g132.toNat).Made), .int .i64 ((at_ (l131 ++ [r141]) g132.toNat).Code), .int .i64 ((at_ (l131 ++ [r141]) g132.toNat).Came)] ∧ True) [2, 6] h (by kernel_rfl) ?_; intro w h
            change wpAnyE _ _ _ _ _ _ 10 (Array.replicate 10 false) a w
            have hgo : ∀ w w', CellsGo w w' → (heldC w (blk ca138) (g132.toNat * 9) [.int .i64 ((at_ (l128 ++ [r135]) g132.toNat).head_t_Base), .int .i64 ((at_ (l128 ++ [r135]) g132.toNat).head_t_Frames), .int .i64 ((at_ (l128 ++ [r135]) g132.toNat).head_frame), .int .i64 ((at_ (l128 ++ [r135]) g132.toNat).head_stands), .int .i64 ((at_ (l128 ++ [r135]) g132.toNat).head_code), .int .i64 ((at_ (l128 ++ [r135]) g132.toNat).head_v), .int .i64 ((at_ (l128 ++ [r135]) g132.toNat).kind), .int .i64 ((at_ (l128 ++ [r135]) g132.toNat).slot), .int .i64 ((at_ (l128 ++ [r135]) g132.toNat).give)] ∧ heldC w (blk ca144) (g132.toNat * 9) [.int .i64 ((at_ (l131 ++ [r141]) g132.toNat).Kind), .int .i64 ((at_ (l131 ++ [r141]) g132.toNat).Join), .int .i64 ((at_ (l131 ++ [r141]) g132.toNat).Cell), .int .i64 ((at_ (l131 ++ [r141]) g132.toNat).V), .int .i64 ((at_ (l131 ++ [r141]) g132.toNat).Next), .int .i64 ((at_ (l131 ++ [r141]) g132.toNat).Frames), .int .i64 ((at_ (l131 ++ [r141]) g132.toNat).Made), .int .i64 ((at_ (l131 ++ [r141]) g132.toNat).Code), .int .i64 ((at_ (l131 ++ [r141]) g132.toNat).Came)] ∧ True) → heldC w' (blk ca138) (g132.toNat * 9) [.int .i64 ((at_ (l128 ++ [r135]) g132.toNat).head_t_Base), .int .i64 ((at_ (l128 ++ [r135]) g132.toNat).head_t_Frames), .int .i64 ((at_ (l128 ++ [r135]) g132.toNat).head_frame), .int .i64 ((at_ (l128 ++ [r135]) g132.toNat).head_stands), .int .i64 ((at_ (l128 ++ [r135]) g132.toNat).head_code), .int .i64 ((at_ (l128 ++ [r135]) g132.toNat).head_v), .int .i64 ((at_ (l128 ++ [r135]) g132.toNat).kind), .int .i64 ((at_ (l128 ++ [r135]) g132.toNat).slot), .int .i64 ((at_ (l128 ++ [r135]) g132.toNat).give)] ∧ heldC w' (blk ca144) (g132.toNat * 9) [.int .i64 ((at_ (l131 ++ [r141]) g132.toNat).Kind), .int .i64 ((at_ (l131 ++ [r141]) g132.toNat).Join), .int .i64 ((at_ (l131 ++ [r141]) g132.toNat).Cell), .int .i64 ((at_ (l131 ++ [r141]) g132.toNat).V), .int .i64 ((at_ (l131 ++ [r141]) g132.toNat).Next), .int .i64 ((at_ (l131 ++ [r141]) g132.toNat).Frames), .int .i64 ((at_ (l131 ++ [r141]) g132.toNat).Made), .int .i64 ((at_ (l131 ++ [r141]) g132.toNat).Code), .int .i64 ((at_ (l131 ++ [r141]) g132.toNat).Came)] ∧ True := fun w w' g hD => ⟨heldC_go _ _ _ _ _ g hD.1, heldC_go _ _ _ _ _ g hD.2.1, trivial⟩
            refine ev 9 0 rfl (by kernel_rfl) (wn rfl) hr (.slice ca138 ((l128 ++ [r135]).length) cc139) (fun w => by kernel_rfl) ?_; clear hr a; intro a hr
            refine ev 8 1 rfl (by kernel_rfl) (wn rfl) hr (.int .i64 g132) (fun w => by kernel_rfl) ?_; clear hr a; intro a hr
            refine evD hgo ⟨⟨(h.pick 2).row_cell enc_T_frames_Op_ok (f := 0) (at_ok c147) rfl, (h.pick 2).row_cell enc_T_frames_Op_ok (f := 1) (at_ok c147) rfl, (h.pick 2).row_cell enc_T_frames_Op_ok (f := 2) (at_ok c147) rfl, (h.pick 2).row_cell enc_T_frames_Op_ok (f := 3) (at_ok c147) rfl, (h.pick 2).row_cell enc_T_frames_Op_ok (f := 4) (at_ok c147) rfl, (h.pick 2).row_cell enc_T_frames_Op_ok (f := 5) (at_ok c147) rfl, (h.pick 2).row_cell enc_T_frames_Op_ok (f := 6) (at_ok c147) rfl, (h.pick 2).row_cell enc_T_frames_Op_ok (f := 7) (at_ok c147) rfl, (h.pick 2).row_cell enc_T_frames_Op_ok (f := 8) (at_ok c147) rfl, trivial⟩, ⟨h.row_cell enc_T_plunderref8_Op_ok (f := 0) (at_ok c148) rfl, h.row_cell enc_T_plunderref8_Op_ok (f := 1) (at_ok c148) rfl, h.row_cell enc_T_plunderref8_Op_ok (f := 2) (at_ok c148) rfl, h.row_cell enc_T_plunderref8_Op_ok (f := 3) (at_ok c148) rfl, h.row_cell enc_T_plunderref8_Op_ok (f := 4) (at_ok c148) rfl, h.row_cell enc_T_plunderref8_Op_ok (f := 5) (at_ok c148) rfl, h.row_cell enc_T_plunderref8_Op_ok (f := 6) (at_ok c148) rfl, h.row_cell enc_T_plunderref8_Op_ok (f := 7) (at_ok c148) rfl, h.row_cell enc_T_plunderref8_Op_ok (f := 8) (at_ok c148) rfl, trivial⟩, trivial⟩ 7 2 rfl (by kernel_rfl) (wn rfl) hr (.pointer (some ⟨blk ca138, g132.toNat * 9, none⟩)) (fun w => ri_row (k := .i64) (E := 50) rfl (by kernel_rfl) (by kernel_rfl) (by kernel_rfl) (by kernel_rfl) (h.pick 2) c147) ?_; clear hr a; intro a hr
            refine ev 6 4 rfl (by kernel_rfl) (wn rfl) hr (.slice ca144 ((l131 ++ [r141]).length) cc145) (fun w => by kernel_rfl) ?_; clear hr a; intro a hr
            refine ev 5 5 rfl (by kernel_rfl) (wn rfl) hr (.int .i64 g132) (fun w => by kernel_rfl) ?_; clear hr a; intro a hr
            refine evD hgo ⟨⟨(h.pick 2).row_cell enc_T_frames_Op_ok (f := 0) (at_ok c147) rfl, (h.pick 2).row_cell enc_T_frames_Op_ok (f := 1) (at_ok c147) rfl, (h.pick 2).row_cell enc_T_frames_Op_ok (f := 2) (at_ok c147) rfl, (h.pick 2).row_cell enc_T_frames_Op_ok (f := 3) (at_ok c147) rfl, (h.pick 2).row_cell enc_T_frames_Op_ok (f := 4) (at_ok c147) rfl, (h.pick 2).row_cell enc_T_frames_Op_ok (f := 5) (at_ok c147) rfl, (h.pick 2).row_cell enc_T_frames_Op_ok (f := 6) (at_ok c147) rfl, (h.pick 2).row_cell enc_T_frames_Op_ok (f := 7) (at_ok c147) rfl, (h.pick 2).row_cell enc_T_frames_Op_ok (f := 8) (at_ok c147) rfl, trivial⟩, ⟨h.row_cell enc_T_plunderref8_Op_ok (f := 0) (at_ok c148) rfl, h.row_cell enc_T_plunderref8_Op_ok (f := 1) (at_ok c148) rfl, h.row_cell enc_T_plunderref8_Op_ok (f := 2) (at_ok c148) rfl, h.row_cell enc_T_plunderref8_Op_ok (f := 3) (at_ok c148) rfl, h.row_cell enc_T_plunderref8_Op_ok (f := 4) (at_ok c148) rfl, h.row_cell enc_T_plunderref8_Op_ok (f := 5) (at_ok c148) rfl, h.row_cell enc_T_plunderref8_Op_ok (f := 6) (at_ok c148) rfl, h.row_cell enc_T_plunderref8_Op_ok (f := 7) (at_ok c148) rfl, h.row_cell enc_T_plunderref8_Op_ok (f := 8) (at_ok c148) rfl, trivial⟩, trivial⟩ 4 6 rfl (by kernel_rfl) (wn rfl) hr (.pointer (some ⟨blk ca144, g132.toNat * 9, none⟩)) (fun w => ri_row (k := .i64) (E := 78) rfl (by kernel_rfl) (by kernel_rfl) (by kernel_rfl) (by kernel_rfl) h c148) ?_; clear hr a; intro a hr
            refine el [2, 6] (b := blk ca138) (off := g132.toNat * 9) (cs := [.int .i64 ((at_ (l128 ++ [r135]) g132.toNat).head_t_Base), .int .i64 ((at_ (l128 ++ [r135]) g132.toNat).head_t_Frames), .int .i64 ((at_ (l128 ++ [r135]) g132.toNat).head_frame), .int .i64 ((at_ (l128 ++ [r135]) g132.toNat).head_stands), .int .i64 ((at_ (l128 ++ [r135]) g132.toNat).head_code), .int .i64 ((at_ (l128 ++ [r135]) g132.toNat).head_v), .int .i64 ((at_ (l128 ++ [r135]) g132.toNat).kind), .int .i64 ((at_ (l128 ++ [r135]) g132.toNat).slot), .int .i64 ((at_ (l128 ++ [r135]) g132.toNat).give)]) (fun _ hk => ⟨hk, fun w hD => hD.1⟩) 3 3 rfl (by kernel_rfl) (wn rfl) hr (.agg #[.int .i64 ((at_ (l128 ++ [r135]) g132.toNat).head_t_Base), .int .i64 ((at_ (l128 ++ [r135]) g132.toNat).head_t_Frames), .int .i64 ((at_ (l128 ++ [r135]) g132.toNat).head_frame), .int .i64 ((at_ (l128 ++ [r135]) g132.toNat).head_stands), .int .i64 ((at_ (l128 ++ [r135]) g132.toNat).head_code), .int .i64 ((at_ (l128 ++ [r135]) g132.toNat).head_v), .int .i64 ((at_ (l128 ++ [r135]) g132.toNat).kind), .int .i64 ((at_ (l128 ++ [r135]) g132.toNat).slot), .int .i64 ((at_ (l128 ++ [r135]) g132.toNat).give)]) ⟨(h.pick 2).row_cell enc_T_frames_Op_ok (f := 0) (at_ok c147) rfl, (h.pick 2).row_cell enc_T_frames_Op_ok (f := 1) (at_ok c147) rfl, (h.pick 2).row_cell enc_T_frames_Op_ok (f := 2) (at_ok c147) rfl, (h.pick 2).row_cell enc_T_frames_Op_ok (f := 3) (at_ok c147) rfl, (h.pick 2).row_cell enc_T_frames_Op_ok (f := 4) (at_ok c147) rfl, (h.pick 2).row_cell enc_T_frames_Op_ok (f := 5) (at_ok c147) rfl, (h.pick 2).row_cell enc_T_frames_Op_ok (f := 6) (at_ok c147) rfl, (h.pick 2).row_cell enc_T_frames_Op_ok (f := 7) (at_ok c147) rfl, (h.pick 2).row_cell enc_T_frames_Op_ok (f := 8) (at_ok c147) rfl, trivial⟩ (fun w hc => rlm (cs := [.int .i64 ((at_ (l128 ++ [r135]) g132.toNat).head_t_Base), .int .i64 ((at_ (l128 ++ [r135]) g132.toNat).head_t_Frames), .int .i64 ((at_ (l128 ++ [r135]) g132.toNat).head_frame), .int .i64 ((at_ (l128 ++ [r135]) g132.toNat).head_stands), .int .i64 ((at_ (l128 ++ [r135]) g132.toNat).head_code), .int .i64 ((at_ (l128 ++ [r135]) g132.toNat).head_v), .int .i64 ((at_ (l128 ++ [r135]) g132.toNat).kind), .int .i64 ((at_ (l128 ++ [r135]) g132.toNat).slot), .int .i64 ((at_ (l128 ++ [r135]) g132.toNat).give)]) rfl (by kernel_rfl) (by kernel_rfl) (by kernel_rfl) hc) ?_; clear hr a; intro a hr
            refine el [2, 6] (b := blk ca144) (off := g132.toNat * 9) (cs := [.int .i64 ((at_ (l131 ++ [r141]) g132.toNat).Kind), .int .i64 ((at_ (l131 ++ [r141]) g132.toNat).Join), .int .i64 ((at_ (l131 ++ [r141]) g132.toNat).Cell), .int .i64 ((at_ (l131 ++ [r141]) g132.toNat).V), .int .i64 ((at_ (l131 ++ [r141]) g132.toNat).Next), .int .i64 ((at_ (l131 ++ [r141]) g132.toNat).Frames), .int .i64 ((at_ (l131 ++ [r141]) g132.toNat).Made), .int .i64 ((at_ (l131 ++ [r141]) g132.toNat).Code), .int .i64 ((at_ (l131 ++ [r141]) g132.toNat).Came)]) (fun _ hk => ⟨hk, fun w hD => hD.2.1⟩) 2 7 rfl (by kernel_rfl) (wn rfl) hr (.agg #[.int .i64 ((at_ (l131 ++ [r141]) g132.toNat).Kind), .int .i64 ((at_ (l131 ++ [r141]) g132.toNat).Join), .int .i64 ((at_ (l131 ++ [r141]) g132.toNat).Cell), .int .i64 ((at_ (l131 ++ [r141]) g132.toNat).V), .int .i64 ((at_ (l131 ++ [r141]) g132.toNat).Next), .int .i64 ((at_ (l131 ++ [r141]) g132.toNat).Frames), .int .i64 ((at_ (l131 ++ [r141]) g132.toNat).Made), .int .i64 ((at_ (l131 ++ [r141]) g132.toNat).Code), .int .i64 ((at_ (l131 ++ [r141]) g132.toNat).Came)]) ⟨h.row_cell enc_T_plunderref8_Op_ok (f := 0) (at_ok c148) rfl, h.row_cell enc_T_plunderref8_Op_ok (f := 1) (at_ok c148) rfl, h.row_cell enc_T_plunderref8_Op_ok (f := 2) (at_ok c148) rfl, h.row_cell enc_T_plunderref8_Op_ok (f := 3) (at_ok c148) rfl, h.row_cell enc_T_plunderref8_Op_ok (f := 4) (at_ok c148) rfl, h.row_cell enc_T_plunderref8_Op_ok (f := 5) (at_ok c148) rfl, h.row_cell enc_T_plunderref8_Op_ok (f := 6) (at_ok c148) rfl, h.row_cell enc_T_plunderref8_Op_ok (f := 7) (at_ok c148) rfl, h.row_cell enc_T_plunderref8_Op_ok (f := 8) (at_ok c148) rfl, trivial⟩ (fun w hc => rlm (cs := [.int .i64 ((at_ (l131 ++ [r141]) g132.toNat).Kind), .int .i64 ((at_ (l131 ++ [r141]) g132.toNat).Join), .int .i64 ((at_ (l131 ++ [r141]) g132.toNat).Cell), .int .i64 ((at_ (l131 ++ [r141]) g132.toNat).V), .int .i64 ((at_ (l131 ++ [r141]) g132.toNat).Next), .int .i64 ((at_ (l131 ++ [r141]) g132.toNat).Frames), .int .i64 ((at_ (l131 ++ [r141]) g132.toNat).Made), .int .i64 ((at_ (l131 ++ [r141]) g132.toNat).Code), .int .i64 ((at_ (l131 ++ [r141]) g132.toNat).Came)]) rfl (by kernel_rfl) (by kernel_rfl) (by kernel_rfl) hc) ?_; clear hr a; intro a hr
            refine e_one (fuel := 1) (i := 8) (by kernel_rfl) rfl ?_
            have hc := plunderlaw8_answers_ok (H := e150) (h := h)
            refine op_call (wn rfl) rfl rfl hr (f := 38) (args := #[.agg #[.int .i64 ((at_ (l128 ++ [r135]) g132.toNat).head_t_Base), .int .i64 ((at_ (l128 ++ [r135]) g132.toNat).head_t_Frames), .int .i64 ((at_ (l128 ++ [r135]) g132.toNat).head_frame), .int .i64 ((at_ (l128 ++ [r135]) g132.toNat).head_stands), .int .i64 ((at_ (l128 ++ [r135]) g132.toNat).head_code), .int .i64 ((at_ (l128 ++ [r135]) g132.toNat).head_v), .int .i64 ((at_ (l128 ++ [r135]) g132.toNat).kind), .int .i64 ((at_ (l128 ++ [r135]) g132.toNat).slot), .int .i64 ((at_ (l128 ++ [r135]) g132.toNat).give)], .agg #[.int .i64 ((at_ (l131 ++ [r141]) g132.toNat).Kind), .int .i64 ((at_ (l131 ++ [r141]) g132.toNat).Join), .int .i64 ((at_ (l131 ++ [r141]) g132.toNat).Cell), .int .i64 ((at_ (l131 ++ [r141]) g132.toNat).V), .int .i64 ((at_ (l131 ++ [r141]) g132.toNat).Next), .int .i64 ((at_ (l131 ++ [r141]) g132.toNat).Frames), .int .i64 ((at_ (l131 ++ [r141]) g132.toNat).Made), .int .i64 ((at_ (l131 ++ [r141]) g132.toNat).Code), .int .i64 ((at_ (l131 ++ [r141]) g132.toNat).Came)]]) (by kernel_rfl) hc ?_; clear hc h
            rintro _ w ⟨rfl, h⟩; refine ⟨_, rfl, ?_⟩
            clear hr a; intro a hr
            refine wpList_nil ?_; refine then_normal ?_
            refine ⟨fun hE => absurd hE (by decide), ?_⟩
            refine ev 0 9 rfl (by kernel_rfl) (wn rfl) hr (.bool (!r149)) (fun w => by kernel_rfl) ?_; clear hr a; intro a hr
            refine e_end (by kernel_rfl) ?_
            refine then_normal ?_
            by_cases c151 : r149 = true
            ·
              replace H := ifT c151 H
              refine cond_ff hr (b := (!r149)) (by rw [show r149 = true from (c151)]; rfl) ?_
              refine wp_skip ?_
              refine blk_normal ?_
              refine then_normal ?_
              refine wp_region_lit ?_
              refine ovs [134, 135, 24] [.int .i64 g132, .int .i64 (wi (g132 + (1 : Int))), .int .i64 (wi (g132 + (1 : Int)))] hr ⟨rfl, rfl⟩ (by kernel_rfl) ?_; clear hr a; intro a hr
              refine wpList_nil ?_
              refine then_normal ?_
              replace hr := hr.fold2 [(2, .slice va2 p2.length vc2), (3, .slice va3 p3.length vc3), (10, .pointer (some ⟨Bn10, 0, none⟩)), (12, .pointer (some ⟨Bn19, 0, none⟩)), (14, .pointer (some ⟨Bn28, 0, none⟩)), (16, .pointer (some ⟨b86, 0, none⟩)), (18, .pointer (some ⟨b95, 0, none⟩)), (22, .slice ca138 ((l128 ++ [r135]).length) cc139), (23, .slice ca144 ((l131 ++ [r141]).length) cc145), (24, .int .i64 (wi (g132 + (1 : Int))))] (by kernel_rfl); obtain ⟨j, hr⟩ := hr
              replace h : Fit z (sepL (pts Bn10 (.cells #[.int .i64 S80.Most, .slice caq82 S80.Held.length ccq83, .bool true, .int .i64 S80.Actor, .slice caq84 S80.Book.length ccq85] 34) :: ro2 caq82 ccq83 S80.Held :: ro96 caq84 ccq85 S80.Book :: ob103 Bn19 S112 caq114 ccq115 caq116 ccq117 :: ro2 caq114 ccq115 S112.cell :: ro96 caq116 ccq117 S112.log :: ob103 Bn28 S98 caq100 ccq101 caq102 ccq103 :: ro2 caq100 ccq101 S98.cell :: ro96 caq102 ccq103 S98.log :: ob36 b86 r78 :: ob39 b95 r87 :: ro50 ca138 cc139 (l128 ++ [r135]) :: ro78 ca144 cc145 (l131 ++ [r141]) :: L)) _ := h.sel 15 [4, 5, 6, 7, 8, 9, 10, 11, 12, 13, 14, 2, 0] (by kernel_rfl) (by kernel_rfl)
              exact ⟨_, ⟨ca138, cc139, ca144, cc145, (l128 ++ [r135]), (l131 ++ [r141]), (wi (g132 + (1 : Int))), H, j, hr, h⟩, Nat.lt_succ_self _⟩
            ·
              replace H := ifF c151 H
              refine cond_tt hr (b := (!r149)) (by rw [show r149 = false from (bF c151)]; rfl) ?_
              refine wp_seq ?_
              refine wp_region_lit ?_
              refine ov hr (.bool false) (by kernel_rfl) ?_; clear hr a; intro a hr
              refine wpList_nil ?_
              refine then_normal ?_
              refine wp_ret ?_
              refine blk_ret ?_
              refine then_ret ?_
              refine then_ret ?_
              refine blk_ret ?_
              refine then_ret ?_
              refine end_ret1 (v := .bool false) rfl hr (by kernel_rfl) ?_
              replace H := jx2 H hK124
              replace h : Fit z (sepL (L)) _ := h.sel 15 [] (by kernel_rfl) (by kernel_rfl)
              replace H := ej1 H; subst H
              exact ⟨rfl, h⟩
          ·
            replace H := ifF c133 H
            refine cond_ff hr (b := (decide (g132 < ((p2.length : Nat) : Int)))) (decide_eq_false c133) ?_
            refine wp_exit ?_
            refine then_exit ?_
            refine then_exit ?_
            refine blk_here ?_
            refine then_normal ?_
            replace hr := hr.fold2 [(3, .slice va3 p3.length vc3), (10, .pointer (some ⟨Bn10, 0, none⟩)), (12, .pointer (some ⟨Bn19, 0, none⟩)), (14, .pointer (some ⟨Bn28, 0, none⟩)), (22, .slice ca126 l128.length cc127), (23, .slice ca129 l131.length cc130)] (by kernel_rfl); obtain ⟨j, hr⟩ := hr
            replace h : Fit z (sepL (pts Bn10 (.cells #[.int .i64 S80.Most, .slice caq82 S80.Held.length ccq83, .bool true, .int .i64 S80.Actor, .slice caq84 S80.Book.length ccq85] 34) :: ro2 caq82 ccq83 S80.Held :: ro96 caq84 ccq85 S80.Book :: ob103 Bn19 S112 caq114 ccq115 caq116 ccq117 :: ro2 caq114 ccq115 S112.cell :: ro96 caq116 ccq117 S112.log :: ob103 Bn28 S98 caq100 ccq101 caq102 ccq103 :: ro2 caq100 ccq101 S98.cell :: ro96 caq102 ccq103 S98.log :: ro50 ca126 cc127 l128 :: ro78 ca129 cc130 l131 :: L)) _ := h.sel 13 [0, 1, 2, 3, 4, 5, 6, 7, 8, 11, 12] (by kernel_rfl) (by kernel_rfl)
            exact ⟨(), ca126, cc127, ca129, cc130, l128, l131, sinj H, j, hr, h⟩
      clear h hr a; rintro _ a w ⟨ca118, cc119, ca121, cc122, l120, l123, rfl, j, hr, h⟩
      replace H := jk2 hK124
      replace H := jd3 H; obtain ⟨o168, H, hK167⟩ := H
      refine cut_rule (β := Unit) (fun _ a w => ∃ ca153 : Option Addr, ∃ cc154 : Nat, ∃ ca155 : Option Addr, ∃ cc156 : Nat, ∃ ca158 : Option Addr, ∃ cc159 : Nat, ∃ ca160 : Option Addr, ∃ cc161 : Nat, ∃ ca163 : Option Addr, ∃ cc164 : Nat, ∃ ca165 : Option Addr, ∃ cc166 : Nat, ∃ S152 : T_plunderref2_Arena, ∃ S157 : T_cells_Arena, ∃ S162 : T_cells_Arena, .inl (S152, S157, S162) = o168 ∧ ∃ j, Rep 258 (lk [(10, .pointer (some ⟨Bn10, 0, none⟩)), (12, .pointer (some ⟨Bn19, 0, none⟩)), (14, .pointer (some ⟨Bn28, 0, none⟩))] j) a ∧ Fit z (sepL (ob34 Bn10 S152 ca153 cc154 ca155 cc156 :: ro2 ca153 cc154 S152.Held :: ro96 ca155 cc156 S152.Book :: ob103 Bn19 S157 ca158 cc159 ca160 cc161 :: ro2 ca158 cc159 S157.cell :: ro96 ca160 cc161 S157.log :: ob103 Bn28 S162 ca163 cc164 ca165 cc166 :: ro2 ca163 cc164 S162.cell :: ro96 ca165 cc166 S162.log :: L)) w) ?_ ?_
      ·
        refine wp_seq ?_
        refine wp_region_lit ?_
        refine ov hr (.int .i64 0) (by kernel_rfl) ?_; clear hr a; intro a hr
        refine wpList_nil ?_
        refine then_normal ?_
        refine wp_block ?_
        replace hr := hr.fold2 [(3, .slice va3 p3.length vc3), (10, .pointer (some ⟨Bn10, 0, none⟩)), (12, .pointer (some ⟨Bn19, 0, none⟩)), (14, .pointer (some ⟨Bn28, 0, none⟩)), (22, .slice ca118 l120.length cc119), (23, .slice ca121 l123.length cc122), (25, .int .i64 0)] (by kernel_rfl); obtain ⟨j, hr⟩ := hr
        replace h : Fit z (sepL (ob34 Bn10 ({ S80 with On := true }) caq82 ccq83 caq84 ccq85 :: rowOf 2 1 encZ_i64 (.slice caq82 (({ S80 with On := true }).Held.length) ccq83) (({ S80 with On := true }).Held) :: rowOf 96 6 enc_T_api_Access (.slice caq84 (({ S80 with On := true }).Book.length) ccq85) (({ S80 with On := true }).Book) :: ob103 Bn19 S112 caq114 ccq115 caq116 ccq117 :: ro2 caq114 ccq115 S112.cell :: ro96 caq116 ccq117 S112.log :: ob103 Bn28 S98 caq100 ccq101 caq102 ccq103 :: ro2 caq100 ccq101 S98.cell :: ro96 caq102 ccq103 S98.log :: ro50 ca118 cc119 l120 :: ro78 ca121 cc122 l123 :: L)) _ := h.sel 11 [0, 1, 2, 3, 4, 5, 6, 7, 8, 9, 10] (by kernel_rfl) (by kernel_rfl)
        refine loop_rule (β := Nat) id (fun m a w => ∃ ca170 : Option Addr, ∃ cc171 : Nat, ∃ ca172 : Option Addr, ∃ cc173 : Nat, ∃ ca175 : Option Addr, ∃ cc176 : Nat, ∃ ca177 : Option Addr, ∃ cc178 : Nat, ∃ ca180 : Option Addr, ∃ cc181 : Nat, ∃ ca182 : Option Addr, ∃ cc183 : Nat, ∃ S169 : T_plunderref2_Arena, ∃ S174 : T_cells_Arena, ∃ S179 : T_cells_Arena, ∃ l184 : List T_frames_Op, ∃ l185 : List T_plunderref8_Op, ∃ g186 : Int, (plunderlaw8_FramesSteps_l2 K p3 l120 m S169 S174 S179 l184 l185 g186) = some o168 ∧ ∃ j, Rep 258 (lk [(3, .slice va3 p3.length vc3), (10, .pointer (some ⟨Bn10, 0, none⟩)), (12, .pointer (some ⟨Bn19, 0, none⟩)), (14, .pointer (some ⟨Bn28, 0, none⟩)), (22, .slice ca118 l120.length cc119), (23, .slice ca121 l123.length cc122), (25, .int .i64 g186)] j) a ∧ Fit z (sepL (ob34 Bn10 S169 ca170 cc171 ca172 cc173 :: ro2 ca170 cc171 S169.Held :: ro96 ca172 cc173 S169.Book :: ob103 Bn19 S174 ca175 cc176 ca177 cc178 :: ro2 ca175 cc176 S174.cell :: ro96 ca177 cc178 S174.log :: ob103 Bn28 S179 ca180 cc181 ca182 cc183 :: ro2 ca180 cc181 S179.cell :: ro96 ca182 cc183 S179.log :: rowOf 50 9 enc_T_frames_Op (.slice ca118 l120.length cc119) l184 :: rowOf 78 9 enc_T_plunderref8_Op (.slice ca121 l123.length cc122) l185 :: L)) w) K ⟨caq82, ccq83, caq84, ccq85, caq114, ccq115, caq116, ccq117, caq100, ccq101, caq102, ccq103, ({ S80 with On := true }), S112, S98, l120, l123, 0, H, j, hr, h⟩ ?_
        clear h hr a H; rintro k2 a w ⟨ca170, cc171, ca172, cc173, ca175, cc176, ca177, cc178, ca180, cc181, ca182, cc183, S169, S174, S179, l184, l185, g186, H, j, hr, h⟩
        cases k2 with
        | zero => exact absurd H (by simp [plunderlaw8_FramesSteps_l2])
        | succ k2 =>
          rw [plunderlaw8_FramesSteps_l2] at H
          refine wp_seq ?_
          refine wp_seq ?_
          refine wp_region_lit ?_
          refine ovs [164, 165, 166, 167, 168] [.int .i64 g186, .slice va3 p3.length vc3, .int .i64 ((p3.length : Nat) : Int), .bool (decide (g186 < ((p3.length : Nat) : Int))), .bool (decide (g186 < ((p3.length : Nat) : Int)))] hr ⟨rfl, rfl⟩ (by kernel_rfl) ?_; clear hr a; intro a hr
          by_cases c187 : g186 < ((p3.length : Nat) : Int)
          ·
            replace H := ifT c187 H
            refine op_val ((wg hr rfl rfl rfl (b' := (decide (g186 < ((p3.length : Nat) : Int)))) (by kernel_rfl)).trans (by rw [show (decide (g186 < ((p3.length : Nat) : Int))) = true from (decide_eq_true c187)]; rfl)) rfl rfl hr (v := .slice ca118 l120.length cc119) (by kernel_rfl) ?_; clear hr a; intro a hr
            refine op_val ((wg hr rfl rfl rfl (b' := (decide (g186 < ((p3.length : Nat) : Int)))) (by kernel_rfl)).trans (by rw [show (decide (g186 < ((p3.length : Nat) : Int))) = true from (decide_eq_true c187)]; rfl)) rfl rfl hr (v := .int .i64 ((l120.length : Nat) : Int)) (by kernel_rfl) ?_; clear hr a; intro a hr
            refine op_val ((wg hr rfl rfl rfl (b' := (decide (g186 < ((p3.length : Nat) : Int)))) (by kernel_rfl)).trans (by rw [show (decide (g186 < ((p3.length : Nat) : Int))) = true from (decide_eq_true c187)]; rfl)) rfl rfl hr (v := .bool (decide (((l120.length : Nat) : Int) > (0 : Int)))) (by kernel_rfl) ?_; clear hr a; intro a hr
            refine op_val (wn rfl) rfl rfl hr (v := .bool (decide (((l120.length : Nat) : Int) > (0 : Int)))) (rp_t (b := (decide (g186 < ((p3.length : Nat) : Int)))) rfl (by kernel_rfl) (decide_eq_true c187) (by kernel_rfl)) ?_; clear hr a; intro a hr
            refine wpList_nil ?_
            refine then_normal ?_
            by_cases c188 : ((l120.length : Nat) : Int) > (0 : Int)
            ·
              replace H := ifT c188 H
              refine cond_tt hr (b := (decide (((l120.length : Nat) : Int) > (0 : Int)))) (decide_eq_true c188) ?_
              refine wp_skip ?_
              refine then_normal ?_
              refine wp_seq ?_
              refine wp_block ?_
              refine wp_seq ?_
              refine wp_region_lit ?_
              replace H := gd H; obtain ⟨c189, H⟩ := H
              refine ovs [175, 176] [.slice va3 p3.length vc3, .int .i64 g186] hr ⟨rfl, rfl⟩ (by kernel_rfl) ?_; clear hr a; intro a hr
              refine op_val (wn rfl) rfl rfl hr (v := .pointer (some ⟨blk va3, offs va3 + g186.toNat * 1, none⟩)) (ri_rd (k := .i64) (E := 3) (cc := vc3) rfl (by kernel_rfl) (by kernel_rfl) rfl (by kernel_rfl) (by kernel_rfl) hv3 c189) ?_; clear hr a; intro a hr
              refine op_val (wn rfl) rfl rfl hr (v := .int .i64 (at_ p3 g186.toNat)) (rl rfl (by kernel_rfl) (by kernel_rfl) (hv3.cell c189 (h.dn 11) 0 rfl)) ?_; clear hr a; intro a hr
              replace H := bd1 H; obtain ⟨r190, e191, H⟩ := H
              refine ovs [179, 180] [.slice ca118 l120.length cc119, .int .i64 ((l120.length : Nat) : Int)] hr ⟨rfl, rfl⟩ (by kernel_rfl) ?_; clear hr a; intro a hr
              have hc := plunderlaw8_mod_ok (H := e191) (h := h)
              refine op_call (wn rfl) rfl rfl hr (f := 29) (args := #[.int .i64 (at_ p3 g186.toNat), .int .i64 ((l120.length : Nat) : Int)]) (by kernel_rfl) hc ?_; clear hc h
              rintro _ w ⟨rfl, h⟩; refine ⟨_, rfl, ?_⟩
              clear hr a; intro a hr
              refine ov hr (.int .i64 r190) (by kernel_rfl) ?_; clear hr a; intro a hr
              refine wpList_nil ?_
              refine then_normal ?_
              refine wp_seq ?_
              refine wp_region_lit ?_
              replace H := bd1 H; obtain ⟨S192, e193, H⟩ := H
              refine ovs [182, 183] [.pointer (some ⟨Bn19, 0, none⟩), .int .i64 r190] hr ⟨rfl, rfl⟩ (by kernel_rfl) ?_; clear hr a; intro a hr
              replace h : Fit z (sepL (ob103 Bn19 S174 ca175 cc176 ca177 cc178 :: ro2 ca175 cc176 S174.cell :: ro96 ca177 cc178 S174.log :: ob34 Bn10 S169 ca170 cc171 ca172 cc173 :: ro2 ca170 cc171 S169.Held :: ro96 ca172 cc173 S169.Book :: ob103 Bn28 S179 ca180 cc181 ca182 cc183 :: ro2 ca180 cc181 S179.cell :: ro96 ca182 cc183 S179.log :: rowOf 50 9 enc_T_frames_Op (.slice ca118 l120.length cc119) l184 :: rowOf 78 9 enc_T_plunderref8_Op (.slice ca121 l123.length cc122) l185 :: L)) _ := h.sel 11 [3, 4, 5, 0, 1, 2, 6, 7, 8, 9, 10] (by kernel_rfl) (by kernel_rfl)
              have hc := cells_Arena_Who_ok (H := e193) (h := h)
              refine op_call (wn rfl) rfl rfl hr (f := 39) (args := #[.pointer (some ⟨Bn19, 0, none⟩), .int .i64 r190]) (by kernel_rfl) hc ?_; clear hc h
              rintro _ w ⟨caq194, ccq195, caq196, ccq197, rfl, h⟩; refine ⟨_, rfl, ?_⟩
              clear hr a; intro a hr
              refine wpList_nil ?_
              refine then_normal ?_
              refine wp_seq ?_
              refine wp_region_lit ?_
              refine ovs [185, 186, 187, 188] [.pointer (some ⟨Bn10, 0, none⟩), .int .i64 r190, .pointer (some ⟨Bn10, 0, none⟩), .pointer (some ⟨Bn10, 3, none⟩)] hr ⟨rfl, rfl⟩ (by kernel_rfl) ?_; clear hr a; intro a hr
              replace h : Fit z (sepL (ob34 Bn10 S169 ca170 cc171 ca172 cc173 :: ob103 Bn19 S192 caq194 ccq195 caq196 ccq197 :: ro2 caq194 ccq195 S192.cell :: ro96 caq196 ccq197 S192.log :: ro2 ca170 cc171 S169.Held :: ro96 ca172 cc173 S169.Book :: ob103 Bn28 S179 ca180 cc181 ca182 cc183 :: ro2 ca180 cc181 S179.cell :: ro96 ca182 cc183 S179.log :: rowOf 50 9 enc_T_frames_Op (.slice ca118 l120.length cc119) l184 :: rowOf 78 9 enc_T_plunderref8_Op (.slice ca121 l123.length cc122) l185 :: L)) _ := h.sel 11 [3, 0, 1, 2, 4, 5, 6, 7, 8, 9, 10] (by kernel_rfl) (by kernel_rfl)
              refine op_store (wn rfl) rfl hr rfl (by kernel_rfl) (by kernel_rfl) (v := .int .i64 r190) rfl rfl (by kernel_rfl) h (i := 3) rfl ?_; clear h; intro w h
              refine wpList_nil ?_
              replace h : Fit z (sepL (pts Bn10 (.cells #[.int .i64 S169.Most, .slice ca170 S169.Held.length cc171, .bool S169.On, .int .i64 r190, .slice ca172 S169.Book.length cc173] 34) :: ob103 Bn19 S192 caq194 ccq195 caq196 ccq197 :: ro2 caq194 ccq195 S192.cell :: ro96 caq196 ccq197 S192.log :: ro2 ca170 cc171 S169.Held :: ro96 ca172 cc173 S169.Book :: ob103 Bn28 S179 ca180 cc181 ca182 cc183 :: ro2 ca180 cc181 S179.cell :: ro96 ca182 cc183 S179.log :: rowOf 50 9 enc_T_frames_Op (.slice ca118 l120.length cc119) l184 :: rowOf 78 9 enc_T_plunderref8_Op (.slice ca121 l123.length cc122) l185 :: L)) _ := h
              refine then_normal ?_
              refine wp_seq ?_
              refine wp_region_lit ?_
              replace H := gd H; obtain ⟨c198, H⟩ := H
              refine ovs [189, 190] [.slice ca118 l120.length cc119, .int .i64 r190] hr ⟨rfl, rfl⟩ (by kernel_rfl) ?_; clear hr a; intro a hr
              refine op_val (wn rfl) rfl rfl hr (v := .pointer (some ⟨blk ca118, r190.toNat * 9, none⟩)) (ri_row (k := .i64) (E := 50) rfl (by kernel_rfl) (by kernel_rfl) (by kernel_rfl) (by kernel_rfl) (h.pick 9) c198) ?_; clear hr a; intro a hr
              refine op_val (wn rfl) rfl rfl hr (v := .agg #[.int .i64 ((at_ l184 r190.toNat).head_t_Base), .int .i64 ((at_ l184 r190.toNat).head_t_Frames), .int .i64 ((at_ l184 r190.toNat).head_frame), .int .i64 ((at_ l184 r190.toNat).head_stands), .int .i64 ((at_ l184 r190.toNat).head_code), .int .i64 ((at_ l184 r190.toNat).head_v), .int .i64 ((at_ l184 r190.toNat).kind), .int .i64 ((at_ l184 r190.toNat).slot), .int .i64 ((at_ l184 r190.toNat).give)]) (rlm (cs := [.int .i64 ((at_ l184 r190.toNat).head_t_Base), .int .i64 ((at_ l184 r190.toNat).head_t_Frames), .int .i64 ((at_ l184 r190.toNat).head_frame), .int .i64 ((at_ l184 r190.toNat).head_stands), .int .i64 ((at_ l184 r190.toNat).head_code), .int .i64 ((at_ l184 r190.toNat).head_v), .int .i64 ((at_ l184 r190.toNat).kind), .int .i64 ((at_ l184 r190.toNat).slot), .int .i64 ((at_ l184 r190.toNat).give)]) rfl (by kernel_rfl) (by kernel_rfl) (by kernel_rfl) ⟨(h.pick 9).row_cell enc_T_frames_Op_ok (f := 0) (at_ok c198) rfl, (h.pick 9).row_cell enc_T_frames_Op_ok (f := 1) (at_ok c198) rfl, (h.pick 9).row_cell enc_T_frames_Op_ok (f := 2) (at_ok c198) rfl, (h.pick 9).row_cell enc_T_frames_Op_ok (f := 3) (at_ok c198) rfl, (h.pick 9).row_cell enc_T_frames_Op_ok (f := 4) (at_ok c198) rfl, (h.pick 9).row_cell enc_T_frames_Op_ok (f := 5) (at_ok c198) rfl, (h.pick 9).row_cell enc_T_frames_Op_ok (f := 6) (at_ok c198) rfl, (h.pick 9).row_cell enc_T_frames_Op_ok (f := 7) (at_ok c198) rfl, (h.pick 9).row_cell enc_T_frames_Op_ok (f := 8) (at_ok c198) rfl, trivial⟩) ?_; clear hr a; intro a hr
              refine op_new (wn rfl) rfl rfl hr h (vf := fun b => .pointer (some ⟨b, 0, none⟩)) (cs := #[.int .i64 0, .int .i64 0, .int .i64 0, .int .i64 0, .int .i64 0, .int .i64 0, .int .i64 0, .int .i64 0, .int .i64 0]) (T := 50) (by kernel_rfl) ?_; clear h hr a; intro b199 w a h hr
              refine op_stores (wn rfl) rfl hr rfl (by kernel_rfl) (by kernel_rfl) (vs := [.int .i64 ((at_ l184 r190.toNat).head_t_Base), .int .i64 ((at_ l184 r190.toNat).head_t_Frames), .int .i64 ((at_ l184 r190.toNat).head_frame), .int .i64 ((at_ l184 r190.toNat).head_stands), .int .i64 ((at_ l184 r190.toNat).head_code), .int .i64 ((at_ l184 r190.toNat).head_v), .int .i64 ((at_ l184 r190.toNat).kind), .int .i64 ((at_ l184 r190.toNat).slot), .int .i64 ((at_ l184 r190.toNat).give)]) rfl rfl (by kernel_rfl) h (i := 0) (cs' := #[.int .i64 ((at_ l184 r190.toNat).head_t_Base), .int .i64 ((at_ l184 r190.toNat).head_t_Frames), .int .i64 ((at_ l184 r190.toNat).head_frame), .int .i64 ((at_ l184 r190.toNat).head_stands), .int .i64 ((at_ l184 r190.toNat).head_code), .int .i64 ((at_ l184 r190.toNat).head_v), .int .i64 ((at_ l184 r190.toNat).kind), .int .i64 ((at_ l184 r190.toNat).slot), .int .i64 ((at_ l184 r190.toNat).give)]) rfl ?_; clear h; intro w h
              refine wpList_nil ?_
              replace h : Fit z (sepL (ob50 b199 (at_ l184 r190.toNat) :: pts Bn10 (.cells #[.int .i64 S169.Most, .slice ca170 S169.Held.length cc171, .bool S169.On, .int .i64 r190, .slice ca172 S169.Book.length cc173] 34) :: ob103 Bn19 S192 caq194 ccq195 caq196 ccq197 :: ro2 caq194 ccq195 S192.cell :: ro96 caq196 ccq197 S192.log :: ro2 ca170 cc171 S169.Held :: ro96 ca172 cc173 S169.Book :: ob103 Bn28 S179 ca180 cc181 ca182 cc183 :: ro2 ca180 cc181 S179.cell :: ro96 ca182 cc183 S179.log :: rowOf 50 9 enc_T_frames_Op (.slice ca118 l120.length cc119) l184 :: rowOf 78 9 enc_T_plunderref8_Op (.slice ca121 l123.length cc122) l185 :: L)) _ := h
              refine then_normal ?_
              refine wp_seq ?_
              refine wp_region_lit ?_
              replace H := gd H; obtain ⟨c200, H⟩ := H
              refine ovs [193, 194] [.slice ca121 l123.length cc122, .int .i64 r190] hr ⟨rfl, rfl⟩ (by kernel_rfl) ?_; clear hr a; intro a hr
              refine op_val (wn rfl) rfl rfl hr (v := .pointer (some ⟨blk ca121, r190.toNat * 9, none⟩)) (ri_row (k := .i64) (E := 78) rfl (by kernel_rfl) (by kernel_rfl) (by kernel_rfl) (by kernel_rfl) (h.pick 11) c200) ?_; clear hr a; intro a hr
              refine op_val (wn rfl) rfl rfl hr (v := .agg #[.int .i64 ((at_ l185 r190.toNat).Kind), .int .i64 ((at_ l185 r190.toNat).Join), .int .i64 ((at_ l185 r190.toNat).Cell), .int .i64 ((at_ l185 r190.toNat).V), .int .i64 ((at_ l185 r190.toNat).Next), .int .i64 ((at_ l185 r190.toNat).Frames), .int .i64 ((at_ l185 r190.toNat).Made), .int .i64 ((at_ l185 r190.toNat).Code), .int .i64 ((at_ l185 r190.toNat).Came)]) (rlm (cs := [.int .i64 ((at_ l185 r190.toNat).Kind), .int .i64 ((at_ l185 r190.toNat).Join), .int .i64 ((at_ l185 r190.toNat).Cell), .int .i64 ((at_ l185 r190.toNat).V), .int .i64 ((at_ l185 r190.toNat).Next), .int .i64 ((at_ l185 r190.toNat).Frames), .int .i64 ((at_ l185 r190.toNat).Made), .int .i64 ((at_ l185 r190.toNat).Code), .int .i64 ((at_ l185 r190.toNat).Came)]) rfl (by kernel_rfl) (by kernel_rfl) (by kernel_rfl) ⟨(h.pick 11).row_cell enc_T_plunderref8_Op_ok (f := 0) (at_ok c200) rfl, (h.pick 11).row_cell enc_T_plunderref8_Op_ok (f := 1) (at_ok c200) rfl, (h.pick 11).row_cell enc_T_plunderref8_Op_ok (f := 2) (at_ok c200) rfl, (h.pick 11).row_cell enc_T_plunderref8_Op_ok (f := 3) (at_ok c200) rfl, (h.pick 11).row_cell enc_T_plunderref8_Op_ok (f := 4) (at_ok c200) rfl, (h.pick 11).row_cell enc_T_plunderref8_Op_ok (f := 5) (at_ok c200) rfl, (h.pick 11).row_cell enc_T_plunderref8_Op_ok (f := 6) (at_ok c200) rfl, (h.pick 11).row_cell enc_T_plunderref8_Op_ok (f := 7) (at_ok c200) rfl, (h.pick 11).row_cell enc_T_plunderref8_Op_ok (f := 8) (at_ok c200) rfl, trivial⟩) ?_; clear hr a; intro a hr
              refine op_new (wn rfl) rfl rfl hr h (vf := fun b => .pointer (some ⟨b, 0, none⟩)) (cs := #[.int .i64 0, .int .i64 0, .int .i64 0, .int .i64 0, .int .i64 0, .int .i64 0, .int .i64 0, .int .i64 0, .int .i64 0]) (T := 78) (by kernel_rfl) ?_; clear h hr a; intro b201 w a h hr
              refine op_stores (wn rfl) rfl hr rfl (by kernel_rfl) (by kernel_rfl) (vs := [.int .i64 ((at_ l185 r190.toNat).Kind), .int .i64 ((at_ l185 r190.toNat).Join), .int .i64 ((at_ l185 r190.toNat).Cell), .int .i64 ((at_ l185 r190.toNat).V), .int .i64 ((at_ l185 r190.toNat).Next), .int .i64 ((at_ l185 r190.toNat).Frames), .int .i64 ((at_ l185 r190.toNat).Made), .int .i64 ((at_ l185 r190.toNat).Code), .int .i64 ((at_ l185 r190.toNat).Came)]) rfl rfl (by kernel_rfl) h (i := 0) (cs' := #[.int .i64 ((at_ l185 r190.toNat).Kind), .int .i64 ((at_ l185 r190.toNat).Join), .int .i64 ((at_ l185 r190.toNat).Cell), .int .i64 ((at_ l185 r190.toNat).V), .int .i64 ((at_ l185 r190.toNat).Next), .int .i64 ((at_ l185 r190.toNat).Frames), .int .i64 ((at_ l185 r190.toNat).Made), .int .i64 ((at_ l185 r190.toNat).Code), .int .i64 ((at_ l185 r190.toNat).Came)]) rfl ?_; clear h; intro w h
              refine wpList_nil ?_
              replace h : Fit z (sepL (ob78 b201 (at_ l185 r190.toNat) :: ob50 b199 (at_ l184 r190.toNat) :: pts Bn10 (.cells #[.int .i64 S169.Most, .slice ca170 S169.Held.length cc171, .bool S169.On, .int .i64 r190, .slice ca172 S169.Book.length cc173] 34) :: ob103 Bn19 S192 caq194 ccq195 caq196 ccq197 :: ro2 caq194 ccq195 S192.cell :: ro96 caq196 ccq197 S192.log :: ro2 ca170 cc171 S169.Held :: ro96 ca172 cc173 S169.Book :: ob103 Bn28 S179 ca180 cc181 ca182 cc183 :: ro2 ca180 cc181 S179.cell :: ro96 ca182 cc183 S179.log :: rowOf 50 9 enc_T_frames_Op (.slice ca118 l120.length cc119) l184 :: rowOf 78 9 enc_T_plunderref8_Op (.slice ca121 l123.length cc122) l185 :: L)) _ := h
              refine then_normal ?_
              refine wp_seq ?_
              refine wp_region_lit ?_
              refine ovs [197, 198, 199, 200] [.slice ca118 l120.length cc119, .int .i64 r190, .pointer (some ⟨Bn19, 0, none⟩), .iface 26 (.pointer (some ⟨Bn19, 0, none⟩))] hr ⟨rfl, rfl⟩ (by kernel_rfl) ?_; clear hr a; intro a hr
              refine op_val (wn rfl) rfl rfl hr (v := .agg #[.int .i64 ((at_ l184 r190.toNat).head_t_Base), .int .i64 ((at_ l184 r190.toNat).head_t_Frames), .int .i64 ((at_ l184 r190.toNat).head_frame), .int .i64 ((at_ l184 r190.toNat).head_stands), .int .i64 ((at_ l184 r190.toNat).head_code), .int .i64 ((at_ l184 r190.toNat).head_v), .int .i64 ((at_ l184 r190.toNat).kind), .int .i64 ((at_ l184 r190.toNat).slot), .int .i64 ((at_ l184 r190.toNat).give)]) (rlm (cs := [.int .i64 ((at_ l184 r190.toNat).head_t_Base), .int .i64 ((at_ l184 r190.toNat).head_t_Frames), .int .i64 ((at_ l184 r190.toNat).head_frame), .int .i64 ((at_ l184 r190.toNat).head_stands), .int .i64 ((at_ l184 r190.toNat).head_code), .int .i64 ((at_ l184 r190.toNat).head_v), .int .i64 ((at_ l184 r190.toNat).kind), .int .i64 ((at_ l184 r190.toNat).slot), .int .i64 ((at_ l184 r190.toNat).give)]) rfl (by kernel_rfl) (by kernel_rfl) (by kernel_rfl) ⟨(h.pick 1).cell 0 rfl, (h.pick 1).cell 1 rfl, (h.pick 1).cell 2 rfl, (h.pick 1).cell 3 rfl, (h.pick 1).cell 4 rfl, (h.pick 1).cell 5 rfl, (h.pick 1).cell 6 rfl, (h.pick 1).cell 7 rfl, (h.pick 1).cell 8 rfl, trivial⟩) ?_; clear hr a; intro a hr
              replace H := bd2 H; obtain ⟨r202, S203, e204, H⟩ := H
              replace h : Fit z (sepL (ob103 Bn19 S192 caq194 ccq195 caq196 ccq197 :: ro2 caq194 ccq195 S192.cell :: ro96 caq196 ccq197 S192.log :: ob78 b201 (at_ l185 r190.toNat) :: ob50 b199 (at_ l184 r190.toNat) :: pts Bn10 (.cells #[.int .i64 S169.Most, .slice ca170 S169.Held.length cc171, .bool S169.On, .int .i64 r190, .slice ca172 S169.Book.length cc173] 34) :: ro2 ca170 cc171 S169.Held :: ro96 ca172 cc173 S169.Book :: ob103 Bn28 S179 ca180 cc181 ca182 cc183 :: ro2 ca180 cc181 S179.cell :: ro96 ca182 cc183 S179.log :: rowOf 50 9 enc_T_frames_Op (.slice ca118 l120.length cc119) l184 :: rowOf 78 9 enc_T_plunderref8_Op (.slice ca121 l123.length cc122) l185 :: L)) _ := h.sel 13 [3, 4, 5, 0, 1, 2, 6, 7, 8, 9, 10, 11, 12] (by kernel_rfl) (by kernel_rfl)
              have hc := frames_Step_iface_ok (H := e204) (h := h)
              refine op_call (wn rfl) rfl rfl hr (f := 28) (args := #[.iface 26 (.pointer (some ⟨Bn19, 0, none⟩)), .agg #[.int .i64 ((at_ l184 r190.toNat).head_t_Base), .int .i64 ((at_ l184 r190.toNat).head_t_Frames), .int .i64 ((at_ l184 r190.toNat).head_frame), .int .i64 ((at_ l184 r190.toNat).head_stands), .int .i64 ((at_ l184 r190.toNat).head_code), .int .i64 ((at_ l184 r190.toNat).head_v), .int .i64 ((at_ l184 r190.toNat).kind), .int .i64 ((at_ l184 r190.toNat).slot), .int .i64 ((at_ l184 r190.toNat).give)]]) (by kernel_rfl) hc ?_; clear hc h
              rintro _ w ⟨caq205, ccq206, caq207, ccq208, rfl, h⟩; refine ⟨_, rfl, ?_⟩
              clear hr a; intro a hr
              refine op_val (wn rfl) rfl rfl hr (v := .pointer (some ⟨blk ca118, r190.toNat * 9, none⟩)) (ri_row (k := .i64) (E := 50) rfl (by kernel_rfl) (by kernel_rfl) (by kernel_rfl) (by kernel_rfl) (h.pick 11) c198) ?_; clear hr a; intro a hr
              replace h : Fit z (sepL (rowOf 50 9 enc_T_frames_Op (.slice ca118 l120.length cc119) l184 :: ob103 Bn19 S203 caq205 ccq206 caq207 ccq208 :: ro2 caq205 ccq206 S203.cell :: ro96 caq207 ccq208 S203.log :: ob78 b201 (at_ l185 r190.toNat) :: ob50 b199 (at_ l184 r190.toNat) :: pts Bn10 (.cells #[.int .i64 S169.Most, .slice ca170 S169.Held.length cc171, .bool S169.On, .int .i64 r190, .slice ca172 S169.Book.length cc173] 34) :: ro2 ca170 cc171 S169.Held :: ro96 ca172 cc173 S169.Book :: ob103 Bn28 S179 ca180 cc181 ca182 cc183 :: ro2 ca180 cc181 S179.cell :: ro96 ca182 cc183 S179.log :: rowOf 78 9 enc_T_plunderref8_Op (.slice ca121 l123.length cc122) l185 :: L)) _ := h.sel 13 [11, 0, 1, 2, 3, 4, 5, 6, 7, 8, 9, 10, 12] (by kernel_rfl) (by kernel_rfl)
              refine op_stores_row (wn rfl) rfl hr rfl (by kernel_rfl) (by kernel_rfl) (vs := [.int .i64 r202.head_t_Base, .int .i64 r202.head_t_Frames, .int .i64 r202.head_frame, .int .i64 r202.head_stands, .int .i64 r202.head_code, .int .i64 r202.head_v, .int .i64 r202.kind, .int .i64 r202.slot, .int .i64 r202.give]) rfl (by kernel_rfl) enc_T_frames_Op_ok h (i := r190.toNat) (q := r202) (at_okL c198) rfl ?_; clear h; intro w h
              replace h : Fit z (sepL (rowOf 50 9 enc_T_frames_Op (.slice ca118 l120.length cc119) (l184.set r190.toNat r202) :: ob103 Bn19 S203 caq205 ccq206 caq207 ccq208 :: ro2 caq205 ccq206 S203.cell :: ro96 caq207 ccq208 S203.log :: ob78 b201 (at_ l185 r190.toNat) :: ob50 b199 (at_ l184 r190.toNat) :: pts Bn10 (.cells #[.int .i64 S169.Most, .slice ca170 S169.Held.length cc171, .bool S169.On, .int .i64 r190, .slice ca172 S169.Book.length cc173] 34) :: ro2 ca170 cc171 S169.Held :: ro96 ca172 cc173 S169.Book :: ob103 Bn28 S179 ca180 cc181 ca182 cc183 :: ro2 ca180 cc181 S179.cell :: ro96 ca182 cc183 S179.log :: rowOf 78 9 enc_T_plunderref8_Op (.slice ca121 l123.length cc122) l185 :: L)) _ := h
              refine wpList_nil ?_
              refine then_normal ?_
              refine wp_seq ?_
              refine wp_region_lit ?_
              refine ovs [204, 205] [.pointer (some ⟨Bn28, 0, none⟩), .iface 26 (.pointer (some ⟨Bn28, 0, none⟩))] hr ⟨rfl, rfl⟩ (by kernel_rfl) ?_; clear hr a; intro a hr
              refine op_val (wn rfl) rfl rfl hr (v := .agg #[.int .i64 ((at_ l184 r190.toNat).head_t_Base), .int .i64 ((at_ l184 r190.toNat).head_t_Frames), .int .i64 ((at_ l184 r190.toNat).head_frame), .int .i64 ((at_ l184 r190.toNat).head_stands), .int .i64 ((at_ l184 r190.toNat).head_code), .int .i64 ((at_ l184 r190.toNat).head_v), .int .i64 ((at_ l184 r190.toNat).kind), .int .i64 ((at_ l184 r190.toNat).slot), .int .i64 ((at_ l184 r190.toNat).give)]) (rlm (cs := [.int .i64 ((at_ l184 r190.toNat).head_t_Base), .int .i64 ((at_ l184 r190.toNat).head_t_Frames), .int .i64 ((at_ l184 r190.toNat).head_frame), .int .i64 ((at_ l184 r190.toNat).head_stands), .int .i64 ((at_ l184 r190.toNat).head_code), .int .i64 ((at_ l184 r190.toNat).head_v), .int .i64 ((at_ l184 r190.toNat).kind), .int .i64 ((at_ l184 r190.toNat).slot), .int .i64 ((at_ l184 r190.toNat).give)]) rfl (by kernel_rfl) (by kernel_rfl) (by kernel_rfl) ⟨(h.pick 5).cell 0 rfl, (h.pick 5).cell 1 rfl, (h.pick 5).cell 2 rfl, (h.pick 5).cell 3 rfl, (h.pick 5).cell 4 rfl, (h.pick 5).cell 5 rfl, (h.pick 5).cell 6 rfl, (h.pick 5).cell 7 rfl, (h.pick 5).cell 8 rfl, trivial⟩) ?_; clear hr a; intro a hr
              replace H := bd2 H; obtain ⟨r209, S210, e211, H⟩ := H
              replace h : Fit z (sepL (ob103 Bn28 S179 ca180 cc181 ca182 cc183 :: ro2 ca180 cc181 S179.cell :: ro96 ca182 cc183 S179.log :: rowOf 50 9 enc_T_frames_Op (.slice ca118 l120.length cc119) (l184.set r190.toNat r202) :: ob103 Bn19 S203 caq205 ccq206 caq207 ccq208 :: ro2 caq205 ccq206 S203.cell :: ro96 caq207 ccq208 S203.log :: ob78 b201 (at_ l185 r190.toNat) :: ob50 b199 (at_ l184 r190.toNat) :: pts Bn10 (.cells #[.int .i64 S169.Most, .slice ca170 S169.Held.length cc171, .bool S169.On, .int .i64 r190, .slice ca172 S169.Book.length cc173] 34) :: ro2 ca170 cc171 S169.Held :: ro96 ca172 cc173 S169.Book :: rowOf 78 9 enc_T_plunderref8_Op (.slice ca121 l123.length cc122) l185 :: L)) _ := h.sel 13 [9, 10, 11, 0, 1, 2, 3, 4, 5, 6, 7, 8, 12] (by kernel_rfl) (by kernel_rfl)
              have hc := frames_Step_iface_ok (H := e211) (h := h)
              refine op_call (wn rfl) rfl rfl hr (f := 28) (args := #[.iface 26 (.pointer (some ⟨Bn28, 0, none⟩)), .agg #[.int .i64 ((at_ l184 r190.toNat).head_t_Base), .int .i64 ((at_ l184 r190.toNat).head_t_Frames), .int .i64 ((at_ l184 r190.toNat).head_frame), .int .i64 ((at_ l184 r190.toNat).head_stands), .int .i64 ((at_ l184 r190.toNat).head_code), .int .i64 ((at_ l184 r190.toNat).head_v), .int .i64 ((at_ l184 r190.toNat).kind), .int .i64 ((at_ l184 r190.toNat).slot), .int .i64 ((at_ l184 r190.toNat).give)]]) (by kernel_rfl) hc ?_; clear hc h
              rintro _ w ⟨caq212, ccq213, caq214, ccq215, rfl, h⟩; refine ⟨_, rfl, ?_⟩
              clear hr a; intro a hr
              refine op_new (wn rfl) rfl rfl hr h (vf := fun b => .pointer (some ⟨b, 0, none⟩)) (cs := #[.int .i64 0, .int .i64 0, .int .i64 0, .int .i64 0, .int .i64 0, .int .i64 0, .int .i64 0, .int .i64 0, .int .i64 0]) (T := 50) (by kernel_rfl) ?_; clear h hr a; intro b216 w a h hr
              refine op_stores (wn rfl) rfl hr rfl (by kernel_rfl) (by kernel_rfl) (vs := [.int .i64 r209.head_t_Base, .int .i64 r209.head_t_Frames, .int .i64 r209.head_frame, .int .i64 r209.head_stands, .int .i64 r209.head_code, .int .i64 r209.head_v, .int .i64 r209.kind, .int .i64 r209.slot, .int .i64 r209.give]) rfl rfl (by kernel_rfl) h (i := 0) (cs' := #[.int .i64 r209.head_t_Base, .int .i64 r209.head_t_Frames, .int .i64 r209.head_frame, .int .i64 r209.head_stands, .int .i64 r209.head_code, .int .i64 r209.head_v, .int .i64 r209.kind, .int .i64 r209.slot, .int .i64 r209.give]) rfl ?_; clear h; intro w h
              refine wpList_nil ?_
              replace h : Fit z (sepL (ob50 b216 r209 :: ob103 Bn28 S210 caq212 ccq213 caq214 ccq215 :: ro2 caq212 ccq213 S210.cell :: ro96 caq214 ccq215 S210.log :: rowOf 50 9 enc_T_frames_Op (.slice ca118 l120.length cc119) (l184.set r190.toNat r202) :: ob103 Bn19 S203 caq205 ccq206 caq207 ccq208 :: ro2 caq205 ccq206 S203.cell :: ro96 caq207 ccq208 S203.log :: ob78 b201 (at_ l185 r190.toNat) :: ob50 b199 (at_ l184 r190.toNat) :: pts Bn10 (.cells #[.int .i64 S169.Most, .slice ca170 S169.Held.length cc171, .bool S169.On, .int .i64 r190, .slice ca172 S169.Book.length cc173] 34) :: ro2 ca170 cc171 S169.Held :: ro96 ca172 cc173 S169.Book :: rowOf 78 9 enc_T_plunderref8_Op (.slice ca121 l123.length cc122) l185 :: L)) _ := h
              refine then_normal ?_
              refine wp_seq ?_
              refine wp_region_lit ?_
              refine ovs [208, 209, 210] [.slice ca121 l123.length cc122, .int .i64 r190, .pointer (some ⟨Bn10, 0, none⟩)] hr ⟨rfl, rfl⟩ (by kernel_rfl) ?_; clear hr a; intro a hr
              refine op_val (wn rfl) rfl rfl hr (v := .agg #[.int .i64 ((at_ l185 r190.toNat).Kind), .int .i64 ((at_ l185 r190.toNat).Join), .int .i64 ((at_ l185 r190.toNat).Cell), .int .i64 ((at_ l185 r190.toNat).V), .int .i64 ((at_ l185 r190.toNat).Next), .int .i64 ((at_ l185 r190.toNat).Frames), .int .i64 ((at_ l185 r190.toNat).Made), .int .i64 ((at_ l185 r190.toNat).Code), .int .i64 ((at_ l185 r190.toNat).Came)]) (rlm (cs := [.int .i64 ((at_ l185 r190.toNat).Kind), .int .i64 ((at_ l185 r190.toNat).Join), .int .i64 ((at_ l185 r190.toNat).Cell), .int .i64 ((at_ l185 r190.toNat).V), .int .i64 ((at_ l185 r190.toNat).Next), .int .i64 ((at_ l185 r190.toNat).Frames), .int .i64 ((at_ l185 r190.toNat).Made), .int .i64 ((at_ l185 r190.toNat).Code), .int .i64 ((at_ l185 r190.toNat).Came)]) rfl (by kernel_rfl) (by kernel_rfl) (by kernel_rfl) ⟨(h.pick 8).cell 0 rfl, (h.pick 8).cell 1 rfl, (h.pick 8).cell 2 rfl, (h.pick 8).cell 3 rfl, (h.pick 8).cell 4 rfl, (h.pick 8).cell 5 rfl, (h.pick 8).cell 6 rfl, (h.pick 8).cell 7 rfl, (h.pick 8).cell 8 rfl, trivial⟩) ?_; clear hr a; intro a hr
              replace H := bd2 H; obtain ⟨r217, S218, e219, H⟩ := H
              replace h : Fit z (sepL (pts Bn10 (.cells #[.int .i64 S169.Most, .slice ca170 S169.Held.length cc171, .bool S169.On, .int .i64 r190, .slice ca172 S169.Book.length cc173] 34) :: ro2 ca170 cc171 S169.Held :: ro96 ca172 cc173 S169.Book :: ob50 b216 r209 :: ob103 Bn28 S210 caq212 ccq213 caq214 ccq215 :: ro2 caq212 ccq213 S210.cell :: ro96 caq214 ccq215 S210.log :: rowOf 50 9 enc_T_frames_Op (.slice ca118 l120.length cc119) (l184.set r190.toNat r202) :: ob103 Bn19 S203 caq205 ccq206 caq207 ccq208 :: ro2 caq205 ccq206 S203.cell :: ro96 caq207 ccq208 S203.log :: ob78 b201 (at_ l185 r190.toNat) :: ob50 b199 (at_ l184 r190.toNat) :: rowOf 78 9 enc_T_plunderref8_Op (.slice ca121 l123.length cc122) l185 :: L)) _ := h.sel 14 [10, 11, 12, 0, 1, 2, 3, 4, 5, 6, 7, 8, 9, 13] (by kernel_rfl) (by kernel_rfl)
              have hc := plunderref8_Step_ok (H := e219) (h := h)
              refine op_call (wn rfl) rfl rfl hr (f := 40) (args := #[.pointer (some ⟨Bn10, 0, none⟩), .agg #[.int .i64 ((at_ l185 r190.toNat).Kind), .int .i64 ((at_ l185 r190.toNat).Join), .int .i64 ((at_ l185 r190.toNat).Cell), .int .i64 ((at_ l185 r190.toNat).V), .int .i64 ((at_ l185 r190.toNat).Next), .int .i64 ((at_ l185 r190.toNat).Frames), .int .i64 ((at_ l185 r190.toNat).Made), .int .i64 ((at_ l185 r190.toNat).Code), .int .i64 ((at_ l185 r190.toNat).Came)]]) (by kernel_rfl) hc ?_; clear hc h
              rintro _ w ⟨caq220, ccq221, caq222, ccq223, rfl, h⟩; refine ⟨_, rfl, ?_⟩
              clear hr a; intro a hr
              refine op_val (wn rfl) rfl rfl hr (v := .pointer (some ⟨blk ca121, r190.toNat * 9, none⟩)) (ri_row (k := .i64) (E := 78) rfl (by kernel_rfl) (by kernel_rfl) (by kernel_rfl) (by kernel_rfl) (h.pick 13) c200) ?_; clear hr a; intro a hr
              replace h : Fit z (sepL (rowOf 78 9 enc_T_plunderref8_Op (.slice ca121 l123.length cc122) l185 :: ob34 Bn10 S218 caq220 ccq221 caq222 ccq223 :: ro2 caq220 ccq221 S218.Held :: ro96 caq222 ccq223 S218.Book :: ob50 b216 r209 :: ob103 Bn28 S210 caq212 ccq213 caq214 ccq215 :: ro2 caq212 ccq213 S210.cell :: ro96 caq214 ccq215 S210.log :: rowOf 50 9 enc_T_frames_Op (.slice ca118 l120.length cc119) (l184.set r190.toNat r202) :: ob103 Bn19 S203 caq205 ccq206 caq207 ccq208 :: ro2 caq205 ccq206 S203.cell :: ro96 caq207 ccq208 S203.log :: ob78 b201 (at_ l185 r190.toNat) :: ob50 b199 (at_ l184 r190.toNat) :: L)) _ := h.sel 14 [13, 0, 1, 2, 3, 4, 5, 6, 7, 8, 9, 10, 11, 12] (by kernel_rfl) (by kernel_rfl)
              refine op_stores_row (wn rfl) rfl hr rfl (by kernel_rfl) (by kernel_rfl) (vs := [.int .i64 r217.Kind, .int .i64 r217.Join, .int .i64 r217.Cell, .int .i64 r217.V, .int .i64 r217.Next, .int .i64 r217.Frames, .int .i64 r217.Made, .int .i64 r217.Code, .int .i64 r217.Came]) rfl (by kernel_rfl) enc_T_plunderref8_Op_ok h (i := r190.toNat) (q := r217) (at_okL c200) rfl ?_; clear h; intro w h
              replace h : Fit z (sepL (rowOf 78 9 enc_T_plunderref8_Op (.slice ca121 l123.length cc122) (l185.set r190.toNat r217) :: ob34 Bn10 S218 caq220 ccq221 caq222 ccq223 :: ro2 caq220 ccq221 S218.Held :: ro96 caq222 ccq223 S218.Book :: ob50 b216 r209 :: ob103 Bn28 S210 caq212 ccq213 caq214 ccq215 :: ro2 caq212 ccq213 S210.cell :: ro96 caq214 ccq215 S210.log :: rowOf 50 9 enc_T_frames_Op (.slice ca118 l120.length cc119) (l184.set r190.toNat r202) :: ob103 Bn19 S203 caq205 ccq206 caq207 ccq208 :: ro2 caq205 ccq206 S203.cell :: ro96 caq207 ccq208 S203.log :: ob78 b201 (at_ l185 r190.toNat) :: ob50 b199 (at_ l184 r190.toNat) :: L)) _ := h
              refine wpList_nil ?_
              refine then_normal ?_
              refine wp_seq ?_
              replace H := gd H; obtain ⟨c224, H⟩ := H
              replace H := gd H; obtain ⟨c225, H⟩ := H
              replace H := bd1 H; obtain ⟨r226, e227, H⟩ := H
              by_cases c228 : r226 = true
              ·
                replace H := ifT c228 H
                replace H := bd1 H; obtain ⟨r229, e230, H⟩ := H
                by_cases c231 : r229 = true
                ·
                  replace H := ifT c231 H
                  replace H := bd1 H; obtain ⟨r232, e233, H⟩ := H
                  refine reg_E (fun w => heldC w (blk ca118) (r190.toNat * 9) [.int .i64 r202.head_t_Base, .int .i64 r202.head_t_Frames, .int .i64 r202.head_frame, .int .i64 r202.head_stands, .int .i64 r202.head_code, .int .i64 r202.head_v, .int .i64 r202.kind, .int .i64 r202.slot, .int .i64 r202.give] ∧ heldC w (blk ca121) (r190.toNat * 9) [.int .i64 r217.Kind, .int .i64 r217.Join, .int .i64 r217.Cell, .int .i64 r217.V, .int .i64 r217.Next, .int .i64 r217.Frames, .int .i64 r217.Made, .int .i64 r217.Code, .int .i64 r217.Came] ∧ heldC w b216 0 [.int .i64 r209.head_t_Base, .int .i64 r209.head_t_Frames, .int .i64 r209.head_frame, .int .i64 r209.head_stands, .int .i64 r209.head_code, .int .i64 r209.head_v, .int .i64 r209.kind, .int .i64 r209.slot, .int .i64 r209.give] ∧ heldC w (blk ca121) (r190.toNat * 9) [.int .i64 r217.Kind, .int .i64 r217.Join, .int .i64 r217.Cell, .int .i64 r217.V, .int .i64 r217.Next, .int .i64 r217.Frames, .int .i64 r217.Made, .int .i64 r217.Code, .int .i64 r217.Came] ∧ heldC w b199 0 [.int .i64 ((at_ l184 r190.toNat).head_t_Base), .int .i64 ((at_ l184 r190.toNat).head_t_Frames), .int .i64 ((at_ l184 r190.toNat).head_frame), .int .i64 ((at_ l184 r190.toNat).head_stands), .int .i64 ((at_ l184 r190.toNat).head_code), .int .i64 ((at_ l184 r190.toNat).head_v), .int .i64 ((at_ l184 r190.toNat).kind), .int .i64 ((at_ l184 r190.toNat).slot), .int .i64 ((at_ l184 r190.toNat).give)] ∧ heldC w b201 0 [.int .i64 ((at_ l185 r190.toNat).Kind), .int .i64 ((at_ l185 r190.toNat).Join), .int .i64 ((at_ l185 r190.toNat).Cell), .int .i64 ((at_ l185 r190.toNat).V), .int .i64 ((at_ l185 r190.toNat).Next), .int .i64 ((at_ l185 r190.toNat).Frames), .int .i64 ((at_ l185 r190.toNat).Made), .int .i64 ((at_ l185 r190.toNat).Code), .int .i64 ((at_ l185 r190.toNat).Came)] ∧ True) [2, 6, 8, 9, 14, 16, 17] h (by kernel_rfl) ?_; intro w h
                  change wpAnyE _ _ _ _ _ _ 25 (Array.replicate 25 false) a w
                  have hgo : ∀ w w', CellsGo w w' → (heldC w (blk ca118) (r190.toNat * 9) [.int .i64 r202.head_t_Base, .int .i64 r202.head_t_Frames, .int .i64 r202.head_frame, .int .i64 r202.head_stands, .int .i64 r202.head_code, .int .i64 r202.head_v, .int .i64 r202.kind, .int .i64 r202.slot, .int .i64 r202.give] ∧ heldC w (blk ca121) (r190.toNat * 9) [.int .i64 r217.Kind, .int .i64 r217.Join, .int .i64 r217.Cell, .int .i64 r217.V, .int .i64 r217.Next, .int .i64 r217.Frames, .int .i64 r217.Made, .int .i64 r217.Code, .int .i64 r217.Came] ∧ heldC w b216 0 [.int .i64 r209.head_t_Base, .int .i64 r209.head_t_Frames, .int .i64 r209.head_frame, .int .i64 r209.head_stands, .int .i64 r209.head_code, .int .i64 r209.head_v, .int .i64 r209.kind, .int .i64 r209.slot, .int .i64 r209.give] ∧ heldC w (blk ca121) (r190.toNat * 9) [.int .i64 r217.Kind, .int .i64 r217.Join, .int .i64 r217.Cell, .int .i64 r217.V, .int .i64 r217.Next, .int .i64 r217.Frames, .int .i64 r217.Made, .int .i64 r217.Code, .int .i64 r217.Came] ∧ heldC w b199 0 [.int .i64 ((at_ l184 r190.toNat).head_t_Base), .int .i64 ((at_ l184 r190.toNat).head_t_Frames), .int .i64 ((at_ l184 r190.toNat).head_frame), .int .i64 ((at_ l184 r190.toNat).head_stands), .int .i64 ((at_ l184 r190.toNat).head_code), .int .i64 ((at_ l184 r190.toNat).head_v), .int .i64 ((at_ l184 r190.toNat).kind), .int .i64 ((at_ l184 r190.toNat).slot), .int .i64 ((at_ l184 r190.toNat).give)] ∧ heldC w b201 0 [.int .i64 ((at_ l185 r190.toNat).Kind), .int .i64 ((at_ l185 r190.toNat).Join), .int .i64 ((at_ l185 r190.toNat).Cell), .int .i64 ((at_ l185 r190.toNat).V), .int .i64 ((at_ l185 r190.toNat).Next), .int .i64 ((at_ l185 r190.toNat).Frames), .int .i64 ((at_ l185 r190.toNat).Made), .int .i64 ((at_ l185 r190.toNat).Code), .int .i64 ((at_ l185 r190.toNat).Came)] ∧ True) → heldC w' (blk ca118) (r190.toNat * 9) [.int .i64 r202.head_t_Base, .int .i64 r202.head_t_Frames, .int .i64 r202.head_frame, .int .i64 r202.head_stands, .int .i64 r202.head_code, .int .i64 r202.head_v, .int .i64 r202.kind, .int .i64 r202.slot, .int .i64 r202.give] ∧ heldC w' (blk ca121) (r190.toNat * 9) [.int .i64 r217.Kind, .int .i64 r217.Join, .int .i64 r217.Cell, .int .i64 r217.V, .int .i64 r217.Next, .int .i64 r217.Frames, .int .i64 r217.Made, .int .i64 r217.Code, .int .i64 r217.Came] ∧ heldC w' b216 0 [.int .i64 r209.head_t_Base, .int .i64 r209.head_t_Frames, .int .i64 r209.head_frame, .int .i64 r209.head_stands, .int .i64 r209.head_code, .int .i64 r209.head_v, .int .i64 r209.kind, .int .i64 r209.slot, .int .i64 r209.give] ∧ heldC w' (blk ca121) (r190.toNat * 9) [.int .i64 r217.Kind, .int .i64 r217.Join, .int .i64 r217.Cell, .int .i64 r217.V, .int .i64 r217.Next, .int .i64 r217.Frames, .int .i64 r217.Made, .int .i64 r217.Code, .int .i64 r217.Came] ∧ heldC w' b199 0 [.int .i64 ((at_ l184 r190.toNat).head_t_Base), .int .i64 ((at_ l184 r190.toNat).head_t_Frames), .int .i64 ((at_ l184 r190.toNat).head_frame), .int .i64 ((at_ l184 r190.toNat).head_stands), .int .i64 ((at_ l184 r190.toNat).head_code), .int .i64 ((at_ l184 r190.toNat).head_v), .int .i64 ((at_ l184 r190.toNat).kind), .int .i64 ((at_ l184 r190.toNat).slot), .int .i64 ((at_ l184 r190.toNat).give)] ∧ heldC w' b201 0 [.int .i64 ((at_ l185 r190.toNat).Kind), .int .i64 ((at_ l185 r190.toNat).Join), .int .i64 ((at_ l185 r190.toNat).Cell), .int .i64 ((at_ l185 r190.toNat).V), .int .i64 ((at_ l185 r190.toNat).Next), .int .i64 ((at_ l185 r190.toNat).Frames), .int .i64 ((at_ l185 r190.toNat).Made), .int .i64 ((at_ l185 r190.toNat).Code), .int .i64 ((at_ l185 r190.toNat).Came)] ∧ True := fun w w' g hD => ⟨heldC_go _ _ _ _ _ g hD.1, heldC_go _ _ _ _ _ g hD.2.1, heldC_go _ _ _ _ _ g hD.2.2.1, heldC_go _ _ _ _ _ g hD.2.2.2.1, heldC_go _ _ _ _ _ g hD.2.2.2.2.1, heldC_go _ _ _ _ _ g hD.2.2.2.2.2.1, trivial⟩
                  refine ev 24 0 rfl (by kernel_rfl) (wn rfl) hr (.slice ca118 l120.length cc119) (fun w => by kernel_rfl) ?_; clear hr a; intro a hr
                  refine ev 23 1 rfl (by kernel_rfl) (wn rfl) hr (.int .i64 r190) (fun w => by kernel_rfl) ?_; clear hr a; intro a hr
                  refine evD hgo ⟨⟨(h.pick 8).row_cell enc_T_frames_Op_ok (f := 0) (get_set ((at_okL (by simpa [inr_] using c224)))) rfl, (h.pick 8).row_cell enc_T_frames_Op_ok (f := 1) (get_set ((at_okL (by simpa [inr_] using c224)))) rfl, (h.pick 8).row_cell enc_T_frames_Op_ok (f := 2) (get_set ((at_okL (by simpa [inr_] using c224)))) rfl, (h.pick 8).row_cell enc_T_frames_Op_ok (f := 3) (get_set ((at_okL (by simpa [inr_] using c224)))) rfl, (h.pick 8).row_cell enc_T_frames_Op_ok (f := 4) (get_set ((at_okL (by simpa [inr_] using c224)))) rfl, (h.pick 8).row_cell enc_T_frames_Op_ok (f := 5) (get_set ((at_okL (by simpa [inr_] using c224)))) rfl, (h.pick 8).row_cell enc_T_frames_Op_ok (f := 6) (get_set ((at_okL (by simpa [inr_] using c224)))) rfl, (h.pick 8).row_cell enc_T_frames_Op_ok (f := 7) (get_set ((at_okL (by simpa [inr_] using c224)))) rfl, (h.pick 8).row_cell enc_T_frames_Op_ok (f := 8) (get_set ((at_okL (by simpa [inr_] using c224)))) rfl, trivial⟩, ⟨h.row_cell enc_T_plunderref8_Op_ok (f := 0) (get_set ((at_okL (by simpa [inr_] using c225)))) rfl, h.row_cell enc_T_plunderref8_Op_ok (f := 1) (get_set ((at_okL (by simpa [inr_] using c225)))) rfl, h.row_cell enc_T_plunderref8_Op_ok (f := 2) (get_set ((at_okL (by simpa [inr_] using c225)))) rfl, h.row_cell enc_T_plunderref8_Op_ok (f := 3) (get_set ((at_okL (by simpa [inr_] using c225)))) rfl, h.row_cell enc_T_plunderref8_Op_ok (f := 4) (get_set ((at_okL (by simpa [inr_] using c225)))) rfl, h.row_cell enc_T_plunderref8_Op_ok (f := 5) (get_set ((at_okL (by simpa [inr_] using c225)))) rfl, h.row_cell enc_T_plunderref8_Op_ok (f := 6) (get_set ((at_okL (by simpa [inr_] using c225)))) rfl, h.row_cell enc_T_plunderref8_Op_ok (f := 7) (get_set ((at_okL (by simpa [inr_] using c225)))) rfl, h.row_cell enc_T_plunderref8_Op_ok (f := 8) (get_set ((at_okL (by simpa [inr_] using c225)))) rfl, trivial⟩, ⟨(h.pick 4).cell 0 rfl, (h.pick 4).cell 1 rfl, (h.pick 4).cell 2 rfl, (h.pick 4).cell 3 rfl, (h.pick 4).cell 4 rfl, (h.pick 4).cell 5 rfl, (h.pick 4).cell 6 rfl, (h.pick 4).cell 7 rfl, (h.pick 4).cell 8 rfl, trivial⟩, ⟨h.row_cell enc_T_plunderref8_Op_ok (f := 0) (get_set ((at_okL (by simpa [inr_] using c225)))) rfl, h.row_cell enc_T_plunderref8_Op_ok (f := 1) (get_set ((at_okL (by simpa [inr_] using c225)))) rfl, h.row_cell enc_T_plunderref8_Op_ok (f := 2) (get_set ((at_okL (by simpa [inr_] using c225)))) rfl, h.row_cell enc_T_plunderref8_Op_ok (f := 3) (get_set ((at_okL (by simpa [inr_] using c225)))) rfl, h.row_cell enc_T_plunderref8_Op_ok (f := 4) (get_set ((at_okL (by simpa [inr_] using c225)))) rfl, h.row_cell enc_T_plunderref8_Op_ok (f := 5) (get_set ((at_okL (by simpa [inr_] using c225)))) rfl, h.row_cell enc_T_plunderref8_Op_ok (f := 6) (get_set ((at_okL (by simpa [inr_] using c225)))) rfl, h.row_cell enc_T_plunderref8_Op_ok (f := 7) (get_set ((at_okL (by simpa [inr_] using c225)))) rfl, h.row_cell enc_T_plunderref8_Op_ok (f := 8) (get_set ((at_okL (by simpa [inr_] using c225)))) rfl, trivial⟩, ⟨(h.pick 13).cell 0 rfl, (h.pick 13).cell 1 rfl, (h.pick 13).cell 2 rfl, (h.pick 13).cell 3 rfl, (h.pick 13).cell 4 rfl, (h.pick 13).cell 5 rfl, (h.pick 13).cell 6 rfl, (h.pick 13).cell 7 rfl, (h.pick 13).cell 8 rfl, trivial⟩, ⟨(h.pick 12).cell 0 rfl, (h.pick 12).cell 1 rfl, (h.pick 12).cell 2 rfl, (h.pick 12).cell 3 rfl, (h.pick 12).cell 4 rfl, (h.pick 12).cell 5 rfl, (h.pick 12).cell 6 rfl, (h.pick 12).cell 7 rfl, (h.pick 12).cell 8 rfl, trivial⟩, trivial⟩ 22 2 rfl (by kernel_rfl) (wn rfl) hr (.pointer (some ⟨blk ca118, r190.toNat * 9, none⟩)) (fun w => ri_row (k := .i64) (E := 50) rfl (by kernel_rfl) (by kernel_rfl) (by kernel_rfl) (by kernel_rfl) (h.pick 8) c224) ?_; clear hr a; intro a hr
                  refine ev 21 4 rfl (by kernel_rfl) (wn rfl) hr (.slice ca121 l123.length cc122) (fun w => by kernel_rfl) ?_; clear hr a; intro a hr
                  refine ev 20 5 rfl (by kernel_rfl) (wn rfl) hr (.int .i64 r190) (fun w => by kernel_rfl) ?_; clear hr a; intro a hr
                  refine evD hgo ⟨⟨(h.pick 8).row_cell enc_T_frames_Op_ok (f := 0) (get_set ((at_okL (by simpa [inr_] using c224)))) rfl, (h.pick 8).row_cell enc_T_frames_Op_ok (f := 1) (get_set ((at_okL (by simpa [inr_] using c224)))) rfl, (h.pick 8).row_cell enc_T_frames_Op_ok (f := 2) (get_set ((at_okL (by simpa [inr_] using c224)))) rfl, (h.pick 8).row_cell enc_T_frames_Op_ok (f := 3) (get_set ((at_okL (by simpa [inr_] using c224)))) rfl, (h.pick 8).row_cell enc_T_frames_Op_ok (f := 4) (get_set ((at_okL (by simpa [inr_] using c224)))) rfl, (h.pick 8).row_cell enc_T_frames_Op_ok (f := 5) (get_set ((at_okL (by simpa [inr_] using c224)))) rfl, (h.pick 8).row_cell enc_T_frames_Op_ok (f := 6) (get_set ((at_okL (by simpa [inr_] using c224)))) rfl, (h.pick 8).row_cell enc_T_frames_Op_ok (f := 7) (get_set ((at_okL (by simpa [inr_] using c224)))) rfl, (h.pick 8).row_cell enc_T_frames_Op_ok (f := 8) (get_set ((at_okL (by simpa [inr_] using c224)))) rfl, trivial⟩, ⟨h.row_cell enc_T_plunderref8_Op_ok (f := 0) (get_set ((at_okL (by simpa [inr_] using c225)))) rfl, h.row_cell enc_T_plunderref8_Op_ok (f := 1) (get_set ((at_okL (by simpa [inr_] using c225)))) rfl, h.row_cell enc_T_plunderref8_Op_ok (f := 2) (get_set ((at_okL (by simpa [inr_] using c225)))) rfl, h.row_cell enc_T_plunderref8_Op_ok (f := 3) (get_set ((at_okL (by simpa [inr_] using c225)))) rfl, h.row_cell enc_T_plunderref8_Op_ok (f := 4) (get_set ((at_okL (by simpa [inr_] using c225)))) rfl, h.row_cell enc_T_plunderref8_Op_ok (f := 5) (get_set ((at_okL (by simpa [inr_] using c225)))) rfl, h.row_cell enc_T_plunderref8_Op_ok (f := 6) (get_set ((at_okL (by simpa [inr_] using c225)))) rfl, h.row_cell enc_T_plunderref8_Op_ok (f := 7) (get_set ((at_okL (by simpa [inr_] using c225)))) rfl, h.row_cell enc_T_plunderref8_Op_ok (f := 8) (get_set ((at_okL (by simpa [inr_] using c225)))) rfl, trivial⟩, ⟨(h.pick 4).cell 0 rfl, (h.pick 4).cell 1 rfl, (h.pick 4).cell 2 rfl, (h.pick 4).cell 3 rfl, (h.pick 4).cell 4 rfl, (h.pick 4).cell 5 rfl, (h.pick 4).cell 6 rfl, (h.pick 4).cell 7 rfl, (h.pick 4).cell 8 rfl, trivial⟩, ⟨h.row_cell enc_T_plunderref8_Op_ok (f := 0) (get_set ((at_okL (by simpa [inr_] using c225)))) rfl, h.row_cell enc_T_plunderref8_Op_ok (f := 1) (get_set ((at_okL (by simpa [inr_] using c225)))) rfl, h.row_cell enc_T_plunderref8_Op_ok (f := 2) (get_set ((at_okL (by simpa [inr_] using c225)))) rfl, h.row_cell enc_T_plunderref8_Op_ok (f := 3) (get_set ((at_okL (by simpa [inr_] using c225)))) rfl, h.row_cell enc_T_plunderref8_Op_ok (f := 4) (get_set ((at_okL (by simpa [inr_] using c225)))) rfl, h.row_cell enc_T_plunderref8_Op_ok (f := 5) (get_set ((at_okL (by simpa [inr_] using c225)))) rfl, h.row_cell enc_T_plunderref8_Op_ok (f := 6) (get_set ((at_okL (by simpa [inr_] using c225)))) rfl, h.row_cell enc_T_plunderref8_Op_ok (f := 7) (get_set ((at_okL (by simpa [inr_] using c225)))) rfl, h.row_cell enc_T_plunderref8_Op_ok (f := 8) (get_set ((at_okL (by simpa [inr_] using c225)))) rfl, trivial⟩, ⟨(h.pick 13).cell 0 rfl, (h.pick 13).cell 1 rfl, (h.pick 13).cell 2 rfl, (h.pick 13).cell 3 rfl, (h.pick 13).cell 4 rfl, (h.pick 13).cell 5 rfl, (h.pick 13).cell 6 rfl, (h.pick 13).cell 7 rfl, (h.pick 13).cell 8 rfl, trivial⟩, ⟨(h.pick 12).cell 0 rfl, (h.pick 12).cell 1 rfl, (h.pick 12).cell 2 rfl, (h.pick 12).cell 3 rfl, (h.pick 12).cell 4 rfl, (h.pick 12).cell 5 rfl, (h.pick 12).cell 6 rfl, (h.pick 12).cell 7 rfl, (h.pick 12).cell 8 rfl, trivial⟩, trivial⟩ 19 6 rfl (by kernel_rfl) (wn rfl) hr (.pointer (some ⟨blk ca121, r190.toNat * 9, none⟩)) (fun w => ri_row (k := .i64) (E := 78) rfl (by kernel_rfl) (by kernel_rfl) (by kernel_rfl) (by kernel_rfl) h c225) ?_; clear hr a; intro a hr
                  refine el [2, 6, 8, 9, 14, 16, 17] (b := blk ca118) (off := r190.toNat * 9) (cs := [.int .i64 r202.head_t_Base, .int .i64 r202.head_t_Frames, .int .i64 r202.head_frame, .int .i64 r202.head_stands, .int .i64 r202.head_code, .int .i64 r202.head_v, .int .i64 r202.kind, .int .i64 r202.slot, .int .i64 r202.give]) (fun _ hk => ⟨hk, fun w hD => hD.1⟩) 18 3 rfl (by kernel_rfl) (wn rfl) hr (.agg #[.int .i64 r202.head_t_Base, .int .i64 r202.head_t_Frames, .int .i64 r202.head_frame, .int .i64 r202.head_stands, .int .i64 r202.head_code, .int .i64 r202.head_v, .int .i64 r202.kind, .int .i64 r202.slot, .int .i64 r202.give]) ⟨(h.pick 8).row_cell enc_T_frames_Op_ok (f := 0) (get_set ((at_okL (by simpa [inr_] using c224)))) rfl, (h.pick 8).row_cell enc_T_frames_Op_ok (f := 1) (get_set ((at_okL (by simpa [inr_] using c224)))) rfl, (h.pick 8).row_cell enc_T_frames_Op_ok (f := 2) (get_set ((at_okL (by simpa [inr_] using c224)))) rfl, (h.pick 8).row_cell enc_T_frames_Op_ok (f := 3) (get_set ((at_okL (by simpa [inr_] using c224)))) rfl, (h.pick 8).row_cell enc_T_frames_Op_ok (f := 4) (get_set ((at_okL (by simpa [inr_] using c224)))) rfl, (h.pick 8).row_cell enc_T_frames_Op_ok (f := 5) (get_set ((at_okL (by simpa [inr_] using c224)))) rfl, (h.pick 8).row_cell enc_T_frames_Op_ok (f := 6) (get_set ((at_okL (by simpa [inr_] using c224)))) rfl, (h.pick 8).row_cell enc_T_frames_Op_ok (f := 7) (get_set ((at_okL (by simpa [inr_] using c224)))) rfl, (h.pick 8).row_cell enc_T_frames_Op_ok (f := 8) (get_set ((at_okL (by simpa [inr_] using c224)))) rfl, trivial⟩ (fun w hc => rlm (cs := [.int .i64 r202.head_t_Base, .int .i64 r202.head_t_Frames, .int .i64 r202.head_frame, .int .i64 r202.head_stands, .int .i64 r202.head_code, .int .i64 r202.head_v, .int .i64 r202.kind, .int .i64 r202.slot, .int .i64 r202.give]) rfl (by kernel_rfl) (by kernel_rfl) (by kernel_rfl) hc) ?_; clear hr a; intro a hr
                  refine el [2, 6, 8, 9, 14, 16, 17] (b := blk ca121) (off := r190.toNat * 9) (cs := [.int .i64 r217.Kind, .int .i64 r217.Join, .int .i64 r217.Cell, .int .i64 r217.V, .int .i64 r217.Next, .int .i64 r217.Frames, .int .i64 r217.Made, .int .i64 r217.Code, .int .i64 r217.Came]) (fun _ hk => ⟨hk, fun w hD => hD.2.1⟩) 17 7 rfl (by kernel_rfl) (wn rfl) hr (.agg #[.int .i64 r217.Kind, .int .i64 r217.Join, .int .i64 r217.Cell, .int .i64 r217.V, .int .i64 r217.Next, .int .i64 r217.Frames, .int .i64 r217.Made, .int .i64 r217.Code, .int .i64 r217.Came]) ⟨h.row_cell enc_T_plunderref8_Op_ok (f := 0) (get_set ((at_okL (by simpa [inr_] using c225)))) rfl, h.row_cell enc_T_plunderref8_Op_ok (f := 1) (get_set ((at_okL (by simpa [inr_] using c225)))) rfl, h.row_cell enc_T_plunderref8_Op_ok (f := 2) (get_set ((at_okL (by simpa [inr_] using c225)))) rfl, h.row_cell enc_T_plunderref8_Op_ok (f := 3) (get_set ((at_okL (by simpa [inr_] using c225)))) rfl, h.row_cell enc_T_plunderref8_Op_ok (f := 4) (get_set ((at_okL (by simpa [inr_] using c225)))) rfl, h.row_cell enc_T_plunderref8_Op_ok (f := 5) (get_set ((at_okL (by simpa [inr_] using c225)))) rfl, h.row_cell enc_T_plunderref8_Op_ok (f := 6) (get_set ((at_okL (by simpa [inr_] using c225)))) rfl, h.row_cell enc_T_plunderref8_Op_ok (f := 7) (get_set ((at_okL (by simpa [inr_] using c225)))) rfl, h.row_cell enc_T_plunderref8_Op_ok (f := 8) (get_set ((at_okL (by simpa [inr_] using c225)))) rfl, trivial⟩ (fun w hc => rlm (cs := [.int .i64 r217.Kind, .int .i64 r217.Join, .int .i64 r217.Cell, .int .i64 r217.V, .int .i64 r217.Next, .int .i64 r217.Frames, .int .i64 r217.Made, .int .i64 r217.Code, .int .i64 r217.Came]) rfl (by kernel_rfl) (by kernel_rfl) (by kernel_rfl) hc) ?_; clear hr a; intro a hr
                  refine e_one (fuel := 16) (i := 8) (by kernel_rfl) rfl ?_
                  have hc := plunderlaw8_answers_ok (H := e227) (h := h)
                  refine op_call (wn rfl) rfl rfl hr (f := 38) (args := #[.agg #[.int .i64 r202.head_t_Base, .int .i64 r202.head_t_Frames, .int .i64 r202.head_frame, .int .i64 r202.head_stands, .int .i64 r202.head_code, .int .i64 r202.head_v, .int .i64 r202.kind, .int .i64 r202.slot, .int .i64 r202.give], .agg #[.int .i64 r217.Kind, .int .i64 r217.Join, .int .i64 r217.Cell, .int .i64 r217.V, .int .i64 r217.Next, .int .i64 r217.Frames, .int .i64 r217.Made, .int .i64 r217.Code, .int .i64 r217.Came]]) (by kernel_rfl) hc ?_; clear hc h
                  rintro _ w ⟨rfl, h⟩; refine ⟨_, rfl, ?_⟩
                  clear hr a; intro a hr
                  refine wpList_nil ?_; refine then_normal ?_
                  refine ⟨fun _ => ⟨⟨(h.pick 8).row_cell enc_T_frames_Op_ok (f := 0) (get_set ((at_okL (by simpa [inr_] using c224)))) rfl, (h.pick 8).row_cell enc_T_frames_Op_ok (f := 1) (get_set ((at_okL (by simpa [inr_] using c224)))) rfl, (h.pick 8).row_cell enc_T_frames_Op_ok (f := 2) (get_set ((at_okL (by simpa [inr_] using c224)))) rfl, (h.pick 8).row_cell enc_T_frames_Op_ok (f := 3) (get_set ((at_okL (by simpa [inr_] using c224)))) rfl, (h.pick 8).row_cell enc_T_frames_Op_ok (f := 4) (get_set ((at_okL (by simpa [inr_] using c224)))) rfl, (h.pick 8).row_cell enc_T_frames_Op_ok (f := 5) (get_set ((at_okL (by simpa [inr_] using c224)))) rfl, (h.pick 8).row_cell enc_T_frames_Op_ok (f := 6) (get_set ((at_okL (by simpa [inr_] using c224)))) rfl, (h.pick 8).row_cell enc_T_frames_Op_ok (f := 7) (get_set ((at_okL (by simpa [inr_] using c224)))) rfl, (h.pick 8).row_cell enc_T_frames_Op_ok (f := 8) (get_set ((at_okL (by simpa [inr_] using c224)))) rfl, trivial⟩, ⟨h.row_cell enc_T_plunderref8_Op_ok (f := 0) (get_set ((at_okL (by simpa [inr_] using c225)))) rfl, h.row_cell enc_T_plunderref8_Op_ok (f := 1) (get_set ((at_okL (by simpa [inr_] using c225)))) rfl, h.row_cell enc_T_plunderref8_Op_ok (f := 2) (get_set ((at_okL (by simpa [inr_] using c225)))) rfl, h.row_cell enc_T_plunderref8_Op_ok (f := 3) (get_set ((at_okL (by simpa [inr_] using c225)))) rfl, h.row_cell enc_T_plunderref8_Op_ok (f := 4) (get_set ((at_okL (by simpa [inr_] using c225)))) rfl, h.row_cell enc_T_plunderref8_Op_ok (f := 5) (get_set ((at_okL (by simpa [inr_] using c225)))) rfl, h.row_cell enc_T_plunderref8_Op_ok (f := 6) (get_set ((at_okL (by simpa [inr_] using c225)))) rfl, h.row_cell enc_T_plunderref8_Op_ok (f := 7) (get_set ((at_okL (by simpa [inr_] using c225)))) rfl, h.row_cell enc_T_plunderref8_Op_ok (f := 8) (get_set ((at_okL (by simpa [inr_] using c225)))) rfl, trivial⟩, ⟨(h.pick 4).cell 0 rfl, (h.pick 4).cell 1 rfl, (h.pick 4).cell 2 rfl, (h.pick 4).cell 3 rfl, (h.pick 4).cell 4 rfl, (h.pick 4).cell 5 rfl, (h.pick 4).cell 6 rfl, (h.pick 4).cell 7 rfl, (h.pick 4).cell 8 rfl, trivial⟩, ⟨h.row_cell enc_T_plunderref8_Op_ok (f := 0) (get_set ((at_okL (by simpa [inr_] using c225)))) rfl, h.row_cell enc_T_plunderref8_Op_ok (f := 1) (get_set ((at_okL (by simpa [inr_] using c225)))) rfl, h.row_cell enc_T_plunderref8_Op_ok (f := 2) (get_set ((at_okL (by simpa [inr_] using c225)))) rfl, h.row_cell enc_T_plunderref8_Op_ok (f := 3) (get_set ((at_okL (by simpa [inr_] using c225)))) rfl, h.row_cell enc_T_plunderref8_Op_ok (f := 4) (get_set ((at_okL (by simpa [inr_] using c225)))) rfl, h.row_cell enc_T_plunderref8_Op_ok (f := 5) (get_set ((at_okL (by simpa [inr_] using c225)))) rfl, h.row_cell enc_T_plunderref8_Op_ok (f := 6) (get_set ((at_okL (by simpa [inr_] using c225)))) rfl, h.row_cell enc_T_plunderref8_Op_ok (f := 7) (get_set ((at_okL (by simpa [inr_] using c225)))) rfl, h.row_cell enc_T_plunderref8_Op_ok (f := 8) (get_set ((at_okL (by simpa [inr_] using c225)))) rfl, trivial⟩, ⟨(h.pick 13).cell 0 rfl, (h.pick 13).cell 1 rfl, (h.pick 13).cell 2 rfl, (h.pick 13).cell 3 rfl, (h.pick 13).cell 4 rfl, (h.pick 13).cell 5 rfl, (h.pick 13).cell 6 rfl, (h.pick 13).cell 7 rfl, (h.pick 13).cell 8 rfl, trivial⟩, ⟨(h.pick 12).cell 0 rfl, (h.pick 12).cell 1 rfl, (h.pick 12).cell 2 rfl, (h.pick 12).cell 3 rfl, (h.pick 12).cell 4 rfl, (h.pick 12).cell 5 rfl, (h.pick 12).cell 6 rfl, (h.pick 12).cell 7 rfl, (h.pick 12).cell 8 rfl, trivial⟩, trivial⟩, ?_⟩
                  refine evD hgo ⟨⟨(h.pick 8).row_cell enc_T_frames_Op_ok (f := 0) (get_set ((at_okL (by simpa [inr_] using c224)))) rfl, (h.pick 8).row_cell enc_T_frames_Op_ok (f := 1) (get_set ((at_okL (by simpa [inr_] using c224)))) rfl, (h.pick 8).row_cell enc_T_frames_Op_ok (f := 2) (get_set ((at_okL (by simpa [inr_] using c224)))) rfl, (h.pick 8).row_cell enc_T_frames_Op_ok (f := 3) (get_set ((at_okL (by simpa [inr_] using c224)))) rfl, (h.pick 8).row_cell enc_T_frames_Op_ok (f := 4) (get_set ((at_okL (by simpa [inr_] using c224)))) rfl, (h.pick 8).row_cell enc_T_frames_Op_ok (f := 5) (get_set ((at_okL (by simpa [inr_] using c224)))) rfl, (h.pick 8).row_cell enc_T_frames_Op_ok (f := 6) (get_set ((at_okL (by simpa [inr_] using c224)))) rfl, (h.pick 8).row_cell enc_T_frames_Op_ok (f := 7) (get_set ((at_okL (by simpa [inr_] using c224)))) rfl, (h.pick 8).row_cell enc_T_frames_Op_ok (f := 8) (get_set ((at_okL (by simpa [inr_] using c224)))) rfl, trivial⟩, ⟨h.row_cell enc_T_plunderref8_Op_ok (f := 0) (get_set ((at_okL (by simpa [inr_] using c225)))) rfl, h.row_cell enc_T_plunderref8_Op_ok (f := 1) (get_set ((at_okL (by simpa [inr_] using c225)))) rfl, h.row_cell enc_T_plunderref8_Op_ok (f := 2) (get_set ((at_okL (by simpa [inr_] using c225)))) rfl, h.row_cell enc_T_plunderref8_Op_ok (f := 3) (get_set ((at_okL (by simpa [inr_] using c225)))) rfl, h.row_cell enc_T_plunderref8_Op_ok (f := 4) (get_set ((at_okL (by simpa [inr_] using c225)))) rfl, h.row_cell enc_T_plunderref8_Op_ok (f := 5) (get_set ((at_okL (by simpa [inr_] using c225)))) rfl, h.row_cell enc_T_plunderref8_Op_ok (f := 6) (get_set ((at_okL (by simpa [inr_] using c225)))) rfl, h.row_cell enc_T_plunderref8_Op_ok (f := 7) (get_set ((at_okL (by simpa [inr_] using c225)))) rfl, h.row_cell enc_T_plunderref8_Op_ok (f := 8) (get_set ((at_okL (by simpa [inr_] using c225)))) rfl, trivial⟩, ⟨(h.pick 4).cell 0 rfl, (h.pick 4).cell 1 rfl, (h.pick 4).cell 2 rfl, (h.pick 4).cell 3 rfl, (h.pick 4).cell 4 rfl, (h.pick 4).cell 5 rfl, (h.pick 4).cell 6 rfl, (h.pick 4).cell 7 rfl, (h.pick 4).cell 8 rfl, trivial⟩, ⟨h.row_cell enc_T_plunderref8_Op_ok (f := 0) (get_set ((at_okL (by simpa [inr_] using c225)))) rfl, h.row_cell enc_T_plunderref8_Op_ok (f := 1) (get_set ((at_okL (by simpa [inr_] using c225)))) rfl, h.row_cell enc_T_plunderref8_Op_ok (f := 2) (get_set ((at_okL (by simpa [inr_] using c225)))) rfl, h.row_cell enc_T_plunderref8_Op_ok (f := 3) (get_set ((at_okL (by simpa [inr_] using c225)))) rfl, h.row_cell enc_T_plunderref8_Op_ok (f := 4) (get_set ((at_okL (by simpa [inr_] using c225)))) rfl, h.row_cell enc_T_plunderref8_Op_ok (f := 5) (get_set ((at_okL (by simpa [inr_] using c225)))) rfl, h.row_cell enc_T_plunderref8_Op_ok (f := 6) (get_set ((at_okL (by simpa [inr_] using c225)))) rfl, h.row_cell enc_T_plunderref8_Op_ok (f := 7) (get_set ((at_okL (by simpa [inr_] using c225)))) rfl, h.row_cell enc_T_plunderref8_Op_ok (f := 8) (get_set ((at_okL (by simpa [inr_] using c225)))) rfl, trivial⟩, ⟨(h.pick 13).cell 0 rfl, (h.pick 13).cell 1 rfl, (h.pick 13).cell 2 rfl, (h.pick 13).cell 3 rfl, (h.pick 13).cell 4 rfl, (h.pick 13).cell 5 rfl, (h.pick 13).cell 6 rfl, (h.pick 13).cell 7 rfl, (h.pick 13).cell 8 rfl, trivial⟩, ⟨(h.pick 12).cell 0 rfl, (h.pick 12).cell 1 rfl, (h.pick 12).cell 2 rfl, (h.pick 12).cell 3 rfl, (h.pick 12).cell 4 rfl, (h.pick 12).cell 5 rfl, (h.pick 12).cell 6 rfl, (h.pick 12).cell 7 rfl, (h.pick 12).cell 8 rfl, trivial⟩, trivial⟩ 15 9 rfl (by kernel_rfl) (wn rfl) hr (.bool (!r226)) (fun w => by kernel_rfl) ?_; clear hr a; intro a hr
                  refine ev 14 10 rfl (by kernel_rfl) (wn rfl) hr (.bool (!r226)) (fun w => by kernel_rfl) ?_; clear hr a; intro a hr
                  refine ev 13 12 rfl (by kernel_rfl) ((wg hr rfl rfl rfl (b' := (!r226)) (by kernel_rfl)).trans (by rw [show (!r226) = false from (by rw [show r226 = true from (c228)]; rfl)]; rfl)) hr (.slice ca121 l123.length cc122) (fun w => by kernel_rfl) ?_; clear hr a; intro a hr
                  refine ev 12 13 rfl (by kernel_rfl) ((wg hr rfl rfl rfl (b' := (!r226)) (by kernel_rfl)).trans (by rw [show (!r226) = false from (by rw [show r226 = true from (c228)]; rfl)]; rfl)) hr (.int .i64 r190) (fun w => by kernel_rfl) ?_; clear hr a; intro a hr
                  refine evD hgo ⟨⟨(h.pick 8).row_cell enc_T_frames_Op_ok (f := 0) (get_set ((at_okL (by simpa [inr_] using c224)))) rfl, (h.pick 8).row_cell enc_T_frames_Op_ok (f := 1) (get_set ((at_okL (by simpa [inr_] using c224)))) rfl, (h.pick 8).row_cell enc_T_frames_Op_ok (f := 2) (get_set ((at_okL (by simpa [inr_] using c224)))) rfl, (h.pick 8).row_cell enc_T_frames_Op_ok (f := 3) (get_set ((at_okL (by simpa [inr_] using c224)))) rfl, (h.pick 8).row_cell enc_T_frames_Op_ok (f := 4) (get_set ((at_okL (by simpa [inr_] using c224)))) rfl, (h.pick 8).row_cell enc_T_frames_Op_ok (f := 5) (get_set ((at_okL (by simpa [inr_] using c224)))) rfl, (h.pick 8).row_cell enc_T_frames_Op_ok (f := 6) (get_set ((at_okL (by simpa [inr_] using c224)))) rfl, (h.pick 8).row_cell enc_T_frames_Op_ok (f := 7) (get_set ((at_okL (by simpa [inr_] using c224)))) rfl, (h.pick 8).row_cell enc_T_frames_Op_ok (f := 8) (get_set ((at_okL (by simpa [inr_] using c224)))) rfl, trivial⟩, ⟨h.row_cell enc_T_plunderref8_Op_ok (f := 0) (get_set ((at_okL (by simpa [inr_] using c225)))) rfl, h.row_cell enc_T_plunderref8_Op_ok (f := 1) (get_set ((at_okL (by simpa [inr_] using c225)))) rfl, h.row_cell enc_T_plunderref8_Op_ok (f := 2) (get_set ((at_okL (by simpa [inr_] using c225)))) rfl, h.row_cell enc_T_plunderref8_Op_ok (f := 3) (get_set ((at_okL (by simpa [inr_] using c225)))) rfl, h.row_cell enc_T_plunderref8_Op_ok (f := 4) (get_set ((at_okL (by simpa [inr_] using c225)))) rfl, h.row_cell enc_T_plunderref8_Op_ok (f := 5) (get_set ((at_okL (by simpa [inr_] using c225)))) rfl, h.row_cell enc_T_plunderref8_Op_ok (f := 6) (get_set ((at_okL (by simpa [inr_] using c225)))) rfl, h.row_cell enc_T_plunderref8_Op_ok (f := 7) (get_set ((at_okL (by simpa [inr_] using c225)))) rfl, h.row_cell enc_T_plunderref8_Op_ok (f := 8) (get_set ((at_okL (by simpa [inr_] using c225)))) rfl, trivial⟩, ⟨(h.pick 4).cell 0 rfl, (h.pick 4).cell 1 rfl, (h.pick 4).cell 2 rfl, (h.pick 4).cell 3 rfl, (h.pick 4).cell 4 rfl, (h.pick 4).cell 5 rfl, (h.pick 4).cell 6 rfl, (h.pick 4).cell 7 rfl, (h.pick 4).cell 8 rfl, trivial⟩, ⟨h.row_cell enc_T_plunderref8_Op_ok (f := 0) (get_set ((at_okL (by simpa [inr_] using c225)))) rfl, h.row_cell enc_T_plunderref8_Op_ok (f := 1) (get_set ((at_okL (by simpa [inr_] using c225)))) rfl, h.row_cell enc_T_plunderref8_Op_ok (f := 2) (get_set ((at_okL (by simpa [inr_] using c225)))) rfl, h.row_cell enc_T_plunderref8_Op_ok (f := 3) (get_set ((at_okL (by simpa [inr_] using c225)))) rfl, h.row_cell enc_T_plunderref8_Op_ok (f := 4) (get_set ((at_okL (by simpa [inr_] using c225)))) rfl, h.row_cell enc_T_plunderref8_Op_ok (f := 5) (get_set ((at_okL (by simpa [inr_] using c225)))) rfl, h.row_cell enc_T_plunderref8_Op_ok (f := 6) (get_set ((at_okL (by simpa [inr_] using c225)))) rfl, h.row_cell enc_T_plunderref8_Op_ok (f := 7) (get_set ((at_okL (by simpa [inr_] using c225)))) rfl, h.row_cell enc_T_plunderref8_Op_ok (f := 8) (get_set ((at_okL (by simpa [inr_] using c225)))) rfl, trivial⟩, ⟨(h.pick 13).cell 0 rfl, (h.pick 13).cell 1 rfl, (h.pick 13).cell 2 rfl, (h.pick 13).cell 3 rfl, (h.pick 13).cell 4 rfl, (h.pick 13).cell 5 rfl, (h.pick 13).cell 6 rfl, (h.pick 13).cell 7 rfl, (h.pick 13).cell 8 rfl, trivial⟩, ⟨(h.pick 12).cell 0 rfl, (h.pick 12).cell 1 rfl, (h.pick 12).cell 2 rfl, (h.pick 12).cell 3 rfl, (h.pick 12).cell 4 rfl, (h.pick 12).cell 5 rfl, (h.pick 12).cell 6 rfl, (h.pick 12).cell 7 rfl, (h.pick 12).cell 8 rfl, trivial⟩, trivial⟩ 11 14 rfl (by kernel_rfl) ((wg hr rfl rfl rfl (b' := (!r226)) (by kernel_rfl)).trans (by rw [show (!r226) = false from (by rw [show r226 = true from (c228)]; rfl)]; rfl)) hr (.pointer (some ⟨blk ca121, r190.toNat * 9, none⟩)) (fun w => ri_row (k := .i64) (E := 78) rfl (by kernel_rfl) (by kernel_rfl) (by kernel_rfl) (by kernel_rfl) h c225) ?_; clear hr a; intro a hr
                  refine el [2, 6, 8, 9, 14, 16, 17] (b := b216) (off := 0) (cs := [.int .i64 r209.head_t_Base, .int .i64 r209.head_t_Frames, .int .i64 r209.head_frame, .int .i64 r209.head_stands, .int .i64 r209.head_code, .int .i64 r209.head_v, .int .i64 r209.kind, .int .i64 r209.slot, .int .i64 r209.give]) (fun _ hk => ⟨hk, fun w hD => hD.2.2.1⟩) 10 11 rfl (by kernel_rfl) ((wg hr rfl rfl rfl (b' := (!r226)) (by kernel_rfl)).trans (by rw [show (!r226) = false from (by rw [show r226 = true from (c228)]; rfl)]; rfl)) hr (.agg #[.int .i64 r209.head_t_Base, .int .i64 r209.head_t_Frames, .int .i64 r209.head_frame, .int .i64 r209.head_stands, .int .i64 r209.head_code, .int .i64 r209.head_v, .int .i64 r209.kind, .int .i64 r209.slot, .int .i64 r209.give]) ⟨(h.pick 4).cell 0 rfl, (h.pick 4).cell 1 rfl, (h.pick 4).cell 2 rfl, (h.pick 4).cell 3 rfl, (h.pick 4).cell 4 rfl, (h.pick 4).cell 5 rfl, (h.pick 4).cell 6 rfl, (h.pick 4).cell 7 rfl, (h.pick 4).cell 8 rfl, trivial⟩ (fun w hc => rlm (cs := [.int .i64 r209.head_t_Base, .int .i64 r209.head_t_Frames, .int .i64 r209.head_frame, .int .i64 r209.head_stands, .int .i64 r209.head_code, .int .i64 r209.head_v, .int .i64 r209.kind, .int .i64 r209.slot, .int .i64 r209.give]) rfl (by kernel_rfl) (by kernel_rfl) (by kernel_rfl) hc) ?_; clear hr a; intro a hr
                  refine el [2, 6, 8, 9, 14, 16, 17] (b := blk ca121) (off := r190.toNat * 9) (cs := [.int .i64 r217.Kind, .int .i64 r217.Join, .int .i64 r217.Cell, .int .i64 r217.V, .int .i64 r217.Next, .int .i64 r217.Frames, .int .i64 r217.Made, .int .i64 r217.Code, .int .i64 r217.Came]) (fun _ hk => ⟨hk, fun w hD => hD.2.2.2.1⟩) 9 15 rfl (by kernel_rfl) ((wg hr rfl rfl rfl (b' := (!r226)) (by kernel_rfl)).trans (by rw [show (!r226) = false from (by rw [show r226 = true from (c228)]; rfl)]; rfl)) hr (.agg #[.int .i64 r217.Kind, .int .i64 r217.Join, .int .i64 r217.Cell, .int .i64 r217.V, .int .i64 r217.Next, .int .i64 r217.Frames, .int .i64 r217.Made, .int .i64 r217.Code, .int .i64 r217.Came]) ⟨h.row_cell enc_T_plunderref8_Op_ok (f := 0) (get_set ((at_okL (by simpa [inr_] using c225)))) rfl, h.row_cell enc_T_plunderref8_Op_ok (f := 1) (get_set ((at_okL (by simpa [inr_] using c225)))) rfl, h.row_cell enc_T_plunderref8_Op_ok (f := 2) (get_set ((at_okL (by simpa [inr_] using c225)))) rfl, h.row_cell enc_T_plunderref8_Op_ok (f := 3) (get_set ((at_okL (by simpa [inr_] using c225)))) rfl, h.row_cell enc_T_plunderref8_Op_ok (f := 4) (get_set ((at_okL (by simpa [inr_] using c225)))) rfl, h.row_cell enc_T_plunderref8_Op_ok (f := 5) (get_set ((at_okL (by simpa [inr_] using c225)))) rfl, h.row_cell enc_T_plunderref8_Op_ok (f := 6) (get_set ((at_okL (by simpa [inr_] using c225)))) rfl, h.row_cell enc_T_plunderref8_Op_ok (f := 7) (get_set ((at_okL (by simpa [inr_] using c225)))) rfl, h.row_cell enc_T_plunderref8_Op_ok (f := 8) (get_set ((at_okL (by simpa [inr_] using c225)))) rfl, trivial⟩ (fun w hc => rlm (cs := [.int .i64 r217.Kind, .int .i64 r217.Join, .int .i64 r217.Cell, .int .i64 r217.V, .int .i64 r217.Next, .int .i64 r217.Frames, .int .i64 r217.Made, .int .i64 r217.Code, .int .i64 r217.Came]) rfl (by kernel_rfl) (by kernel_rfl) (by kernel_rfl) hc) ?_; clear hr a; intro a hr
                  refine e_one (fuel := 8) (i := 16) (by kernel_rfl) rfl ?_
                  have hc := plunderlaw8_answers_ok (H := e230) (h := h)
                  refine op_call ((wg hr rfl rfl rfl (b' := (!r226)) (by kernel_rfl)).trans (by rw [show (!r226) = false from (by rw [show r226 = true from (c228)]; rfl)]; rfl)) rfl rfl hr (f := 38) (args := #[.agg #[.int .i64 r209.head_t_Base, .int .i64 r209.head_t_Frames, .int .i64 r209.head_frame, .int .i64 r209.head_stands, .int .i64 r209.head_code, .int .i64 r209.head_v, .int .i64 r209.kind, .int .i64 r209.slot, .int .i64 r209.give], .agg #[.int .i64 r217.Kind, .int .i64 r217.Join, .int .i64 r217.Cell, .int .i64 r217.V, .int .i64 r217.Next, .int .i64 r217.Frames, .int .i64 r217.Made, .int .i64 r217.Code, .int .i64 r217.Came]]) (by kernel_rfl) hc ?_; clear hc h
                  rintro _ w ⟨rfl, h⟩; refine ⟨_, rfl, ?_⟩
                  clear hr a; intro a hr
                  refine wpList_nil ?_; refine then_normal ?_
                  refine ⟨fun _ => ⟨⟨(h.pick 8).row_cell enc_T_frames_Op_ok (f := 0) (get_set ((at_okL (by simpa [inr_] using c224)))) rfl, (h.pick 8).row_cell enc_T_frames_Op_ok (f := 1) (get_set ((at_okL (by simpa [inr_] using c224)))) rfl, (h.pick 8).row_cell enc_T_frames_Op_ok (f := 2) (get_set ((at_okL (by simpa [inr_] using c224)))) rfl, (h.pick 8).row_cell enc_T_frames_Op_ok (f := 3) (get_set ((at_okL (by simpa [inr_] using c224)))) rfl, (h.pick 8).row_cell enc_T_frames_Op_ok (f := 4) (get_set ((at_okL (by simpa [inr_] using c224)))) rfl, (h.pick 8).row_cell enc_T_frames_Op_ok (f := 5) (get_set ((at_okL (by simpa [inr_] using c224)))) rfl, (h.pick 8).row_cell enc_T_frames_Op_ok (f := 6) (get_set ((at_okL (by simpa [inr_] using c224)))) rfl, (h.pick 8).row_cell enc_T_frames_Op_ok (f := 7) (get_set ((at_okL (by simpa [inr_] using c224)))) rfl, (h.pick 8).row_cell enc_T_frames_Op_ok (f := 8) (get_set ((at_okL (by simpa [inr_] using c224)))) rfl, trivial⟩, ⟨h.row_cell enc_T_plunderref8_Op_ok (f := 0) (get_set ((at_okL (by simpa [inr_] using c225)))) rfl, h.row_cell enc_T_plunderref8_Op_ok (f := 1) (get_set ((at_okL (by simpa [inr_] using c225)))) rfl, h.row_cell enc_T_plunderref8_Op_ok (f := 2) (get_set ((at_okL (by simpa [inr_] using c225)))) rfl, h.row_cell enc_T_plunderref8_Op_ok (f := 3) (get_set ((at_okL (by simpa [inr_] using c225)))) rfl, h.row_cell enc_T_plunderref8_Op_ok (f := 4) (get_set ((at_okL (by simpa [inr_] using c225)))) rfl, h.row_cell enc_T_plunderref8_Op_ok (f := 5) (get_set ((at_okL (by simpa [inr_] using c225)))) rfl, h.row_cell enc_T_plunderref8_Op_ok (f := 6) (get_set ((at_okL (by simpa [inr_] using c225)))) rfl, h.row_cell enc_T_plunderref8_Op_ok (f := 7) (get_set ((at_okL (by simpa [inr_] using c225)))) rfl, h.row_cell enc_T_plunderref8_Op_ok (f := 8) (get_set ((at_okL (by simpa [inr_] using c225)))) rfl, trivial⟩, ⟨(h.pick 4).cell 0 rfl, (h.pick 4).cell 1 rfl, (h.pick 4).cell 2 rfl, (h.pick 4).cell 3 rfl, (h.pick 4).cell 4 rfl, (h.pick 4).cell 5 rfl, (h.pick 4).cell 6 rfl, (h.pick 4).cell 7 rfl, (h.pick 4).cell 8 rfl, trivial⟩, ⟨h.row_cell enc_T_plunderref8_Op_ok (f := 0) (get_set ((at_okL (by simpa [inr_] using c225)))) rfl, h.row_cell enc_T_plunderref8_Op_ok (f := 1) (get_set ((at_okL (by simpa [inr_] using c225)))) rfl, h.row_cell enc_T_plunderref8_Op_ok (f := 2) (get_set ((at_okL (by simpa [inr_] using c225)))) rfl, h.row_cell enc_T_plunderref8_Op_ok (f := 3) (get_set ((at_okL (by simpa [inr_] using c225)))) rfl, h.row_cell enc_T_plunderref8_Op_ok (f := 4) (get_set ((at_okL (by simpa [inr_] using c225)))) rfl, h.row_cell enc_T_plunderref8_Op_ok (f := 5) (get_set ((at_okL (by simpa [inr_] using c225)))) rfl, h.row_cell enc_T_plunderref8_Op_ok (f := 6) (get_set ((at_okL (by simpa [inr_] using c225)))) rfl, h.row_cell enc_T_plunderref8_Op_ok (f := 7) (get_set ((at_okL (by simpa [inr_] using c225)))) rfl, h.row_cell enc_T_plunderref8_Op_ok (f := 8) (get_set ((at_okL (by simpa [inr_] using c225)))) rfl, trivial⟩, ⟨(h.pick 13).cell 0 rfl, (h.pick 13).cell 1 rfl, (h.pick 13).cell 2 rfl, (h.pick 13).cell 3 rfl, (h.pick 13).cell 4 rfl, (h.pick 13).cell 5 rfl, (h.pick 13).cell 6 rfl, (h.pick 13).cell 7 rfl, (h.pick 13).cell 8 rfl, trivial⟩, ⟨(h.pick 12).cell 0 rfl, (h.pick 12).cell 1 rfl, (h.pick 12).cell 2 rfl, (h.pick 12).cell 3 rfl, (h.pick 12).cell 4 rfl, (h.pick 12).cell 5 rfl, (h.pick 12).cell 6 rfl, (h.pick 12).cell 7 rfl, (h.pick 12).cell 8 rfl, trivial⟩, trivial⟩, ?_⟩
                  refine evD hgo ⟨⟨(h.pick 8).row_cell enc_T_frames_Op_ok (f := 0) (get_set ((at_okL (by simpa [inr_] using c224)))) rfl, (h.pick 8).row_cell enc_T_frames_Op_ok (f := 1) (get_set ((at_okL (by simpa [inr_] using c224)))) rfl, (h.pick 8).row_cell enc_T_frames_Op_ok (f := 2) (get_set ((at_okL (by simpa [inr_] using c224)))) rfl, (h.pick 8).row_cell enc_T_frames_Op_ok (f := 3) (get_set ((at_okL (by simpa [inr_] using c224)))) rfl, (h.pick 8).row_cell enc_T_frames_Op_ok (f := 4) (get_set ((at_okL (by simpa [inr_] using c224)))) rfl, (h.pick 8).row_cell enc_T_frames_Op_ok (f := 5) (get_set ((at_okL (by simpa [inr_] using c224)))) rfl, (h.pick 8).row_cell enc_T_frames_Op_ok (f := 6) (get_set ((at_okL (by simpa [inr_] using c224)))) rfl, (h.pick 8).row_cell enc_T_frames_Op_ok (f := 7) (get_set ((at_okL (by simpa [inr_] using c224)))) rfl, (h.pick 8).row_cell enc_T_frames_Op_ok (f := 8) (get_set ((at_okL (by simpa [inr_] using c224)))) rfl, trivial⟩, ⟨h.row_cell enc_T_plunderref8_Op_ok (f := 0) (get_set ((at_okL (by simpa [inr_] using c225)))) rfl, h.row_cell enc_T_plunderref8_Op_ok (f := 1) (get_set ((at_okL (by simpa [inr_] using c225)))) rfl, h.row_cell enc_T_plunderref8_Op_ok (f := 2) (get_set ((at_okL (by simpa [inr_] using c225)))) rfl, h.row_cell enc_T_plunderref8_Op_ok (f := 3) (get_set ((at_okL (by simpa [inr_] using c225)))) rfl, h.row_cell enc_T_plunderref8_Op_ok (f := 4) (get_set ((at_okL (by simpa [inr_] using c225)))) rfl, h.row_cell enc_T_plunderref8_Op_ok (f := 5) (get_set ((at_okL (by simpa [inr_] using c225)))) rfl, h.row_cell enc_T_plunderref8_Op_ok (f := 6) (get_set ((at_okL (by simpa [inr_] using c225)))) rfl, h.row_cell enc_T_plunderref8_Op_ok (f := 7) (get_set ((at_okL (by simpa [inr_] using c225)))) rfl, h.row_cell enc_T_plunderref8_Op_ok (f := 8) (get_set ((at_okL (by simpa [inr_] using c225)))) rfl, trivial⟩, ⟨(h.pick 4).cell 0 rfl, (h.pick 4).cell 1 rfl, (h.pick 4).cell 2 rfl, (h.pick 4).cell 3 rfl, (h.pick 4).cell 4 rfl, (h.pick 4).cell 5 rfl, (h.pick 4).cell 6 rfl, (h.pick 4).cell 7 rfl, (h.pick 4).cell 8 rfl, trivial⟩, ⟨h.row_cell enc_T_plunderref8_Op_ok (f := 0) (get_set ((at_okL (by simpa [inr_] using c225)))) rfl, h.row_cell enc_T_plunderref8_Op_ok (f := 1) (get_set ((at_okL (by simpa [inr_] using c225)))) rfl, h.row_cell enc_T_plunderref8_Op_ok (f := 2) (get_set ((at_okL (by simpa [inr_] using c225)))) rfl, h.row_cell enc_T_plunderref8_Op_ok (f := 3) (get_set ((at_okL (by simpa [inr_] using c225)))) rfl, h.row_cell enc_T_plunderref8_Op_ok (f := 4) (get_set ((at_okL (by simpa [inr_] using c225)))) rfl, h.row_cell enc_T_plunderref8_Op_ok (f := 5) (get_set ((at_okL (by simpa [inr_] using c225)))) rfl, h.row_cell enc_T_plunderref8_Op_ok (f := 6) (get_set ((at_okL (by simpa [inr_] using c225)))) rfl, h.row_cell enc_T_plunderref8_Op_ok (f := 7) (get_set ((at_okL (by simpa [inr_] using c225)))) rfl, h.row_cell enc_T_plunderref8_Op_ok (f := 8) (get_set ((at_okL (by simpa [inr_] using c225)))) rfl, trivial⟩, ⟨(h.pick 13).cell 0 rfl, (h.pick 13).cell 1 rfl, (h.pick 13).cell 2 rfl, (h.pick 13).cell 3 rfl, (h.pick 13).cell 4 rfl, (h.pick 13).cell 5 rfl, (h.pick 13).cell 6 rfl, (h.pick 13).cell 7 rfl, (h.pick 13).cell 8 rfl, trivial⟩, ⟨(h.pick 12).cell 0 rfl, (h.pick 12).cell 1 rfl, (h.pick 12).cell 2 rfl, (h.pick 12).cell 3 rfl, (h.pick 12).cell 4 rfl, (h.pick 12).cell 5 rfl, (h.pick 12).cell 6 rfl, (h.pick 12).cell 7 rfl, (h.pick 12).cell 8 rfl, trivial⟩, trivial⟩ 7 17 rfl (by kernel_rfl) ((wg hr rfl rfl rfl (b' := (!r226)) (by kernel_rfl)).trans (by rw [show (!r226) = false from (by rw [show r226 = true from (c228)]; rfl)]; rfl)) hr (.bool (!r229)) (fun w => by kernel_rfl) ?_; clear hr a; intro a hr
                  refine ev 6 18 rfl (by kernel_rfl) (wn rfl) hr (.bool (!r229)) (fun w => rp_f (b := (!r226)) rfl (by kernel_rfl) (by rw [show r226 = true from (c228)]; rfl) (by kernel_rfl)) ?_; clear hr a; intro a hr
                  refine ev 5 19 rfl (by kernel_rfl) (wn rfl) hr (.bool (!r229)) (fun w => by kernel_rfl) ?_; clear hr a; intro a hr
                  refine el [2, 6, 8, 9, 14, 16, 17] (b := b199) (off := 0) (cs := [.int .i64 ((at_ l184 r190.toNat).head_t_Base), .int .i64 ((at_ l184 r190.toNat).head_t_Frames), .int .i64 ((at_ l184 r190.toNat).head_frame), .int .i64 ((at_ l184 r190.toNat).head_stands), .int .i64 ((at_ l184 r190.toNat).head_code), .int .i64 ((at_ l184 r190.toNat).head_v), .int .i64 ((at_ l184 r190.toNat).kind), .int .i64 ((at_ l184 r190.toNat).slot), .int .i64 ((at_ l184 r190.toNat).give)]) (fun _ hk => ⟨hk, fun w hD => hD.2.2.2.2.1⟩) 4 20 rfl (by kernel_rfl) ((wg hr rfl rfl rfl (b' := (!r229)) (by kernel_rfl)).trans (by rw [show (!r229) = false from (by rw [show r229 = true from (c231)]; rfl)]; rfl)) hr (.agg #[.int .i64 ((at_ l184 r190.toNat).head_t_Base), .int .i64 ((at_ l184 r190.toNat).head_t_Frames), .int .i64 ((at_ l184 r190.toNat).head_frame), .int .i64 ((at_ l184 r190.toNat).head_stands), .int .i64 ((at_ l184 r190.toNat).head_code), .int .i64 ((at_ l184 r190.toNat).head_v), .int .i64 ((at_ l184 r190.toNat).kind), .int .i64 ((at_ l184 r190.toNat).slot), .int .i64 ((at_ l184 r190.toNat).give)]) ⟨(h.pick 13).cell 0 rfl, (h.pick 13).cell 1 rfl, (h.pick 13).cell 2 rfl, (h.pick 13).cell 3 rfl, (h.pick 13).cell 4 rfl, (h.pick 13).cell 5 rfl, (h.pick 13).cell 6 rfl, (h.pick 13).cell 7 rfl, (h.pick 13).cell 8 rfl, trivial⟩ (fun w hc => rlm (cs := [.int .i64 ((at_ l184 r190.toNat).head_t_Base), .int .i64 ((at_ l184 r190.toNat).head_t_Frames), .int .i64 ((at_ l184 r190.toNat).head_frame), .int .i64 ((at_ l184 r190.toNat).head_stands), .int .i64 ((at_ l184 r190.toNat).head_code), .int .i64 ((at_ l184 r190.toNat).head_v), .int .i64 ((at_ l184 r190.toNat).kind), .int .i64 ((at_ l184 r190.toNat).slot), .int .i64 ((at_ l184 r190.toNat).give)]) rfl (by kernel_rfl) (by kernel_rfl) (by kernel_rfl) hc) ?_; clear hr a; intro a hr
                  refine el [2, 6, 8, 9, 14, 16, 17] (b := b201) (off := 0) (cs := [.int .i64 ((at_ l185 r190.toNat).Kind), .int .i64 ((at_ l185 r190.toNat).Join), .int .i64 ((at_ l185 r190.toNat).Cell), .int .i64 ((at_ l185 r190.toNat).V), .int .i64 ((at_ l185 r190.toNat).Next), .int .i64 ((at_ l185 r190.toNat).Frames), .int .i64 ((at_ l185 r190.toNat).Made), .int .i64 ((at_ l185 r190.toNat).Code), .int .i64 ((at_ l185 r190.toNat).Came)]) (fun _ hk => ⟨hk, fun w hD => hD.2.2.2.2.2.1⟩) 3 21 rfl (by kernel_rfl) ((wg hr rfl rfl rfl (b' := (!r229)) (by kernel_rfl)).trans (by rw [show (!r229) = false from (by rw [show r229 = true from (c231)]; rfl)]; rfl)) hr (.agg #[.int .i64 ((at_ l185 r190.toNat).Kind), .int .i64 ((at_ l185 r190.toNat).Join), .int .i64 ((at_ l185 r190.toNat).Cell), .int .i64 ((at_ l185 r190.toNat).V), .int .i64 ((at_ l185 r190.toNat).Next), .int .i64 ((at_ l185 r190.toNat).Frames), .int .i64 ((at_ l185 r190.toNat).Made), .int .i64 ((at_ l185 r190.toNat).Code), .int .i64 ((at_ l185 r190.toNat).Came)]) ⟨(h.pick 12).cell 0 rfl, (h.pick 12).cell 1 rfl, (h.pick 12).cell 2 rfl, (h.pick 12).cell 3 rfl, (h.pick 12).cell 4 rfl, (h.pick 12).cell 5 rfl, (h.pick 12).cell 6 rfl, (h.pick 12).cell 7 rfl, (h.pick 12).cell 8 rfl, trivial⟩ (fun w hc => rlm (cs := [.int .i64 ((at_ l185 r190.toNat).Kind), .int .i64 ((at_ l185 r190.toNat).Join), .int .i64 ((at_ l185 r190.toNat).Cell), .int .i64 ((at_ l185 r190.toNat).V), .int .i64 ((at_ l185 r190.toNat).Next), .int .i64 ((at_ l185 r190.toNat).Frames), .int .i64 ((at_ l185 r190.toNat).Made), .int .i64 ((at_ l185 r190.toNat).Code), .int .i64 ((at_ l185 r190.toNat).Came)]) rfl (by kernel_rfl) (by kernel_rfl) (by kernel_rfl) hc) ?_; clear hr a; intro a hr
                  refine e_one (fuel := 2) (i := 22) (by kernel_rfl) rfl ?_
                  have hc := plunderlaw8_answers_ok (H := e233) (h := h)
                  refine op_call ((wg hr rfl rfl rfl (b' := (!r229)) (by kernel_rfl)).trans (by rw [show (!r229) = false from (by rw [show r229 = true from (c231)]; rfl)]; rfl)) rfl rfl hr (f := 38) (args := #[.agg #[.int .i64 ((at_ l184 r190.toNat).head_t_Base), .int .i64 ((at_ l184 r190.toNat).head_t_Frames), .int .i64 ((at_ l184 r190.toNat).head_frame), .int .i64 ((at_ l184 r190.toNat).head_stands), .int .i64 ((at_ l184 r190.toNat).head_code), .int .i64 ((at_ l184 r190.toNat).head_v), .int .i64 ((at_ l184 r190.toNat).kind), .int .i64 ((at_ l184 r190.toNat).slot), .int .i64 ((at_ l184 r190.toNat).give)], .agg #[.int .i64 ((at_ l185 r190.toNat).Kind), .int .i64 ((at_ l185 r190.toNat).Join), .int .i64 ((at_ l185 r190.toNat).Cell), .int .i64 ((at_ l185 r190.toNat).V), .int .i64 ((at_ l185 r190.toNat).Next), .int .i64 ((at_ l185 r190.toNat).Frames), .int .i64 ((at_ l185 r190.toNat).Made), .int .i64 ((at_ l185 r190.toNat).Code), .int .i64 ((at_ l185 r190.toNat).Came)]]) (by kernel_rfl) hc ?_; clear hc h
                  rintro _ w ⟨rfl, h⟩; refine ⟨_, rfl, ?_⟩
                  clear hr a; intro a hr
                  refine wpList_nil ?_; refine then_normal ?_
                  refine ⟨fun hE => absurd hE (by decide), ?_⟩
                  refine ev 1 23 rfl (by kernel_rfl) ((wg hr rfl rfl rfl (b' := (!r229)) (by kernel_rfl)).trans (by rw [show (!r229) = false from (by rw [show r229 = true from (c231)]; rfl)]; rfl)) hr (.bool (!r232)) (fun w => by kernel_rfl) ?_; clear hr a; intro a hr
                  refine ev 0 24 rfl (by kernel_rfl) (wn rfl) hr (.bool (!r232)) (fun w => rp_f (b := (!r229)) rfl (by kernel_rfl) (by rw [show r229 = true from (c231)]; rfl) (by kernel_rfl)) ?_; clear hr a; intro a hr
                  refine e_end (by kernel_rfl) ?_
                  refine then_normal ?_
                  by_cases c234 : r232 = true
                  ·
                    replace H := ifT c234 H
                    refine cond_ff hr (b := (!r232)) (by rw [show r232 = true from (c234)]; rfl) ?_
                    refine wp_skip ?_
                    refine blk_normal ?_
                    refine then_normal ?_
                    refine wp_region_lit ?_
                    refine ovs [173, 174, 25] [.int .i64 g186, .int .i64 (wi (g186 + (1 : Int))), .int .i64 (wi (g186 + (1 : Int)))] hr ⟨rfl, rfl⟩ (by kernel_rfl) ?_; clear hr a; intro a hr
                    refine wpList_nil ?_
                    refine then_normal ?_
                    replace hr := hr.fold2 [(3, .slice va3 p3.length vc3), (10, .pointer (some ⟨Bn10, 0, none⟩)), (12, .pointer (some ⟨Bn19, 0, none⟩)), (14, .pointer (some ⟨Bn28, 0, none⟩)), (22, .slice ca118 l120.length cc119), (23, .slice ca121 l123.length cc122), (25, .int .i64 (wi (g186 + (1 : Int))))] (by kernel_rfl); obtain ⟨j, hr⟩ := hr
                    replace h : Fit z (sepL (ob34 Bn10 S218 caq220 ccq221 caq222 ccq223 :: ro2 caq220 ccq221 S218.Held :: ro96 caq222 ccq223 S218.Book :: ob103 Bn19 S203 caq205 ccq206 caq207 ccq208 :: ro2 caq205 ccq206 S203.cell :: ro96 caq207 ccq208 S203.log :: ob103 Bn28 S210 caq212 ccq213 caq214 ccq215 :: ro2 caq212 ccq213 S210.cell :: ro96 caq214 ccq215 S210.log :: rowOf 50 9 enc_T_frames_Op (.slice ca118 l120.length cc119) (l184.set r190.toNat r202) :: rowOf 78 9 enc_T_plunderref8_Op (.slice ca121 l123.length cc122) (l185.set r190.toNat r217) :: L)) _ := h.sel 14 [1, 2, 3, 9, 10, 11, 5, 6, 7, 8, 0] (by kernel_rfl) (by kernel_rfl)
                    exact ⟨_, ⟨caq220, ccq221, caq222, ccq223, caq205, ccq206, caq207, ccq208, caq212, ccq213, caq214, ccq215, S218, S203, S210, (l184.set r190.toNat r202), (l185.set r190.toNat r217), (wi (g186 + (1 : Int))), H, j, hr, h⟩, Nat.lt_succ_self _⟩
                  ·
                    replace H := ifF c234 H
                    refine cond_tt hr (b := (!r232)) (by rw [show r232 = false from (bF c234)]; rfl) ?_
                    refine wp_seq ?_
                    refine wp_region_lit ?_
                    refine ov hr (.bool false) (by kernel_rfl) ?_; clear hr a; intro a hr
                    refine wpList_nil ?_
                    refine then_normal ?_
                    refine wp_ret ?_
                    refine blk_ret ?_
                    refine then_ret ?_
                    refine then_ret ?_
                    refine blk_ret ?_
                    refine then_ret ?_
                    refine end_ret1 (v := .bool false) rfl hr (by kernel_rfl) ?_
                    replace H := jx3 H hK167
                    replace h : Fit z (sepL (L)) _ := h.sel 14 [] (by kernel_rfl) (by kernel_rfl)
                    replace H := ej1 H; subst H
                    exact ⟨rfl, h⟩
                ·
                  replace H := ifF c231 H
                  refine reg_E (fun w => heldC w (blk ca118) (r190.toNat * 9) [.int .i64 r202.head_t_Base, .int .i64 r202.head_t_Frames, .int .i64 r202.head_frame, .int .i64 r202.head_stands, .int .i64 r202.head_code, .int .i64 r202.head_v, .int .i64 r202.kind, .int .i64 r202.slot, .int .i64 r202.give] ∧ heldC w (blk ca121) (r190.toNat * 9) [.int .i64 r217.Kind, .int .i64 r217.Join, .int .i64 r217.Cell, .int .i64 r217.V, .int .i64 r217.Next, .int .i64 r217.Frames, .int .i64 r217.Made, .int .i64 r217.Code, .int .i64 r217.Came] ∧ heldC w b216 0 [.int .i64 r209.head_t_Base, .int .i64 r209.head_t_Frames, .int .i64 r209.head_frame, .int .i64 r209.head_stands, .int .i64 r209.head_code, .int .i64 r209.head_v, .int .i64 r209.kind, .int .i64 r209.slot, .int .i64 r209.give] ∧ heldC w (blk ca121) (r190.toNat * 9) [.int .i64 r217.Kind, .int .i64 r217.Join, .int .i64 r217.Cell, .int .i64 r217.V, .int .i64 r217.Next, .int .i64 r217.Frames, .int .i64 r217.Made, .int .i64 r217.Code, .int .i64 r217.Came] ∧ True) [2, 6, 8, 9, 14] h (by kernel_rfl) ?_; intro w h
                  change wpAnyE _ _ _ _ _ _ 25 (Array.replicate 25 false) a w
                  have hgo : ∀ w w', CellsGo w w' → (heldC w (blk ca118) (r190.toNat * 9) [.int .i64 r202.head_t_Base, .int .i64 r202.head_t_Frames, .int .i64 r202.head_frame, .int .i64 r202.head_stands, .int .i64 r202.head_code, .int .i64 r202.head_v, .int .i64 r202.kind, .int .i64 r202.slot, .int .i64 r202.give] ∧ heldC w (blk ca121) (r190.toNat * 9) [.int .i64 r217.Kind, .int .i64 r217.Join, .int .i64 r217.Cell, .int .i64 r217.V, .int .i64 r217.Next, .int .i64 r217.Frames, .int .i64 r217.Made, .int .i64 r217.Code, .int .i64 r217.Came] ∧ heldC w b216 0 [.int .i64 r209.head_t_Base, .int .i64 r209.head_t_Frames, .int .i64 r209.head_frame, .int .i64 r209.head_stands, .int .i64 r209.head_code, .int .i64 r209.head_v, .int .i64 r209.kind, .int .i64 r209.slot, .int .i64 r209.give] ∧ heldC w (blk ca121) (r190.toNat * 9) [.int .i64 r217.Kind, .int .i64 r217.Join, .int .i64 r217.Cell, .int .i64 r217.V, .int .i64 r217.Next, .int .i64 r217.Frames, .int .i64 r217.Made, .int .i64 r217.Code, .int .i64 r217.Came] ∧ True) → heldC w' (blk ca118) (r190.toNat * 9) [.int .i64 r202.head_t_Base, .int .i64 r202.head_t_Frames, .int .i64 r202.head_frame, .int .i64 r202.head_stands, .int .i64 r202.head_code, .int .i64 r202.head_v, .int .i64 r202.kind, .int .i64 r202.slot, .int .i64 r202.give] ∧ heldC w' (blk ca121) (r190.toNat * 9) [.int .i64 r217.Kind, .int .i64 r217.Join, .int .i64 r217.Cell, .int .i64 r217.V, .int .i64 r217.Next, .int .i64 r217.Frames, .int .i64 r217.Made, .int .i64 r217.Code, .int .i64 r217.Came] ∧ heldC w' b216 0 [.int .i64 r209.head_t_Base, .int .i64 r209.head_t_Frames, .int .i64 r209.head_frame, .int .i64 r209.head_stands, .int .i64 r209.head_code, .int .i64 r209.head_v, .int .i64 r209.kind, .int .i64 r209.slot, .int .i64 r209.give] ∧ heldC w' (blk ca121) (r190.toNat * 9) [.int .i64 r217.Kind, .int .i64 r217.Join, .int .i64 r217.Cell, .int .i64 r217.V, .int .i64 r217.Next, .int .i64 r217.Frames, .int .i64 r217.Made, .int .i64 r217.Code, .int .i64 r217.Came] ∧ True := fun w w' g hD => ⟨heldC_go _ _ _ _ _ g hD.1, heldC_go _ _ _ _ _ g hD.2.1, heldC_go _ _ _ _ _ g hD.2.2.1, heldC_go _ _ _ _ _ g hD.2.2.2.1, trivial⟩
                  refine ev 24 0 rfl (by kernel_rfl) (wn rfl) hr (.slice ca118 l120.length cc119) (fun w => by kernel_rfl) ?_; clear hr a; intro a hr
                  refine ev 23 1 rfl (by kernel_rfl) (wn rfl) hr (.int .i64 r190) (fun w => by kernel_rfl) ?_; clear hr a; intro a hr
                  refine evD hgo ⟨⟨(h.pick 8).row_cell enc_T_frames_Op_ok (f := 0) (get_set ((at_okL (by simpa [inr_] using c224)))) rfl, (h.pick 8).row_cell enc_T_frames_Op_ok (f := 1) (get_set ((at_okL (by simpa [inr_] using c224)))) rfl, (h.pick 8).row_cell enc_T_frames_Op_ok (f := 2) (get_set ((at_okL (by simpa [inr_] using c224)))) rfl, (h.pick 8).row_cell enc_T_frames_Op_ok (f := 3) (get_set ((at_okL (by simpa [inr_] using c224)))) rfl, (h.pick 8).row_cell enc_T_frames_Op_ok (f := 4) (get_set ((at_okL (by simpa [inr_] using c224)))) rfl, (h.pick 8).row_cell enc_T_frames_Op_ok (f := 5) (get_set ((at_okL (by simpa [inr_] using c224)))) rfl, (h.pick 8).row_cell enc_T_frames_Op_ok (f := 6) (get_set ((at_okL (by simpa [inr_] using c224)))) rfl, (h.pick 8).row_cell enc_T_frames_Op_ok (f := 7) (get_set ((at_okL (by simpa [inr_] using c224)))) rfl, (h.pick 8).row_cell enc_T_frames_Op_ok (f := 8) (get_set ((at_okL (by simpa [inr_] using c224)))) rfl, trivial⟩, ⟨h.row_cell enc_T_plunderref8_Op_ok (f := 0) (get_set ((at_okL (by simpa [inr_] using c225)))) rfl, h.row_cell enc_T_plunderref8_Op_ok (f := 1) (get_set ((at_okL (by simpa [inr_] using c225)))) rfl, h.row_cell enc_T_plunderref8_Op_ok (f := 2) (get_set ((at_okL (by simpa [inr_] using c225)))) rfl, h.row_cell enc_T_plunderref8_Op_ok (f := 3) (get_set ((at_okL (by simpa [inr_] using c225)))) rfl, h.row_cell enc_T_plunderref8_Op_ok (f := 4) (get_set ((at_okL (by simpa [inr_] using c225)))) rfl, h.row_cell enc_T_plunderref8_Op_ok (f := 5) (get_set ((at_okL (by simpa [inr_] using c225)))) rfl, h.row_cell enc_T_plunderref8_Op_ok (f := 6) (get_set ((at_okL (by simpa [inr_] using c225)))) rfl, h.row_cell enc_T_plunderref8_Op_ok (f := 7) (get_set ((at_okL (by simpa [inr_] using c225)))) rfl, h.row_cell enc_T_plunderref8_Op_ok (f := 8) (get_set ((at_okL (by simpa [inr_] using c225)))) rfl, trivial⟩, ⟨(h.pick 4).cell 0 rfl, (h.pick 4).cell 1 rfl, (h.pick 4).cell 2 rfl, (h.pick 4).cell 3 rfl, (h.pick 4).cell 4 rfl, (h.pick 4).cell 5 rfl, (h.pick 4).cell 6 rfl, (h.pick 4).cell 7 rfl, (h.pick 4).cell 8 rfl, trivial⟩, ⟨h.row_cell enc_T_plunderref8_Op_ok (f := 0) (get_set ((at_okL (by simpa [inr_] using c225)))) rfl, h.row_cell enc_T_plunderref8_Op_ok (f := 1) (get_set ((at_okL (by simpa [inr_] using c225)))) rfl, h.row_cell enc_T_plunderref8_Op_ok (f := 2) (get_set ((at_okL (by simpa [inr_] using c225)))) rfl, h.row_cell enc_T_plunderref8_Op_ok (f := 3) (get_set ((at_okL (by simpa [inr_] using c225)))) rfl, h.row_cell enc_T_plunderref8_Op_ok (f := 4) (get_set ((at_okL (by simpa [inr_] using c225)))) rfl, h.row_cell enc_T_plunderref8_Op_ok (f := 5) (get_set ((at_okL (by simpa [inr_] using c225)))) rfl, h.row_cell enc_T_plunderref8_Op_ok (f := 6) (get_set ((at_okL (by simpa [inr_] using c225)))) rfl, h.row_cell enc_T_plunderref8_Op_ok (f := 7) (get_set ((at_okL (by simpa [inr_] using c225)))) rfl, h.row_cell enc_T_plunderref8_Op_ok (f := 8) (get_set ((at_okL (by simpa [inr_] using c225)))) rfl, trivial⟩, trivial⟩ 22 2 rfl (by kernel_rfl) (wn rfl) hr (.pointer (some ⟨blk ca118, r190.toNat * 9, none⟩)) (fun w => ri_row (k := .i64) (E := 50) rfl (by kernel_rfl) (by kernel_rfl) (by kernel_rfl) (by kernel_rfl) (h.pick 8) c224) ?_; clear hr a; intro a hr
                  refine ev 21 4 rfl (by kernel_rfl) (wn rfl) hr (.slice ca121 l123.length cc122) (fun w => by kernel_rfl) ?_; clear hr a; intro a hr
                  refine ev 20 5 rfl (by kernel_rfl) (wn rfl) hr (.int .i64 r190) (fun w => by kernel_rfl) ?_; clear hr a; intro a hr
                  refine evD hgo ⟨⟨(h.pick 8).row_cell enc_T_frames_Op_ok (f := 0) (get_set ((at_okL (by simpa [inr_] using c224)))) rfl, (h.pick 8).row_cell enc_T_frames_Op_ok (f := 1) (get_set ((at_okL (by simpa [inr_] using c224)))) rfl, (h.pick 8).row_cell enc_T_frames_Op_ok (f := 2) (get_set ((at_okL (by simpa [inr_] using c224)))) rfl, (h.pick 8).row_cell enc_T_frames_Op_ok (f := 3) (get_set ((at_okL (by simpa [inr_] using c224)))) rfl, (h.pick 8).row_cell enc_T_frames_Op_ok (f := 4) (get_set ((at_okL (by simpa [inr_] using c224)))) rfl, (h.pick 8).row_cell enc_T_frames_Op_ok (f := 5) (get_set ((at_okL (by simpa [inr_] using c224)))) rfl, (h.pick 8).row_cell enc_T_frames_Op_ok (f := 6) (get_set ((at_okL (by simpa [inr_] using c224)))) rfl, (h.pick 8).row_cell enc_T_frames_Op_ok (f := 7) (get_set ((at_okL (by simpa [inr_] using c224)))) rfl, (h.pick 8).row_cell enc_T_frames_Op_ok (f := 8) (get_set ((at_okL (by simpa [inr_] using c224)))) rfl, trivial⟩, ⟨h.row_cell enc_T_plunderref8_Op_ok (f := 0) (get_set ((at_okL (by simpa [inr_] using c225)))) rfl, h.row_cell enc_T_plunderref8_Op_ok (f := 1) (get_set ((at_okL (by simpa [inr_] using c225)))) rfl, h.row_cell enc_T_plunderref8_Op_ok (f := 2) (get_set ((at_okL (by simpa [inr_] using c225)))) rfl, h.row_cell enc_T_plunderref8_Op_ok (f := 3) (get_set ((at_okL (by simpa [inr_] using c225)))) rfl, h.row_cell enc_T_plunderref8_Op_ok (f := 4) (get_set ((at_okL (by simpa [inr_] using c225)))) rfl, h.row_cell enc_T_plunderref8_Op_ok (f := 5) (get_set ((at_okL (by simpa [inr_] using c225)))) rfl, h.row_cell enc_T_plunderref8_Op_ok (f := 6) (get_set ((at_okL (by simpa [inr_] using c225)))) rfl, h.row_cell enc_T_plunderref8_Op_ok (f := 7) (get_set ((at_okL (by simpa [inr_] using c225)))) rfl, h.row_cell enc_T_plunderref8_Op_ok (f := 8) (get_set ((at_okL (by simpa [inr_] using c225)))) rfl, trivial⟩, ⟨(h.pick 4).cell 0 rfl, (h.pick 4).cell 1 rfl, (h.pick 4).cell 2 rfl, (h.pick 4).cell 3 rfl, (h.pick 4).cell 4 rfl, (h.pick 4).cell 5 rfl, (h.pick 4).cell 6 rfl, (h.pick 4).cell 7 rfl, (h.pick 4).cell 8 rfl, trivial⟩, ⟨h.row_cell enc_T_plunderref8_Op_ok (f := 0) (get_set ((at_okL (by simpa [inr_] using c225)))) rfl, h.row_cell enc_T_plunderref8_Op_ok (f := 1) (get_set ((at_okL (by simpa [inr_] using c225)))) rfl, h.row_cell enc_T_plunderref8_Op_ok (f := 2) (get_set ((at_okL (by simpa [inr_] using c225)))) rfl, h.row_cell enc_T_plunderref8_Op_ok (f := 3) (get_set ((at_okL (by simpa [inr_] using c225)))) rfl, h.row_cell enc_T_plunderref8_Op_ok (f := 4) (get_set ((at_okL (by simpa [inr_] using c225)))) rfl, h.row_cell enc_T_plunderref8_Op_ok (f := 5) (get_set ((at_okL (by simpa [inr_] using c225)))) rfl, h.row_cell enc_T_plunderref8_Op_ok (f := 6) (get_set ((at_okL (by simpa [inr_] using c225)))) rfl, h.row_cell enc_T_plunderref8_Op_ok (f := 7) (get_set ((at_okL (by simpa [inr_] using c225)))) rfl, h.row_cell enc_T_plunderref8_Op_ok (f := 8) (get_set ((at_okL (by simpa [inr_] using c225)))) rfl, trivial⟩, trivial⟩ 19 6 rfl (by kernel_rfl) (wn rfl) hr (.pointer (some ⟨blk ca121, r190.toNat * 9, none⟩)) (fun w => ri_row (k := .i64) (E := 78) rfl (by kernel_rfl) (by kernel_rfl) (by kernel_rfl) (by kernel_rfl) h c225) ?_; clear hr a; intro a hr
                  refine el [2, 6, 8, 9, 14] (b := blk ca118) (off := r190.toNat * 9) (cs := [.int .i64 r202.head_t_Base, .int .i64 r202.head_t_Frames, .int .i64 r202.head_frame, .int .i64 r202.head_stands, .int .i64 r202.head_code, .int .i64 r202.head_v, .int .i64 r202.kind, .int .i64 r202.slot, .int .i64 r202.give]) (fun _ hk => ⟨hk, fun w hD => hD.1⟩) 18 3 rfl (by kernel_rfl) (wn rfl) hr (.agg #[.int .i64 r202.head_t_Base, .int .i64 r202.head_t_Frames, .int .i64 r202.head_frame, .int .i64 r202.head_stands, .int .i64 r202.head_code, .int .i64 r202.head_v, .int .i64 r202.kind, .int .i64 r202.slot, .int .i64 r202.give]) ⟨(h.pick 8).row_cell enc_T_frames_Op_ok (f := 0) (get_set ((at_okL (by simpa [inr_] using c224)))) rfl, (h.pick 8).row_cell enc_T_frames_Op_ok (f := 1) (get_set ((at_okL (by simpa [inr_] using c224)))) rfl, (h.pick 8).row_cell enc_T_frames_Op_ok (f := 2) (get_set ((at_okL (by simpa [inr_] using c224)))) rfl, (h.pick 8).row_cell enc_T_frames_Op_ok (f := 3) (get_set ((at_okL (by simpa [inr_] using c224)))) rfl, (h.pick 8).row_cell enc_T_frames_Op_ok (f := 4) (get_set ((at_okL (by simpa [inr_] using c224)))) rfl, (h.pick 8).row_cell enc_T_frames_Op_ok (f := 5) (get_set ((at_okL (by simpa [inr_] using c224)))) rfl, (h.pick 8).row_cell enc_T_frames_Op_ok (f := 6) (get_set ((at_okL (by simpa [inr_] using c224)))) rfl, (h.pick 8).row_cell enc_T_frames_Op_ok (f := 7) (get_set ((at_okL (by simpa [inr_] using c224)))) rfl, (h.pick 8).row_cell enc_T_frames_Op_ok (f := 8) (get_set ((at_okL (by simpa [inr_] using c224)))) rfl, trivial⟩ (fun w hc => rlm (cs := [.int .i64 r202.head_t_Base, .int .i64 r202.head_t_Frames, .int .i64 r202.head_frame, .int .i64 r202.head_stands, .int .i64 r202.head_code, .int .i64 r202.head_v, .int .i64 r202.kind, .int .i64 r202.slot, .int .i64 r202.give]) rfl (by kernel_rfl) (by kernel_rfl) (by kernel_rfl) hc) ?_; clear hr a; intro a hr
                  refine el [2, 6, 8, 9, 14] (b := blk ca121) (off := r190.toNat * 9) (cs := [.int .i64 r217.Kind, .int .i64 r217.Join, .int .i64 r217.Cell, .int .i64 r217.V, .int .i64 r217.Next, .int .i64 r217.Frames, .int .i64 r217.Made, .int .i64 r217.Code, .int .i64 r217.Came]) (fun _ hk => ⟨hk, fun w hD => hD.2.1⟩) 17 7 rfl (by kernel_rfl) (wn rfl) hr (.agg #[.int .i64 r217.Kind, .int .i64 r217.Join, .int .i64 r217.Cell, .int .i64 r217.V, .int .i64 r217.Next, .int .i64 r217.Frames, .int .i64 r217.Made, .int .i64 r217.Code, .int .i64 r217.Came]) ⟨h.row_cell enc_T_plunderref8_Op_ok (f := 0) (get_set ((at_okL (by simpa [inr_] using c225)))) rfl, h.row_cell enc_T_plunderref8_Op_ok (f := 1) (get_set ((at_okL (by simpa [inr_] using c225)))) rfl, h.row_cell enc_T_plunderref8_Op_ok (f := 2) (get_set ((at_okL (by simpa [inr_] using c225)))) rfl, h.row_cell enc_T_plunderref8_Op_ok (f := 3) (get_set ((at_okL (by simpa [inr_] using c225)))) rfl, h.row_cell enc_T_plunderref8_Op_ok (f := 4) (get_set ((at_okL (by simpa [inr_] using c225)))) rfl, h.row_cell enc_T_plunderref8_Op_ok (f := 5) (get_set ((at_okL (by simpa [inr_] using c225)))) rfl, h.row_cell enc_T_plunderref8_Op_ok (f := 6) (get_set ((at_okL (by simpa [inr_] using c225)))) rfl, h.row_cell enc_T_plunderref8_Op_ok (f := 7) (get_set ((at_okL (by simpa [inr_] using c225)))) rfl, h.row_cell enc_T_plunderref8_Op_ok (f := 8) (get_set ((at_okL (by simpa [inr_] using c225)))) rfl, trivial⟩ (fun w hc => rlm (cs := [.int .i64 r217.Kind, .int .i64 r217.Join, .int .i64 r217.Cell, .int .i64 r217.V, .int .i64 r217.Next, .int .i64 r217.Frames, .int .i64 r217.Made, .int .i64 r217.Code, .int .i64 r217.Came]) rfl (by kernel_rfl) (by kernel_rfl) (by kernel_rfl) hc) ?_; clear hr a; intro a hr
                  refine e_one (fuel := 16) (i := 8) (by kernel_rfl) rfl ?_
                  have hc := plunderlaw8_answers_ok (H := e227) (h := h)
                  refine op_call (wn rfl) rfl rfl hr (f := 38) (args := #[.agg #[.int .i64 r202.head_t_Base, .int .i64 r202.head_t_Frames, .int .i64 r202.head_frame, .int .i64 r202.head_stands, .int .i64 r202.head_code, .int .i64 r202.head_v, .int .i64 r202.kind, .int .i64 r202.slot, .int .i64 r202.give], .agg #[.int .i64 r217.Kind, .int .i64 r217.Join, .int .i64 r217.Cell, .int .i64 r217.V, .int .i64 r217.Next, .int .i64 r217.Frames, .int .i64 r217.Made, .int .i64 r217.Code, .int .i64 r217.Came]]) (by kernel_rfl) hc ?_; clear hc h
                  rintro _ w ⟨rfl, h⟩; refine ⟨_, rfl, ?_⟩
                  clear hr a; intro a hr
                  refine wpList_nil ?_; refine then_normal ?_
                  refine ⟨fun _ => ⟨⟨(h.pick 8).row_cell enc_T_frames_Op_ok (f := 0) (get_set ((at_okL (by simpa [inr_] using c224)))) rfl, (h.pick 8).row_cell enc_T_frames_Op_ok (f := 1) (get_set ((at_okL (by simpa [inr_] using c224)))) rfl, (h.pick 8).row_cell enc_T_frames_Op_ok (f := 2) (get_set ((at_okL (by simpa [inr_] using c224)))) rfl, (h.pick 8).row_cell enc_T_frames_Op_ok (f := 3) (get_set ((at_okL (by simpa [inr_] using c224)))) rfl, (h.pick 8).row_cell enc_T_frames_Op_ok (f := 4) (get_set ((at_okL (by simpa [inr_] using c224)))) rfl, (h.pick 8).row_cell enc_T_frames_Op_ok (f := 5) (get_set ((at_okL (by simpa [inr_] using c224)))) rfl, (h.pick 8).row_cell enc_T_frames_Op_ok (f := 6) (get_set ((at_okL (by simpa [inr_] using c224)))) rfl, (h.pick 8).row_cell enc_T_frames_Op_ok (f := 7) (get_set ((at_okL (by simpa [inr_] using c224)))) rfl, (h.pick 8).row_cell enc_T_frames_Op_ok (f := 8) (get_set ((at_okL (by simpa [inr_] using c224)))) rfl, trivial⟩, ⟨h.row_cell enc_T_plunderref8_Op_ok (f := 0) (get_set ((at_okL (by simpa [inr_] using c225)))) rfl, h.row_cell enc_T_plunderref8_Op_ok (f := 1) (get_set ((at_okL (by simpa [inr_] using c225)))) rfl, h.row_cell enc_T_plunderref8_Op_ok (f := 2) (get_set ((at_okL (by simpa [inr_] using c225)))) rfl, h.row_cell enc_T_plunderref8_Op_ok (f := 3) (get_set ((at_okL (by simpa [inr_] using c225)))) rfl, h.row_cell enc_T_plunderref8_Op_ok (f := 4) (get_set ((at_okL (by simpa [inr_] using c225)))) rfl, h.row_cell enc_T_plunderref8_Op_ok (f := 5) (get_set ((at_okL (by simpa [inr_] using c225)))) rfl, h.row_cell enc_T_plunderref8_Op_ok (f := 6) (get_set ((at_okL (by simpa [inr_] using c225)))) rfl, h.row_cell enc_T_plunderref8_Op_ok (f := 7) (get_set ((at_okL (by simpa [inr_] using c225)))) rfl, h.row_cell enc_T_plunderref8_Op_ok (f := 8) (get_set ((at_okL (by simpa [inr_] using c225)))) rfl, trivial⟩, ⟨(h.pick 4).cell 0 rfl, (h.pick 4).cell 1 rfl, (h.pick 4).cell 2 rfl, (h.pick 4).cell 3 rfl, (h.pick 4).cell 4 rfl, (h.pick 4).cell 5 rfl, (h.pick 4).cell 6 rfl, (h.pick 4).cell 7 rfl, (h.pick 4).cell 8 rfl, trivial⟩, ⟨h.row_cell enc_T_plunderref8_Op_ok (f := 0) (get_set ((at_okL (by simpa [inr_] using c225)))) rfl, h.row_cell enc_T_plunderref8_Op_ok (f := 1) (get_set ((at_okL (by simpa [inr_] using c225)))) rfl, h.row_cell enc_T_plunderref8_Op_ok (f := 2) (get_set ((at_okL (by simpa [inr_] using c225)))) rfl, h.row_cell enc_T_plunderref8_Op_ok (f := 3) (get_set ((at_okL (by simpa [inr_] using c225)))) rfl, h.row_cell enc_T_plunderref8_Op_ok (f := 4) (get_set ((at_okL (by simpa [inr_] using c225)))) rfl, h.row_cell enc_T_plunderref8_Op_ok (f := 5) (get_set ((at_okL (by simpa [inr_] using c225)))) rfl, h.row_cell enc_T_plunderref8_Op_ok (f := 6) (get_set ((at_okL (by simpa [inr_] using c225)))) rfl, h.row_cell enc_T_plunderref8_Op_ok (f := 7) (get_set ((at_okL (by simpa [inr_] using c225)))) rfl, h.row_cell enc_T_plunderref8_Op_ok (f := 8) (get_set ((at_okL (by simpa [inr_] using c225)))) rfl, trivial⟩, trivial⟩, ?_⟩
                  refine evD hgo ⟨⟨(h.pick 8).row_cell enc_T_frames_Op_ok (f := 0) (get_set ((at_okL (by simpa [inr_] using c224)))) rfl, (h.pick 8).row_cell enc_T_frames_Op_ok (f := 1) (get_set ((at_okL (by simpa [inr_] using c224)))) rfl, (h.pick 8).row_cell enc_T_frames_Op_ok (f := 2) (get_set ((at_okL (by simpa [inr_] using c224)))) rfl, (h.pick 8).row_cell enc_T_frames_Op_ok (f := 3) (get_set ((at_okL (by simpa [inr_] using c224)))) rfl, (h.pick 8).row_cell enc_T_frames_Op_ok (f := 4) (get_set ((at_okL (by simpa [inr_] using c224)))) rfl, (h.pick 8).row_cell enc_T_frames_Op_ok (f := 5) (get_set ((at_okL (by simpa [inr_] using c224)))) rfl, (h.pick 8).row_cell enc_T_frames_Op_ok (f := 6) (get_set ((at_okL (by simpa [inr_] using c224)))) rfl, (h.pick 8).row_cell enc_T_frames_Op_ok (f := 7) (get_set ((at_okL (by simpa [inr_] using c224)))) rfl, (h.pick 8).row_cell enc_T_frames_Op_ok (f := 8) (get_set ((at_okL (by simpa [inr_] using c224)))) rfl, trivial⟩, ⟨h.row_cell enc_T_plunderref8_Op_ok (f := 0) (get_set ((at_okL (by simpa [inr_] using c225)))) rfl, h.row_cell enc_T_plunderref8_Op_ok (f := 1) (get_set ((at_okL (by simpa [inr_] using c225)))) rfl, h.row_cell enc_T_plunderref8_Op_ok (f := 2) (get_set ((at_okL (by simpa [inr_] using c225)))) rfl, h.row_cell enc_T_plunderref8_Op_ok (f := 3) (get_set ((at_okL (by simpa [inr_] using c225)))) rfl, h.row_cell enc_T_plunderref8_Op_ok (f := 4) (get_set ((at_okL (by simpa [inr_] using c225)))) rfl, h.row_cell enc_T_plunderref8_Op_ok (f := 5) (get_set ((at_okL (by simpa [inr_] using c225)))) rfl, h.row_cell enc_T_plunderref8_Op_ok (f := 6) (get_set ((at_okL (by simpa [inr_] using c225)))) rfl, h.row_cell enc_T_plunderref8_Op_ok (f := 7) (get_set ((at_okL (by simpa [inr_] using c225)))) rfl, h.row_cell enc_T_plunderref8_Op_ok (f := 8) (get_set ((at_okL (by simpa [inr_] using c225)))) rfl, trivial⟩, ⟨(h.pick 4).cell 0 rfl, (h.pick 4).cell 1 rfl, (h.pick 4).cell 2 rfl, (h.pick 4).cell 3 rfl, (h.pick 4).cell 4 rfl, (h.pick 4).cell 5 rfl, (h.pick 4).cell 6 rfl, (h.pick 4).cell 7 rfl, (h.pick 4).cell 8 rfl, trivial⟩, ⟨h.row_cell enc_T_plunderref8_Op_ok (f := 0) (get_set ((at_okL (by simpa [inr_] using c225)))) rfl, h.row_cell enc_T_plunderref8_Op_ok (f := 1) (get_set ((at_okL (by simpa [inr_] using c225)))) rfl, h.row_cell enc_T_plunderref8_Op_ok (f := 2) (get_set ((at_okL (by simpa [inr_] using c225)))) rfl, h.row_cell enc_T_plunderref8_Op_ok (f := 3) (get_set ((at_okL (by simpa [inr_] using c225)))) rfl, h.row_cell enc_T_plunderref8_Op_ok (f := 4) (get_set ((at_okL (by simpa [inr_] using c225)))) rfl, h.row_cell enc_T_plunderref8_Op_ok (f := 5) (get_set ((at_okL (by simpa [inr_] using c225)))) rfl, h.row_cell enc_T_plunderref8_Op_ok (f := 6) (get_set ((at_okL (by simpa [inr_] using c225)))) rfl, h.row_cell enc_T_plunderref8_Op_ok (f := 7) (get_set ((at_okL (by simpa [inr_] using c225)))) rfl, h.row_cell enc_T_plunderref8_Op_ok (f := 8) (get_set ((at_okL (by simpa [inr_] using c225)))) rfl, trivial⟩, trivial⟩ 15 9 rfl (by kernel_rfl) (wn rfl) hr (.bool (!r226)) (fun w => by kernel_rfl) ?_; clear hr a; intro a hr
                  refine ev 14 10 rfl (by kernel_rfl) (wn rfl) hr (.bool (!r226)) (fun w => by kernel_rfl) ?_; clear hr a; intro a hr
                  refine ev 13 12 rfl (by kernel_rfl) ((wg hr rfl rfl rfl (b' := (!r226)) (by kernel_rfl)).trans (by rw [show (!r226) = false from (by rw [show r226 = true from (c228)]; rfl)]; rfl)) hr (.slice ca121 l123.length cc122) (fun w => by kernel_rfl) ?_; clear hr a; intro a hr
                  refine ev 12 13 rfl (by kernel_rfl) ((wg hr rfl rfl rfl (b' := (!r226)) (by kernel_rfl)).trans (by rw [show (!r226) = false from (by rw [show r226 = true from (c228)]; rfl)]; rfl)) hr (.int .i64 r190) (fun w => by kernel_rfl) ?_; clear hr a; intro a hr
                  refine evD hgo ⟨⟨(h.pick 8).row_cell enc_T_frames_Op_ok (f := 0) (get_set ((at_okL (by simpa [inr_] using c224)))) rfl, (h.pick 8).row_cell enc_T_frames_Op_ok (f := 1) (get_set ((at_okL (by simpa [inr_] using c224)))) rfl, (h.pick 8).row_cell enc_T_frames_Op_ok (f := 2) (get_set ((at_okL (by simpa [inr_] using c224)))) rfl, (h.pick 8).row_cell enc_T_frames_Op_ok (f := 3) (get_set ((at_okL (by simpa [inr_] using c224)))) rfl, (h.pick 8).row_cell enc_T_frames_Op_ok (f := 4) (get_set ((at_okL (by simpa [inr_] using c224)))) rfl, (h.pick 8).row_cell enc_T_frames_Op_ok (f := 5) (get_set ((at_okL (by simpa [inr_] using c224)))) rfl, (h.pick 8).row_cell enc_T_frames_Op_ok (f := 6) (get_set ((at_okL (by simpa [inr_] using c224)))) rfl, (h.pick 8).row_cell enc_T_frames_Op_ok (f := 7) (get_set ((at_okL (by simpa [inr_] using c224)))) rfl, (h.pick 8).row_cell enc_T_frames_Op_ok (f := 8) (get_set ((at_okL (by simpa [inr_] using c224)))) rfl, trivial⟩, ⟨h.row_cell enc_T_plunderref8_Op_ok (f := 0) (get_set ((at_okL (by simpa [inr_] using c225)))) rfl, h.row_cell enc_T_plunderref8_Op_ok (f := 1) (get_set ((at_okL (by simpa [inr_] using c225)))) rfl, h.row_cell enc_T_plunderref8_Op_ok (f := 2) (get_set ((at_okL (by simpa [inr_] using c225)))) rfl, h.row_cell enc_T_plunderref8_Op_ok (f := 3) (get_set ((at_okL (by simpa [inr_] using c225)))) rfl, h.row_cell enc_T_plunderref8_Op_ok (f := 4) (get_set ((at_okL (by simpa [inr_] using c225)))) rfl, h.row_cell enc_T_plunderref8_Op_ok (f := 5) (get_set ((at_okL (by simpa [inr_] using c225)))) rfl, h.row_cell enc_T_plunderref8_Op_ok (f := 6) (get_set ((at_okL (by simpa [inr_] using c225)))) rfl, h.row_cell enc_T_plunderref8_Op_ok (f := 7) (get_set ((at_okL (by simpa [inr_] using c225)))) rfl, h.row_cell enc_T_plunderref8_Op_ok (f := 8) (get_set ((at_okL (by simpa [inr_] using c225)))) rfl, trivial⟩, ⟨(h.pick 4).cell 0 rfl, (h.pick 4).cell 1 rfl, (h.pick 4).cell 2 rfl, (h.pick 4).cell 3 rfl, (h.pick 4).cell 4 rfl, (h.pick 4).cell 5 rfl, (h.pick 4).cell 6 rfl, (h.pick 4).cell 7 rfl, (h.pick 4).cell 8 rfl, trivial⟩, ⟨h.row_cell enc_T_plunderref8_Op_ok (f := 0) (get_set ((at_okL (by simpa [inr_] using c225)))) rfl, h.row_cell enc_T_plunderref8_Op_ok (f := 1) (get_set ((at_okL (by simpa [inr_] using c225)))) rfl, h.row_cell enc_T_plunderref8_Op_ok (f := 2) (get_set ((at_okL (by simpa [inr_] using c225)))) rfl, h.row_cell enc_T_plunderref8_Op_ok (f := 3) (get_set ((at_okL (by simpa [inr_] using c225)))) rfl, h.row_cell enc_T_plunderref8_Op_ok (f := 4) (get_set ((at_okL (by simpa [inr_] using c225)))) rfl, h.row_cell enc_T_plunderref8_Op_ok (f := 5) (get_set ((at_okL (by simpa [inr_] using c225)))) rfl, h.row_cell enc_T_plunderref8_Op_ok (f := 6) (get_set ((at_okL (by simpa [inr_] using c225)))) rfl, h.row_cell enc_T_plunderref8_Op_ok (f := 7) (get_set ((at_okL (by simpa [inr_] using c225)))) rfl, h.row_cell enc_T_plunderref8_Op_ok (f := 8) (get_set ((at_okL (by simpa [inr_] using c225)))) rfl, trivial⟩, trivial⟩ 11 14 rfl (by kernel_rfl) ((wg hr rfl rfl rfl (b' := (!r226)) (by kernel_rfl)).trans (by rw [show (!r226) = false from (by rw [show r226 = true from (c228)]; rfl)]; rfl)) hr (.pointer (some ⟨blk ca121, r190.toNat * 9, none⟩)) (fun w => ri_row (k := .i64) (E := 78) rfl (by kernel_rfl) (by kernel_rfl) (by kernel_rfl) (by kernel_rfl) h c225) ?_; clear hr a; intro a hr
                  refine el [2, 6, 8, 9, 14] (b := b216) (off := 0) (cs := [.int .i64 r209.head_t_Base, .int .i64 r209.head_t_Frames, .int .i64 r209.head_frame, .int .i64 r209.head_stands, .int .i64 r209.head_code, .int .i64 r209.head_v, .int .i64 r209.kind, .int .i64 r209.slot, .int .i64 r209.give]) (fun _ hk => ⟨hk, fun w hD => hD.2.2.1⟩) 10 11 rfl (by kernel_rfl) ((wg hr rfl rfl rfl (b' := (!r226)) (by kernel_rfl)).trans (by rw [show (!r226) = false from (by rw [show r226 = true from (c228)]; rfl)]; rfl)) hr (.agg #[.int .i64 r209.head_t_Base, .int .i64 r209.head_t_Frames, .int .i64 r209.head_frame, .int .i64 r209.head_stands, .int .i64 r209.head_code, .int .i64 r209.head_v, .int .i64 r209.kind, .int .i64 r209.slot, .int .i64 r209.give]) ⟨(h.pick 4).cell 0 rfl, (h.pick 4).cell 1 rfl, (h.pick 4).cell 2 rfl, (h.pick 4).cell 3 rfl, (h.pick 4).cell 4 rfl, (h.pick 4).cell 5 rfl, (h.pick 4).cell 6 rfl, (h.pick 4).cell 7 rfl, (h.pick 4).cell 8 rfl, trivial⟩ (fun w hc => rlm (cs := [.int .i64 r209.head_t_Base, .int .i64 r209.head_t_Frames, .int .i64 r209.head_frame, .int .i64 r209.head_stands, .int .i64 r209.head_code, .int .i64 r209.head_v, .int .i64 r209.kind, .int .i64 r209.slot, .int .i64 r209.give]) rfl (by kernel_rfl) (by kernel_rfl) (by kernel_rfl) hc) ?_; clear hr a; intro a hr
                  refine el [2, 6, 8, 9, 14] (b := blk ca121) (off := r190.toNat * 9) (cs := [.int .i64 r217.Kind, .int .i64 r217.Join, .int .i64 r217.Cell, .int .i64 r217.V, .int .i64 r217.Next, .int .i64 r217.Frames, .int .i64 r217.Made, .int .i64 r217.Code, .int .i64 r217.Came]) (fun _ hk => ⟨hk, fun w hD => hD.2.2.2.1⟩) 9 15 rfl (by kernel_rfl) ((wg hr rfl rfl rfl (b' := (!r226)) (by kernel_rfl)).trans (by rw [show (!r226) = false from (by rw [show r226 = true from (c228)]; rfl)]; rfl)) hr (.agg #[.int .i64 r217.Kind, .int .i64 r217.Join, .int .i64 r217.Cell, .int .i64 r217.V, .int .i64 r217.Next, .int .i64 r217.Frames, .int .i64 r217.Made, .int .i64 r217.Code, .int .i64 r217.Came]) ⟨h.row_cell enc_T_plunderref8_Op_ok (f := 0) (get_set ((at_okL (by simpa [inr_] using c225)))) rfl, h.row_cell enc_T_plunderref8_Op_ok (f := 1) (get_set ((at_okL (by simpa [inr_] using c225)))) rfl, h.row_cell enc_T_plunderref8_Op_ok (f := 2) (get_set ((at_okL (by simpa [inr_] using c225)))) rfl, h.row_cell enc_T_plunderref8_Op_ok (f := 3) (get_set ((at_okL (by simpa [inr_] using c225)))) rfl, h.row_cell enc_T_plunderref8_Op_ok (f := 4) (get_set ((at_okL (by simpa [inr_] using c225)))) rfl, h.row_cell enc_T_plunderref8_Op_ok (f := 5) (get_set ((at_okL (by simpa [inr_] using c225)))) rfl, h.row_cell enc_T_plunderref8_Op_ok (f := 6) (get_set ((at_okL (by simpa [inr_] using c225)))) rfl, h.row_cell enc_T_plunderref8_Op_ok (f := 7) (get_set ((at_okL (by simpa [inr_] using c225)))) rfl, h.row_cell enc_T_plunderref8_Op_ok (f := 8) (get_set ((at_okL (by simpa [inr_] using c225)))) rfl, trivial⟩ (fun w hc => rlm (cs := [.int .i64 r217.Kind, .int .i64 r217.Join, .int .i64 r217.Cell, .int .i64 r217.V, .int .i64 r217.Next, .int .i64 r217.Frames, .int .i64 r217.Made, .int .i64 r217.Code, .int .i64 r217.Came]) rfl (by kernel_rfl) (by kernel_rfl) (by kernel_rfl) hc) ?_; clear hr a; intro a hr
                  refine e_one (fuel := 8) (i := 16) (by kernel_rfl) rfl ?_
                  have hc := plunderlaw8_answers_ok (H := e230) (h := h)
                  refine op_call ((wg hr rfl rfl rfl (b' := (!r226)) (by kernel_rfl)).trans (by rw [show (!r226) = false from (by rw [show r226 = true from (c228)]; rfl)]; rfl)) rfl rfl hr (f := 38) (args := #[.agg #[.int .i64 r209.head_t_Base, .int .i64 r209.head_t_Frames, .int .i64 r209.head_frame, .int .i64 r209.head_stands, .int .i64 r209.head_code, .int .i64 r209.head_v, .int .i64 r209.kind, .int .i64 r209.slot, .int .i64 r209.give], .agg #[.int .i64 r217.Kind, .int .i64 r217.Join, .int .i64 r217.Cell, .int .i64 r217.V, .int .i64 r217.Next, .int .i64 r217.Frames, .int .i64 r217.Made, .int .i64 r217.Code, .int .i64 r217.Came]]) (by kernel_rfl) hc ?_; clear hc h
                  rintro _ w ⟨rfl, h⟩; refine ⟨_, rfl, ?_⟩
                  clear hr a; intro a hr
                  refine wpList_nil ?_; refine then_normal ?_
                  refine ⟨fun hE => absurd hE (by decide), ?_⟩
                  refine ev 7 17 rfl (by kernel_rfl) ((wg hr rfl rfl rfl (b' := (!r226)) (by kernel_rfl)).trans (by rw [show (!r226) = false from (by rw [show r226 = true from (c228)]; rfl)]; rfl)) hr (.bool (!r229)) (fun w => by kernel_rfl) ?_; clear hr a; intro a hr
                  refine ev 6 18 rfl (by kernel_rfl) (wn rfl) hr (.bool (!r229)) (fun w => rp_f (b := (!r226)) rfl (by kernel_rfl) (by rw [show r226 = true from (c228)]; rfl) (by kernel_rfl)) ?_; clear hr a; intro a hr
                  refine ev 5 19 rfl (by kernel_rfl) (wn rfl) hr (.bool (!r229)) (fun w => by kernel_rfl) ?_; clear hr a; intro a hr
                  refine eo 4 20 rfl (by kernel_rfl) ((wg hr rfl rfl rfl (b' := (!r229)) (by kernel_rfl)).trans (by rw [show (!r229) = true from (by rw [show r229 = false from (bF c231)]; rfl)]; rfl)) hr ?_; clear hr a; intro a hr
                  refine eo 3 21 rfl (by kernel_rfl) ((wg hr rfl rfl rfl (b' := (!r229)) (by kernel_rfl)).trans (by rw [show (!r229) = true from (by rw [show r229 = false from (bF c231)]; rfl)]; rfl)) hr ?_; clear hr a; intro a hr
                  refine e_one (fuel := 2) (i := 22) (by kernel_rfl) rfl ?_
                  refine op_off ((wg hr rfl rfl rfl (b' := (!r229)) (by kernel_rfl)).trans (by rw [show (!r229) = true from (by rw [show r229 = false from (bF c231)]; rfl)]; rfl)) rfl rfl hr ?_; clear hr a; intro a hr
                  refine wpList_nil ?_; refine then_normal ?_
                  refine ⟨fun hE => absurd hE (by decide), ?_⟩
                  refine eo 1 23 rfl (by kernel_rfl) ((wg hr rfl rfl rfl (b' := (!r229)) (by kernel_rfl)).trans (by rw [show (!r229) = true from (by rw [show r229 = false from (bF c231)]; rfl)]; rfl)) hr ?_; clear hr a; intro a hr
                  refine ev 0 24 rfl (by kernel_rfl) (wn rfl) hr (.bool true) (fun w => rp_t (b := (!r229)) rfl (by kernel_rfl) (by rw [show r229 = false from (bF c231)]; rfl) (by kernel_rfl)) ?_; clear hr a; intro a hr
                  refine e_end (by kernel_rfl) ?_
                  refine then_normal ?_
                  refine cond_tt hr (b := true) rfl ?_
                  refine wp_seq ?_
                  refine wp_region_lit ?_
                  refine ov hr (.bool false) (by kernel_rfl) ?_; clear hr a; intro a hr
                  refine wpList_nil ?_
                  refine then_normal ?_
                  refine wp_ret ?_
                  refine blk_ret ?_
                  refine then_ret ?_
                  refine then_ret ?_
                  refine blk_ret ?_
                  refine then_ret ?_
                  refine end_ret1 (v := .bool false) rfl hr (by kernel_rfl) ?_
                  replace H := jx3 H hK167
                  replace h : Fit z (sepL (L)) _ := h.sel 14 [] (by kernel_rfl) (by kernel_rfl)
                  replace H := ej1 H; subst H
                  exact ⟨rfl, h⟩
              ·
                replace H := ifF c228 H
                refine reg_E (fun w => heldC w (blk ca118) (r190.toNat * 9) [.int .i64 r202.head_t_Base, .int .i64 r202.head_t_Frames, .int .i64 r202.head_frame, .int .i64 r202.head_stands, .int .i64 r202.head_code, .int .i64 r202.head_v, .int .i64 r202.kind, .int .i64 r202.slot, .int .i64 r202.give] ∧ heldC w (blk ca121) (r190.toNat * 9) [.int .i64 r217.Kind, .int .i64 r217.Join, .int .i64 r217.Cell, .int .i64 r217.V, .int .i64 r217.Next, .int .i64 r217.Frames, .int .i64 r217.Made, .int .i64 r217.Code, .int .i64 r217.Came] ∧ True) [2, 6] h (by kernel_rfl) ?_; intro w h
                change wpAnyE _ _ _ _ _ _ 25 (Array.replicate 25 false) a w
                have hgo : ∀ w w', CellsGo w w' → (heldC w (blk ca118) (r190.toNat * 9) [.int .i64 r202.head_t_Base, .int .i64 r202.head_t_Frames, .int .i64 r202.head_frame, .int .i64 r202.head_stands, .int .i64 r202.head_code, .int .i64 r202.head_v, .int .i64 r202.kind, .int .i64 r202.slot, .int .i64 r202.give] ∧ heldC w (blk ca121) (r190.toNat * 9) [.int .i64 r217.Kind, .int .i64 r217.Join, .int .i64 r217.Cell, .int .i64 r217.V, .int .i64 r217.Next, .int .i64 r217.Frames, .int .i64 r217.Made, .int .i64 r217.Code, .int .i64 r217.Came] ∧ True) → heldC w' (blk ca118) (r190.toNat * 9) [.int .i64 r202.head_t_Base, .int .i64 r202.head_t_Frames, .int .i64 r202.head_frame, .int .i64 r202.head_stands, .int .i64 r202.head_code, .int .i64 r202.head_v, .int .i64 r202.kind, .int .i64 r202.slot, .int .i64 r202.give] ∧ heldC w' (blk ca121) (r190.toNat * 9) [.int .i64 r217.Kind, .int .i64 r217.Join, .int .i64 r217.Cell, .int .i64 r217.V, .int .i64 r217.Next, .int .i64 r217.Frames, .int .i64 r217.Made, .int .i64 r217.Code, .int .i64 r217.Came] ∧ True := fun w w' g hD => ⟨heldC_go _ _ _ _ _ g hD.1, heldC_go _ _ _ _ _ g hD.2.1, trivial⟩
                refine ev 24 0 rfl (by kernel_rfl) (wn rfl) hr (.slice ca118 l120.length cc119) (fun w => by kernel_rfl) ?_; clear hr a; intro a hr
                refine ev 23 1 rfl (by kernel_rfl) (wn rfl) hr (.int .i64 r190) (fun w => by kernel_rfl) ?_; clear hr a; intro a hr
                refine evD hgo ⟨⟨(h.pick 8).row_cell enc_T_frames_Op_ok (f := 0) (get_set ((at_okL (by simpa [inr_] using c224)))) rfl, (h.pick 8).row_cell enc_T_frames_Op_ok (f := 1) (get_set ((at_okL (by simpa [inr_] using c224)))) rfl, (h.pick 8).row_cell enc_T_frames_Op_ok (f := 2) (get_set ((at_okL (by simpa [inr_] using c224)))) rfl, (h.pick 8).row_cell enc_T_frames_Op_ok (f := 3) (get_set ((at_okL (by simpa [inr_] using c224)))) rfl, (h.pick 8).row_cell enc_T_frames_Op_ok (f := 4) (get_set ((at_okL (by simpa [inr_] using c224)))) rfl, (h.pick 8).row_cell enc_T_frames_Op_ok (f := 5) (get_set ((at_okL (by simpa [inr_] using c224)))) rfl, (h.pick 8).row_cell enc_T_frames_Op_ok (f := 6) (get_set ((at_okL (by simpa [inr_] using c224)))) rfl, (h.pick 8).row_cell enc_T_frames_Op_ok (f := 7) (get_set ((at_okL (by simpa [inr_] using c224)))) rfl, (h.pick 8).row_cell enc_T_frames_Op_ok (f := 8) (get_set ((at_okL (by simpa [inr_] using c224)))) rfl, trivial⟩, ⟨h.row_cell enc_T_plunderref8_Op_ok (f := 0) (get_set ((at_okL (by simpa [inr_] using c225)))) rfl, h.row_cell enc_T_plunderref8_Op_ok (f := 1) (get_set ((at_okL (by simpa [inr_] using c225)))) rfl, h.row_cell enc_T_plunderref8_Op_ok (f := 2) (get_set ((at_okL (by simpa [inr_] using c225)))) rfl, h.row_cell enc_T_plunderref8_Op_ok (f := 3) (get_set ((at_okL (by simpa [inr_] using c225)))) rfl, h.row_cell enc_T_plunderref8_Op_ok (f := 4) (get_set ((at_okL (by simpa [inr_] using c225)))) rfl, h.row_cell enc_T_plunderref8_Op_ok (f := 5) (get_set ((at_okL (by simpa [inr_] using c225)))) rfl, h.row_cell enc_T_plunderref8_Op_ok (f := 6) (get_set ((at_okL (by simpa [inr_] using c225)))) rfl, h.row_cell enc_T_plunderref8_Op_ok (f := 7) (get_set ((at_okL (by simpa [inr_] using c225)))) rfl, h.row_cell enc_T_plunderref8_Op_ok (f := 8) (get_set ((at_okL (by simpa [inr_] using c225)))) rfl, trivial⟩, trivial⟩ 22 2 rfl (by kernel_rfl) (wn rfl) hr (.pointer (some ⟨blk ca118, r190.toNat * 9, none⟩)) (fun w => ri_row (k := .i64) (E := 50) rfl (by kernel_rfl) (by kernel_rfl) (by kernel_rfl) (by kernel_rfl) (h.pick 8) c224) ?_; clear hr a; intro a hr
                refine ev 21 4 rfl (by kernel_rfl) (wn rfl) hr (.slice ca121 l123.length cc122) (fun w => by kernel_rfl) ?_; clear hr a; intro a hr
                refine ev 20 5 rfl (by kernel_rfl) (wn rfl) hr (.int .i64 r190) (fun w => by kernel_rfl) ?_; clear hr a; intro a hr
                refine evD hgo ⟨⟨(h.pick 8).row_cell enc_T_frames_Op_ok (f := 0) (get_set ((at_okL (by simpa [inr_] using c224)))) rfl, (h.pick 8).row_cell enc_T_frames_Op_ok (f := 1) (get_set ((at_okL (by simpa [inr_] using c224)))) rfl, (h.pick 8).row_cell enc_T_frames_Op_ok (f := 2) (get_set ((at_okL (by simpa [inr_] using c224)))) rfl, (h.pick 8).row_cell enc_T_frames_Op_ok (f := 3) (get_set ((at_okL (by simpa [inr_] using c224)))) rfl, (h.pick 8).row_cell enc_T_frames_Op_ok (f := 4) (get_set ((at_okL (by simpa [inr_] using c224)))) rfl, (h.pick 8).row_cell enc_T_frames_Op_ok (f := 5) (get_set ((at_okL (by simpa [inr_] using c224)))) rfl, (h.pick 8).row_cell enc_T_frames_Op_ok (f := 6) (get_set ((at_okL (by simpa [inr_] using c224)))) rfl, (h.pick 8).row_cell enc_T_frames_Op_ok (f := 7) (get_set ((at_okL (by simpa [inr_] using c224)))) rfl, (h.pick 8).row_cell enc_T_frames_Op_ok (f := 8) (get_set ((at_okL (by simpa [inr_] using c224)))) rfl, trivial⟩, ⟨h.row_cell enc_T_plunderref8_Op_ok (f := 0) (get_set ((at_okL (by simpa [inr_] using c225)))) rfl, h.row_cell enc_T_plunderref8_Op_ok (f := 1) (get_set ((at_okL (by simpa [inr_] using c225)))) rfl, h.row_cell enc_T_plunderref8_Op_ok (f := 2) (get_set ((at_okL (by simpa [inr_] using c225)))) rfl, h.row_cell enc_T_plunderref8_Op_ok (f := 3) (get_set ((at_okL (by simpa [inr_] using c225)))) rfl, h.row_cell enc_T_plunderref8_Op_ok (f := 4) (get_set ((at_okL (by simpa [inr_] using c225)))) rfl, h.row_cell enc_T_plunderref8_Op_ok (f := 5) (get_set ((at_okL (by simpa [inr_] using c225)))) rfl, h.row_cell enc_T_plunderref8_Op_ok (f := 6) (get_set ((at_okL (by simpa [inr_] using c225)))) rfl, h.row_cell enc_T_plunderref8_Op_ok (f := 7) (get_set ((at_okL (by simpa [inr_] using c225)))) rfl, h.row_cell enc_T_plunderref8_Op_ok (f := 8) (get_set ((at_okL (by simpa [inr_] using c225)))) rfl, trivial⟩, trivial⟩ 19 6 rfl (by kernel_rfl) (wn rfl) hr (.pointer (some ⟨blk ca121, r190.toNat * 9, none⟩)) (fun w => ri_row (k := .i64) (E := 78) rfl (by kernel_rfl) (by kernel_rfl) (by kernel_rfl) (by kernel_rfl) h c225) ?_; clear hr a; intro a hr
                refine el [2, 6] (b := blk ca118) (off := r190.toNat * 9) (cs := [.int .i64 r202.head_t_Base, .int .i64 r202.head_t_Frames, .int .i64 r202.head_frame, .int .i64 r202.head_stands, .int .i64 r202.head_code, .int .i64 r202.head_v, .int .i64 r202.kind, .int .i64 r202.slot, .int .i64 r202.give]) (fun _ hk => ⟨hk, fun w hD => hD.1⟩) 18 3 rfl (by kernel_rfl) (wn rfl) hr (.agg #[.int .i64 r202.head_t_Base, .int .i64 r202.head_t_Frames, .int .i64 r202.head_frame, .int .i64 r202.head_stands, .int .i64 r202.head_code, .int .i64 r202.head_v, .int .i64 r202.kind, .int .i64 r202.slot, .int .i64 r202.give]) ⟨(h.pick 8).row_cell enc_T_frames_Op_ok (f := 0) (get_set ((at_okL (by simpa [inr_] using c224)))) rfl, (h.pick 8).row_cell enc_T_frames_Op_ok (f := 1) (get_set ((at_okL (by simpa [inr_] using c224)))) rfl, (h.pick 8).row_cell enc_T_frames_Op_ok (f := 2) (get_set ((at_okL (by simpa [inr_] using c224)))) rfl, (h.pick 8).row_cell enc_T_frames_Op_ok (f := 3) (get_set ((at_okL (by simpa [inr_] using c224)))) rfl, (h.pick 8).row_cell enc_T_frames_Op_ok (f := 4) (get_set ((at_okL (by simpa [inr_] using c224)))) rfl, (h.pick 8).row_cell enc_T_frames_Op_ok (f := 5) (get_set ((at_okL (by simpa [inr_] using c224)))) rfl, (h.pick 8).row_cell enc_T_frames_Op_ok (f := 6) (get_set ((at_okL (by simpa [inr_] using c224)))) rfl, (h.pick 8).row_cell enc_T_frames_Op_ok (f := 7) (get_set ((at_okL (by simpa [inr_] using c224)))) rfl, (h.pick 8).row_cell enc_T_frames_Op_ok (f := 8) (get_set ((at_okL (by simpa [inr_] using c224)))) rfl, trivial⟩ (fun w hc => rlm (cs := [.int .i64 r202.head_t_Base, .int .i64 r202.head_t_Frames, .int .i64 r202.head_frame, .int .i64 r202.head_stands, .int .i64 r202.head_code, .int .i64 r202.head_v, .int .i64 r202.kind, .int .i64 r202.slot, .int .i64 r202.give]) rfl (by kernel_rfl) (by kernel_rfl) (by kernel_rfl) hc) ?_; clear hr a; intro a hr
                refine el [2, 6] (b := blk ca121) (off := r190.toNat * 9) (cs := [.int .i64 r217.Kind, .int .i64 r217.Join, .int .i64 r217.Cell, .int .i64 r217.V, .int .i64 r217.Next, .int .i64 r217.Frames, .int .i64 r217.Made, .int .i64 r217.Code, .int .i64 r217.Came]) (fun _ hk => ⟨hk, fun w hD => hD.2.1⟩) 17 7 rfl (by kernel_rfl) (wn rfl) hr (.agg #[.int .i64 r217.Kind, .int .i64 r217.Join, .int .i64 r217.Cell, .int .i64 r217.V, .int .i64 r217.Next, .int .i64 r217.Frames, .int .i64 r217.Made, .int .i64 r217.Code, .int .i64 r217.Came]) ⟨h.row_cell enc_T_plunderref8_Op_ok (f := 0) (get_set ((at_okL (by simpa [inr_] using c225)))) rfl, h.row_cell enc_T_plunderref8_Op_ok (f := 1) (get_set ((at_okL (by simpa [inr_] using c225)))) rfl, h.row_cell enc_T_plunderref8_Op_ok (f := 2) (get_set ((at_okL (by simpa [inr_] using c225)))) rfl, h.row_cell enc_T_plunderref8_Op_ok (f := 3) (get_set ((at_okL (by simpa [inr_] using c225)))) rfl, h.row_cell enc_T_plunderref8_Op_ok (f := 4) (get_set ((at_okL (by simpa [inr_] using c225)))) rfl, h.row_cell enc_T_plunderref8_Op_ok (f := 5) (get_set ((at_okL (by simpa [inr_] using c225)))) rfl, h.row_cell enc_T_plunderref8_Op_ok (f := 6) (get_set ((at_okL (by simpa [inr_] using c225)))) rfl, h.row_cell enc_T_plunderref8_Op_ok (f := 7) (get_set ((at_okL (by simpa [inr_] using c225)))) rfl, h.row_cell enc_T_plunderref8_Op_ok (f := 8) (get_set ((at_okL (by simpa [inr_] using c225)))) rfl, trivial⟩ (fun w hc => rlm (cs := [.int .i64 r217.Kind, .int .i64 r217.Join, .int .i64 r217.Cell, .int .i64 r217.V, .int .i64 r217.Next, .int .i64 r217.Frames, .int .i64 r217.Made, .int .i64 r217.Code, .int .i64 r217.Came]) rfl (by kernel_rfl) (by kernel_rfl) (by kernel_rfl) hc) ?_; clear hr a; intro a hr
                refine e_one (fuel := 16) (i := 8) (by kernel_rfl) rfl ?_
                have hc := plunderlaw8_answers_ok (H := e227) (h := h)
                refine op_call (wn rfl) rfl rfl hr (f := 38) (args := #[.agg #[.int .i64 r202.head_t_Base, .int .i64 r202.head_t_Frames, .int .i64 r202.head_frame, .int .i64 r202.head_stands, .int .i64 r202.head_code, .int .i64 r202.head_v, .int .i64 r202.kind, .int .i64 r202.slot, .int .i64 r202.give], .agg #[.int .i64 r217.Kind, .int .i64 r217.Join, .int .i64 r217.Cell, .int .i64 r217.V, .int .i64 r217.Next, .int .i64 r217.Frames, .int .i64 r217.Made, .int .i64 r217.Code, .int .i64 r217.Came]]) (by kernel_rfl) hc ?_; clear hc h
                rintro _ w ⟨rfl, h⟩; refine ⟨_, rfl, ?_⟩
                clear hr a; intro a hr
                refine wpList_nil ?_; refine then_normal ?_
                refine ⟨fun hE => absurd hE (by decide), ?_⟩
                refine ev 15 9 rfl (by kernel_rfl) (wn rfl) hr (.bool (!r226)) (fun w => by kernel_rfl) ?_; clear hr a; intro a hr
                refine ev 14 10 rfl (by kernel_rfl) (wn rfl) hr (.bool (!r226)) (fun w => by kernel_rfl) ?_; clear hr a; intro a hr
                refine eo 13 12 rfl (by kernel_rfl) ((wg hr rfl rfl rfl (b' := (!r226)) (by kernel_rfl)).trans (by rw [show (!r226) = true from (by rw [show r226 = false from (bF c228)]; rfl)]; rfl)) hr ?_; clear hr a; intro a hr
                refine eo 12 13 rfl (by kernel_rfl) ((wg hr rfl rfl rfl (b' := (!r226)) (by kernel_rfl)).trans (by rw [show (!r226) = true from (by rw [show r226 = false from (bF c228)]; rfl)]; rfl)) hr ?_; clear hr a; intro a hr
                refine eo 11 14 rfl (by kernel_rfl) ((wg hr rfl rfl rfl (b' := (!r226)) (by kernel_rfl)).trans (by rw [show (!r226) = true from (by rw [show r226 = false from (bF c228)]; rfl)]; rfl)) hr ?_; clear hr a; intro a hr
                refine eo 10 11 rfl (by kernel_rfl) ((wg hr rfl rfl rfl (b' := (!r226)) (by kernel_rfl)).trans (by rw [show (!r226) = true from (by rw [show r226 = false from (bF c228)]; rfl)]; rfl)) hr ?_; clear hr a; intro a hr
                refine eo 9 15 rfl (by kernel_rfl) ((wg hr rfl rfl rfl (b' := (!r226)) (by kernel_rfl)).trans (by rw [show (!r226) = true from (by rw [show r226 = false from (bF c228)]; rfl)]; rfl)) hr ?_; clear hr a; intro a hr
                refine e_one (fuel := 8) (i := 16) (by kernel_rfl) rfl ?_
                refine op_off ((wg hr rfl rfl rfl (b' := (!r226)) (by kernel_rfl)).trans (by rw [show (!r226) = true from (by rw [show r226 = false from (bF c228)]; rfl)]; rfl)) rfl rfl hr ?_; clear hr a; intro a hr
                refine wpList_nil ?_; refine then_normal ?_
                refine ⟨fun hE => absurd hE (by decide), ?_⟩
                refine eo 7 17 rfl (by kernel_rfl) ((wg hr rfl rfl rfl (b' := (!r226)) (by kernel_rfl)).trans (by rw [show (!r226) = true from (by rw [show r226 = false from (bF c228)]; rfl)]; rfl)) hr ?_; clear hr a; intro a hr
                refine ev 6 18 rfl (by kernel_rfl) (wn rfl) hr (.bool true) (fun w => rp_t (b := (!r226)) rfl (by kernel_rfl) (by rw [show r226 = false from (bF c228)]; rfl) (by kernel_rfl)) ?_; clear hr a; intro a hr
                refine ev 5 19 rfl (by kernel_rfl) (wn rfl) hr (.bool true) (fun w => by kernel_rfl) ?_; clear hr a; intro a hr
                refine eo 4 20 rfl (by kernel_rfl) ((wg hr rfl rfl rfl (b' := true) (by kernel_rfl)).trans rfl) hr ?_; clear hr a; intro a hr
                refine eo 3 21 rfl (by kernel_rfl) ((wg hr rfl rfl rfl (b' := true) (by kernel_rfl)).trans rfl) hr ?_; clear hr a; intro a hr
                refine e_one (fuel := 2) (i := 22) (by kernel_rfl) rfl ?_
                refine op_off ((wg hr rfl rfl rfl (b' := true) (by kernel_rfl)).trans rfl) rfl rfl hr ?_; clear hr a; intro a hr
                refine wpList_nil ?_; refine then_normal ?_
                refine ⟨fun hE => absurd hE (by decide), ?_⟩
                refine eo 1 23 rfl (by kernel_rfl) ((wg hr rfl rfl rfl (b' := true) (by kernel_rfl)).trans rfl) hr ?_; clear hr a; intro a hr
                refine ev 0 24 rfl (by kernel_rfl) (wn rfl) hr (.bool true) (fun w => by kernel_rfl) ?_; clear hr a; intro a hr
                refine e_end (by kernel_rfl) ?_
                refine then_normal ?_
                refine cond_tt hr (b := true) rfl ?_
                refine wp_seq ?_
                refine wp_region_lit ?_
                refine ov hr (.bool false) (by kernel_rfl) ?_; clear hr a; intro a hr
                refine wpList_nil ?_
                refine then_normal ?_
                refine wp_ret ?_
                refine blk_ret ?_
                refine then_ret ?_
                refine then_ret ?_
                refine blk_ret ?_
                refine then_ret ?_
                refine end_ret1 (v := .bool false) rfl hr (by kernel_rfl) ?_
                replace H := jx3 H hK167
                replace h : Fit z (sepL (L)) _ := h.sel 14 [] (by kernel_rfl) (by kernel_rfl)
                replace H := ej1 H; subst H
                exact ⟨rfl, h⟩
            ·
              replace H := ifF c188 H
              refine cond_ff hr (b := (decide (((l120.length : Nat) : Int) > (0 : Int)))) (decide_eq_false c188) ?_
              refine wp_exit ?_
              refine then_exit ?_
              refine then_exit ?_
              refine blk_here ?_
              refine then_normal ?_
              replace hr := hr.fold2 [(10, .pointer (some ⟨Bn10, 0, none⟩)), (12, .pointer (some ⟨Bn19, 0, none⟩)), (14, .pointer (some ⟨Bn28, 0, none⟩))] (by kernel_rfl); obtain ⟨j, hr⟩ := hr
              replace h : Fit z (sepL (ob34 Bn10 S169 ca170 cc171 ca172 cc173 :: ro2 ca170 cc171 S169.Held :: ro96 ca172 cc173 S169.Book :: ob103 Bn19 S174 ca175 cc176 ca177 cc178 :: ro2 ca175 cc176 S174.cell :: ro96 ca177 cc178 S174.log :: ob103 Bn28 S179 ca180 cc181 ca182 cc183 :: ro2 ca180 cc181 S179.cell :: ro96 ca182 cc183 S179.log :: L)) _ := h.sel 11 [0, 1, 2, 3, 4, 5, 6, 7, 8] (by kernel_rfl) (by kernel_rfl)
              exact ⟨(), ca170, cc171, ca172, cc173, ca175, cc176, ca177, cc178, ca180, cc181, ca182, cc183, S169, S174, S179, sinj H, j, hr, h⟩
          ·
            replace H := ifF c187 H
            refine op_off ((wg hr rfl rfl rfl (b' := (decide (g186 < ((p3.length : Nat) : Int)))) (by kernel_rfl)).trans (by rw [show (decide (g186 < ((p3.length : Nat) : Int))) = false from (decide_eq_false c187)]; rfl)) rfl rfl hr ?_; clear hr a; intro a hr
            refine op_off ((wg hr rfl rfl rfl (b' := (decide (g186 < ((p3.length : Nat) : Int)))) (by kernel_rfl)).trans (by rw [show (decide (g186 < ((p3.length : Nat) : Int))) = false from (decide_eq_false c187)]; rfl)) rfl rfl hr ?_; clear hr a; intro a hr
            refine op_off ((wg hr rfl rfl rfl (b' := (decide (g186 < ((p3.length : Nat) : Int)))) (by kernel_rfl)).trans (by rw [show (decide (g186 < ((p3.length : Nat) : Int))) = false from (decide_eq_false c187)]; rfl)) rfl rfl hr ?_; clear hr a; intro a hr
            refine op_val (wn rfl) rfl rfl hr (v := .bool false) (rp_f (b := (decide (g186 < ((p3.length : Nat) : Int)))) rfl (by kernel_rfl) (decide_eq_false c187) (by kernel_rfl)) ?_; clear hr a; intro a hr
            refine wpList_nil ?_
            refine then_normal ?_
            refine cond_ff hr (b := false) rfl ?_
            refine wp_exit ?_
            refine then_exit ?_
            refine then_exit ?_
            refine blk_here ?_
            refine then_normal ?_
            replace hr := hr.fold2 [(10, .pointer (some ⟨Bn10, 0, none⟩)), (12, .pointer (some ⟨Bn19, 0, none⟩)), (14, .pointer (some ⟨Bn28, 0, none⟩))] (by kernel_rfl); obtain ⟨j, hr⟩ := hr
            replace h : Fit z (sepL (ob34 Bn10 S169 ca170 cc171 ca172 cc173 :: ro2 ca170 cc171 S169.Held :: ro96 ca172 cc173 S169.Book :: ob103 Bn19 S174 ca175 cc176 ca177 cc178 :: ro2 ca175 cc176 S174.cell :: ro96 ca177 cc178 S174.log :: ob103 Bn28 S179 ca180 cc181 ca182 cc183 :: ro2 ca180 cc181 S179.cell :: ro96 ca182 cc183 S179.log :: L)) _ := h.sel 11 [0, 1, 2, 3, 4, 5, 6, 7, 8] (by kernel_rfl) (by kernel_rfl)
            exact ⟨(), ca170, cc171, ca172, cc173, ca175, cc176, ca177, cc178, ca180, cc181, ca182, cc183, S169, S174, S179, sinj H, j, hr, h⟩
      clear h hr a; rintro _ a w ⟨ca153, cc154, ca155, cc156, ca158, cc159, ca160, cc161, ca163, cc164, ca165, cc166, S152, S157, S162, rfl, j, hr, h⟩
      replace H := jk3 hK167
      refine wp_seq ?_
      refine wp_region_lit ?_
      replace H := bd1 H; obtain ⟨r235, e236, H⟩ := H
      refine ov hr (.pointer (some ⟨Bn19, 0, none⟩)) (by kernel_rfl) ?_; clear hr a; intro a hr
      replace h : Fit z (sepL (ob103 Bn19 S157 ca158 cc159 ca160 cc161 :: ro2 ca158 cc159 S157.cell :: ro96 ca160 cc161 S157.log :: ob34 Bn10 S152 ca153 cc154 ca155 cc156 :: ro2 ca153 cc154 S152.Held :: ro96 ca155 cc156 S152.Book :: ob103 Bn28 S162 ca163 cc164 ca165 cc166 :: ro2 ca163 cc164 S162.cell :: ro96 ca165 cc166 S162.log :: L)) _ := h.sel 9 [3, 4, 5, 0, 1, 2, 6, 7, 8] (by kernel_rfl) (by kernel_rfl)
      have hc := cells_Arena_Log_ok (H := e236) (h := h)
      refine op_call (wn rfl) rfl rfl hr (f := 24) (args := #[.pointer (some ⟨Bn19, 0, none⟩)]) (by kernel_rfl) hc ?_; clear hc h
      rintro _ w ⟨car237, rfl, h⟩; refine ⟨_, rfl, ?_⟩
      clear hr a; intro a hr
      replace H := bd1 H; obtain ⟨r238, e239, H⟩ := H
      refine ov hr (.pointer (some ⟨Bn10, 0, none⟩)) (by kernel_rfl) ?_; clear hr a; intro a hr
      replace h : Fit z (sepL (ob34 Bn10 S152 ca153 cc154 ca155 cc156 :: ro2 ca153 cc154 S152.Held :: ro96 ca155 cc156 S152.Book :: ob103 Bn19 S157 ca158 cc159 ca160 cc161 :: ro2 ca158 cc159 S157.cell :: ro96 ca160 cc161 S157.log :: ro96 car237 r235.length r235 :: ob103 Bn28 S162 ca163 cc164 ca165 cc166 :: ro2 ca163 cc164 S162.cell :: ro96 ca165 cc166 S162.log :: L)) _ := h.sel 10 [4, 5, 6, 0, 1, 2, 3, 7, 8, 9] (by kernel_rfl) (by kernel_rfl)
      have hc := plunderref2_Arena_Log_ok (H := e239) (h := h)
      refine op_call (wn rfl) rfl rfl hr (f := 25) (args := #[.pointer (some ⟨Bn10, 0, none⟩)]) (by kernel_rfl) hc ?_; clear hc h
      rintro _ w ⟨car240, ccr241, rfl, h⟩; refine ⟨_, rfl, ?_⟩
      clear hr a; intro a hr
      replace H := bd1 H; obtain ⟨r242, e243, H⟩ := H
      have hc := plunderlaw8_sameLog_ok (va0 := car237) (vc0 := r235.length) (va1 := car240) (vc1 := ccr241) (hv0 := (RdRow.of_row enc_T_api_Access_ok (h.pick 7) (fun h => (h.pick 7)))) (hv1 := (RdRow.of_row enc_T_api_Access_ok (h.pick 3) (fun h => (h.pick 3)))) (H := e243) (h := h)
      refine op_call (wn rfl) rfl rfl hr (f := 23) (args := #[.slice car237 r235.length r235.length, .slice car240 r238.length ccr241]) (by kernel_rfl) hc ?_; clear hc h
      rintro _ w ⟨rfl, h⟩; refine ⟨_, rfl, ?_⟩
      clear hr a; intro a hr
      refine ov hr (.bool r242) (by kernel_rfl) ?_; clear hr a; intro a hr
      by_cases c244 : r242 = true
      ·
        replace H := ifT c244 H
        refine op_val ((wg hr rfl rfl rfl (b' := r242) (by kernel_rfl)).trans (by rw [show r242 = true from (c244)]; rfl)) rfl rfl hr (v := .pointer (some ⟨Bn19, 0, none⟩)) (by kernel_rfl) ?_; clear hr a; intro a hr
        replace H := bd1 H; obtain ⟨r245, e246, H⟩ := H
        replace h : Fit z (sepL (ob103 Bn19 S157 ca158 cc159 ca160 cc161 :: ro2 ca158 cc159 S157.cell :: ro96 ca160 cc161 S157.log :: ob34 Bn10 S152 ca153 cc154 ca155 cc156 :: ro2 ca153 cc154 S152.Held :: ro96 ca155 cc156 S152.Book :: ro96 car240 ccr241 r238 :: ro96 car237 r235.length r235 :: ob103 Bn28 S162 ca163 cc164 ca165 cc166 :: ro2 ca163 cc164 S162.cell :: ro96 ca165 cc166 S162.log :: L)) _ := h.sel 11 [4, 5, 6, 0, 1, 2, 3, 7, 8, 9, 10] (by kernel_rfl) (by kernel_rfl)
        have hc := cells_Arena_Cells_ok (H := e246) (h := h)
        refine op_call ((wg hr rfl rfl rfl (b' := r242) (by kernel_rfl)).trans (by rw [show r242 = true from (c244)]; rfl)) rfl rfl hr (f := 21) (args := #[.pointer (some ⟨Bn19, 0, none⟩)]) (by kernel_rfl) hc ?_; clear hc h
        rintro _ w ⟨car247, rfl, h⟩; refine ⟨_, rfl, ?_⟩
        clear hr a; intro a hr
        refine op_val ((wg hr rfl rfl rfl (b' := r242) (by kernel_rfl)).trans (by rw [show r242 = true from (c244)]; rfl)) rfl rfl hr (v := .pointer (some ⟨Bn10, 0, none⟩)) (by kernel_rfl) ?_; clear hr a; intro a hr
        replace H := bd1 H; obtain ⟨r248, e249, H⟩ := H
        replace h : Fit z (sepL (ob34 Bn10 S152 ca153 cc154 ca155 cc156 :: ro2 ca153 cc154 S152.Held :: ro96 ca155 cc156 S152.Book :: ob103 Bn19 S157 ca158 cc159 ca160 cc161 :: ro2 ca158 cc159 S157.cell :: ro96 ca160 cc161 S157.log :: ro2 car247 r245.length r245 :: ro96 car240 ccr241 r238 :: ro96 car237 r235.length r235 :: ob103 Bn28 S162 ca163 cc164 ca165 cc166 :: ro2 ca163 cc164 S162.cell :: ro96 ca165 cc166 S162.log :: L)) _ := h.sel 12 [4, 5, 6, 0, 1, 2, 3, 7, 8, 9, 10, 11] (by kernel_rfl) (by kernel_rfl)
        have hc := plunderref2_Arena_Cells_ok (H := e249) (h := h)
        refine op_call ((wg hr rfl rfl rfl (b' := r242) (by kernel_rfl)).trans (by rw [show r242 = true from (c244)]; rfl)) rfl rfl hr (f := 22) (args := #[.pointer (some ⟨Bn10, 0, none⟩)]) (by kernel_rfl) hc ?_; clear hc h
        rintro _ w ⟨car250, ccr251, rfl, h⟩; refine ⟨_, rfl, ?_⟩
        clear hr a; intro a hr
        replace H := bd1 H; obtain ⟨r252, e253, H⟩ := H
        have hc := plunderlaw8_sameNumbers_ok (va0 := car247) (vc0 := r245.length) (va1 := car250) (vc1 := ccr251) (hv0 := (RdRow.of_row encZ_i64_ok (h.pick 7) (fun h => (h.pick 7)))) (hv1 := (RdRow.of_row encZ_i64_ok (h.pick 3) (fun h => (h.pick 3)))) (H := e253) (h := h)
        refine op_call ((wg hr rfl rfl rfl (b' := r242) (by kernel_rfl)).trans (by rw [show r242 = true from (c244)]; rfl)) rfl rfl hr (f := 20) (args := #[.slice car247 r245.length r245.length, .slice car250 r248.length ccr251]) (by kernel_rfl) hc ?_; clear hc h
        rintro _ w ⟨rfl, h⟩; refine ⟨_, rfl, ?_⟩
        clear hr a; intro a hr
        refine op_val (wn rfl) rfl rfl hr (v := .bool r252) (rp_t (b := r242) rfl (by kernel_rfl) (c244) (by kernel_rfl)) ?_; clear hr a; intro a hr
        refine ov hr (.bool r252) (by kernel_rfl) ?_; clear hr a; intro a hr
        by_cases c254 : r252 = true
        ·
          replace H := ifT c254 H
          refine op_val ((wg hr rfl rfl rfl (b' := r252) (by kernel_rfl)).trans (by rw [show r252 = true from (c254)]; rfl)) rfl rfl hr (v := .pointer (some ⟨Bn28, 0, none⟩)) (by kernel_rfl) ?_; clear hr a; intro a hr
          replace H := bd1 H; obtain ⟨r255, e256, H⟩ := H
          replace h : Fit z (sepL (ob103 Bn28 S162 ca163 cc164 ca165 cc166 :: ro2 ca163 cc164 S162.cell :: ro96 ca165 cc166 S162.log :: ob34 Bn10 S152 ca153 cc154 ca155 cc156 :: ro2 ca153 cc154 S152.Held :: ro96 ca155 cc156 S152.Book :: ro2 car250 ccr251 r248 :: ob103 Bn19 S157 ca158 cc159 ca160 cc161 :: ro2 ca158 cc159 S157.cell :: ro96 ca160 cc161 S157.log :: ro2 car247 r245.length r245 :: ro96 car240 ccr241 r238 :: ro96 car237 r235.length r235 :: L)) _ := h.sel 13 [10, 11, 12, 0, 1, 2, 3, 4, 5, 6, 7, 8, 9] (by kernel_rfl) (by kernel_rfl)
          have hc := cells_Arena_Cells_ok (H := e256) (h := h)
          refine op_call ((wg hr rfl rfl rfl (b' := r252) (by kernel_rfl)).trans (by rw [show r252 = true from (c254)]; rfl)) rfl rfl hr (f := 21) (args := #[.pointer (some ⟨Bn28, 0, none⟩)]) (by kernel_rfl) hc ?_; clear hc h
          rintro _ w ⟨car257, rfl, h⟩; refine ⟨_, rfl, ?_⟩
          clear hr a; intro a hr
          refine op_val ((wg hr rfl rfl rfl (b' := r252) (by kernel_rfl)).trans (by rw [show r252 = true from (c254)]; rfl)) rfl rfl hr (v := .pointer (some ⟨Bn10, 0, none⟩)) (by kernel_rfl) ?_; clear hr a; intro a hr
          replace H := bd1 H; obtain ⟨r258, e259, H⟩ := H
          replace h : Fit z (sepL (ob34 Bn10 S152 ca153 cc154 ca155 cc156 :: ro2 ca153 cc154 S152.Held :: ro96 ca155 cc156 S152.Book :: ob103 Bn28 S162 ca163 cc164 ca165 cc166 :: ro2 ca163 cc164 S162.cell :: ro96 ca165 cc166 S162.log :: ro2 car257 r255.length r255 :: ro2 car250 ccr251 r248 :: ob103 Bn19 S157 ca158 cc159 ca160 cc161 :: ro2 ca158 cc159 S157.cell :: ro96 ca160 cc161 S157.log :: ro2 car247 r245.length r245 :: ro96 car240 ccr241 r238 :: ro96 car237 r235.length r235 :: L)) _ := h.sel 14 [4, 5, 6, 0, 1, 2, 3, 7, 8, 9, 10, 11, 12, 13] (by kernel_rfl) (by kernel_rfl)
          have hc := plunderref2_Arena_Cells_ok (H := e259) (h := h)
          refine op_call ((wg hr rfl rfl rfl (b' := r252) (by kernel_rfl)).trans (by rw [show r252 = true from (c254)]; rfl)) rfl rfl hr (f := 22) (args := #[.pointer (some ⟨Bn10, 0, none⟩)]) (by kernel_rfl) hc ?_; clear hc h
          rintro _ w ⟨car260, ccr261, rfl, h⟩; refine ⟨_, rfl, ?_⟩
          clear hr a; intro a hr
          replace H := bd1 H; obtain ⟨r262, e263, H⟩ := H
          have hc := plunderlaw8_sameNumbers_ok (va0 := car257) (vc0 := r255.length) (va1 := car260) (vc1 := ccr261) (hv0 := (RdRow.of_row encZ_i64_ok (h.pick 7) (fun h => (h.pick 7)))) (hv1 := (RdRow.of_row encZ_i64_ok (h.pick 3) (fun h => (h.pick 3)))) (H := e263) (h := h)
          refine op_call ((wg hr rfl rfl rfl (b' := r252) (by kernel_rfl)).trans (by rw [show r252 = true from (c254)]; rfl)) rfl rfl hr (f := 20) (args := #[.slice car257 r255.length r255.length, .slice car260 r258.length ccr261]) (by kernel_rfl) hc ?_; clear hc h
          rintro _ w ⟨rfl, h⟩; refine ⟨_, rfl, ?_⟩
          clear hr a; intro a hr
          refine op_val (wn rfl) rfl rfl hr (v := .bool r262) (rp_t (b := r252) rfl (by kernel_rfl) (c254) (by kernel_rfl)) ?_; clear hr a; intro a hr
          refine ov hr (.bool r262) (by kernel_rfl) ?_; clear hr a; intro a hr
          refine wpList_nil ?_
          refine then_normal ?_
          refine wp_ret ?_
          refine end_ret1 (v := .bool r262) rfl hr (by kernel_rfl) ?_
          replace h : Fit z (sepL (L)) _ := h.sel 15 [] (by kernel_rfl) (by kernel_rfl)
          replace H := ej1 H; subst H
          exact ⟨rfl, h⟩
        ·
          replace H := ifF c254 H
          refine op_off ((wg hr rfl rfl rfl (b' := r252) (by kernel_rfl)).trans (by rw [show r252 = false from (bF c254)]; rfl)) rfl rfl hr ?_; clear hr a; intro a hr
          refine op_off ((wg hr rfl rfl rfl (b' := r252) (by kernel_rfl)).trans (by rw [show r252 = false from (bF c254)]; rfl)) rfl rfl hr ?_; clear hr a; intro a hr
          refine op_off ((wg hr rfl rfl rfl (b' := r252) (by kernel_rfl)).trans (by rw [show r252 = false from (bF c254)]; rfl)) rfl rfl hr ?_; clear hr a; intro a hr
          refine op_off ((wg hr rfl rfl rfl (b' := r252) (by kernel_rfl)).trans (by rw [show r252 = false from (bF c254)]; rfl)) rfl rfl hr ?_; clear hr a; intro a hr
          refine op_off ((wg hr rfl rfl rfl (b' := r252) (by kernel_rfl)).trans (by rw [show r252 = false from (bF c254)]; rfl)) rfl rfl hr ?_; clear hr a; intro a hr
          refine op_val (wn rfl) rfl rfl hr (v := .bool false) (rp_f (b := r252) rfl (by kernel_rfl) (bF c254) (by kernel_rfl)) ?_; clear hr a; intro a hr
          refine ov hr (.bool false) (by kernel_rfl) ?_; clear hr a; intro a hr
          refine wpList_nil ?_
          refine then_normal ?_
          refine wp_ret ?_
          refine end_ret1 (v := .bool false) rfl hr (by kernel_rfl) ?_
          replace h : Fit z (sepL (L)) _ := h.sel 13 [] (by kernel_rfl) (by kernel_rfl)
          replace H := ej1 H; subst H
          exact ⟨rfl, h⟩
      ·
        replace H := ifF c244 H
        refine op_off ((wg hr rfl rfl rfl (b' := r242) (by kernel_rfl)).trans (by rw [show r242 = false from (bF c244)]; rfl)) rfl rfl hr ?_; clear hr a; intro a hr
        refine op_off ((wg hr rfl rfl rfl (b' := r242) (by kernel_rfl)).trans (by rw [show r242 = false from (bF c244)]; rfl)) rfl rfl hr ?_; clear hr a; intro a hr
        refine op_off ((wg hr rfl rfl rfl (b' := r242) (by kernel_rfl)).trans (by rw [show r242 = false from (bF c244)]; rfl)) rfl rfl hr ?_; clear hr a; intro a hr
        refine op_off ((wg hr rfl rfl rfl (b' := r242) (by kernel_rfl)).trans (by rw [show r242 = false from (bF c244)]; rfl)) rfl rfl hr ?_; clear hr a; intro a hr
        refine op_off ((wg hr rfl rfl rfl (b' := r242) (by kernel_rfl)).trans (by rw [show r242 = false from (bF c244)]; rfl)) rfl rfl hr ?_; clear hr a; intro a hr
        refine op_val (wn rfl) rfl rfl hr (v := .bool false) (rp_f (b := r242) rfl (by kernel_rfl) (bF c244) (by kernel_rfl)) ?_; clear hr a; intro a hr
        refine ov hr (.bool false) (by kernel_rfl) ?_; clear hr a; intro a hr
        refine op_off ((wg hr rfl rfl rfl (b' := false) (by kernel_rfl)).trans rfl) rfl rfl hr ?_; clear hr a; intro a hr
        refine op_off ((wg hr rfl rfl rfl (b' := false) (by kernel_rfl)).trans rfl) rfl rfl hr ?_; clear hr a; intro a hr
        refine op_off ((wg hr rfl rfl rfl (b' := false) (by kernel_rfl)).trans rfl) rfl rfl hr ?_; clear hr a; intro a hr
        refine op_off ((wg hr rfl rfl rfl (b' := false) (by kernel_rfl)).trans rfl) rfl rfl hr ?_; clear hr a; intro a hr
        refine op_off ((wg hr rfl rfl rfl (b' := false) (by kernel_rfl)).trans rfl) rfl rfl hr ?_; clear hr a; intro a hr
        refine ovs [257, 8] [.bool false, .bool false] hr ⟨rfl, rfl⟩ (by kernel_rfl) ?_; clear hr a; intro a hr
        refine wpList_nil ?_
        refine then_normal ?_
        refine wp_ret ?_
        refine end_ret1 (v := .bool false) rfl hr (by kernel_rfl) ?_
        replace h : Fit z (sepL (L)) _ := h.sel 11 [] (by kernel_rfl) (by kernel_rfl)
        replace H := ej1 H; subst H
        exact ⟨rfl, h⟩
    | none =>
      have hc := cells_New_ok1 (H := e26) (h := h)
      refine op_call (wn rfl) rfl rfl hr (f := 14) (args := #[.int .i64 (wi (r1 + r5))]) (by kernel_rfl) hc ?_; clear hc h
      rintro _ w ⟨rfl, h⟩; refine ⟨_, rfl, ?_⟩
      clear hr a; intro a hr
      refine ovs [49, 52, 53, 14, 15] [.tuple #[.pointer none, .int .i64 r25], .pointer none, .int .i64 r25, .pointer none, .int .i64 r25] hr ⟨rfl, rfl⟩ (by kernel_rfl) ?_; clear hr a; intro a hr
      refine wpList_nil ?_
      refine then_normal ?_
      refine wp_seq ?_
      refine wp_seq ?_
      refine wp_region_lit ?_
      refine ovs [54, 55, 56] [.int .i64 r16, .bool (r16 != (0 : Int)), .bool (r16 != (0 : Int))] hr ⟨rfl, rfl⟩ (by kernel_rfl) ?_; clear hr a; intro a hr
      by_cases c264 : r16 = (0 : Int)
      ·
        replace H := ifT c264 H
        refine op_val ((wg hr rfl rfl rfl (b' := (r16 != (0 : Int))) (by kernel_rfl)).trans (by rw [show (r16 != (0 : Int)) = false from (bne_eq_false_iff_eq.mpr c264)]; rfl)) rfl rfl hr (v := .int .i64 r25) (by kernel_rfl) ?_; clear hr a; intro a hr
        refine op_val ((wg hr rfl rfl rfl (b' := (r16 != (0 : Int))) (by kernel_rfl)).trans (by rw [show (r16 != (0 : Int)) = false from (bne_eq_false_iff_eq.mpr c264)]; rfl)) rfl rfl hr (v := .bool (r25 != (0 : Int))) (by kernel_rfl) ?_; clear hr a; intro a hr
        refine op_val (wn rfl) rfl rfl hr (v := .bool (r25 != (0 : Int))) (rp_f (b := (r16 != (0 : Int))) rfl (by kernel_rfl) (bne_eq_false_iff_eq.mpr c264) (by kernel_rfl)) ?_; clear hr a; intro a hr
        refine ov hr (.bool (r25 != (0 : Int))) (by kernel_rfl) ?_; clear hr a; intro a hr
        by_cases c265 : r25 = (0 : Int)
        ·
          replace H := ifT c265 H
          refine op_val ((wg hr rfl rfl rfl (b' := (r25 != (0 : Int))) (by kernel_rfl)).trans (by rw [show (r25 != (0 : Int)) = false from (bne_eq_false_iff_eq.mpr c265)]; rfl)) rfl rfl hr (v := .pointer (some ⟨Bn19, 0, none⟩)) (by kernel_rfl) ?_; clear hr a; intro a hr
          refine op_val ((wg hr rfl rfl rfl (b' := (r25 != (0 : Int))) (by kernel_rfl)).trans (by rw [show (r25 != (0 : Int)) = false from (bne_eq_false_iff_eq.mpr c265)]; rfl)) rfl rfl hr (v := .bool false) (by kernel_rfl) ?_; clear hr a; intro a hr
          refine op_val (wn rfl) rfl rfl hr (v := .bool false) (rp_f (b := (r25 != (0 : Int))) rfl (by kernel_rfl) (bne_eq_false_iff_eq.mpr c265) (by kernel_rfl)) ?_; clear hr a; intro a hr
          refine ov hr (.bool false) (by kernel_rfl) ?_; clear hr a; intro a hr
          refine op_val ((wg hr rfl rfl rfl (b' := false) (by kernel_rfl)).trans rfl) rfl rfl hr (v := .pointer none) (by kernel_rfl) ?_; clear hr a; intro a hr
          refine op_val ((wg hr rfl rfl rfl (b' := false) (by kernel_rfl)).trans rfl) rfl rfl hr (v := .bool true) (by kernel_rfl) ?_; clear hr a; intro a hr
          refine ov hr (.bool true) (by kernel_rfl) ?_; clear hr a; intro a hr
          refine wpList_nil ?_
          refine then_normal ?_
          refine cond_tt hr (b := true) rfl ?_
          refine wp_seq ?_
          refine wp_region_lit ?_
          refine ov hr (.bool false) (by kernel_rfl) ?_; clear hr a; intro a hr
          refine wpList_nil ?_
          refine then_normal ?_
          refine wp_ret ?_
          refine then_ret ?_
          refine end_ret1 (v := .bool false) rfl hr (by kernel_rfl) ?_
          replace h : Fit z (sepL (L)) _ := h.sel 6 [] (by kernel_rfl) (by kernel_rfl)
          replace H := ej1 H; subst H
          exact ⟨rfl, h⟩
        ·
          replace H := ifF c265 H
          refine op_off ((wg hr rfl rfl rfl (b' := (r25 != (0 : Int))) (by kernel_rfl)).trans (by rw [show (r25 != (0 : Int)) = true from (bne_iff_ne.mpr c265)]; rfl)) rfl rfl hr ?_; clear hr a; intro a hr
          refine op_off ((wg hr rfl rfl rfl (b' := (r25 != (0 : Int))) (by kernel_rfl)).trans (by rw [show (r25 != (0 : Int)) = true from (bne_iff_ne.mpr c265)]; rfl)) rfl rfl hr ?_; clear hr a; intro a hr
          refine op_val (wn rfl) rfl rfl hr (v := .bool true) (rp_t (b := (r25 != (0 : Int))) rfl (by kernel_rfl) (bne_iff_ne.mpr c265) (by kernel_rfl)) ?_; clear hr a; intro a hr
          refine ov hr (.bool true) (by kernel_rfl) ?_; clear hr a; intro a hr
          refine op_off ((wg hr rfl rfl rfl (b' := true) (by kernel_rfl)).trans rfl) rfl rfl hr ?_; clear hr a; intro a hr
          refine op_off ((wg hr rfl rfl rfl (b' := true) (by kernel_rfl)).trans rfl) rfl rfl hr ?_; clear hr a; intro a hr
          refine ov hr (.bool true) (by kernel_rfl) ?_; clear hr a; intro a hr
          refine wpList_nil ?_
          refine then_normal ?_
          refine cond_tt hr (b := true) rfl ?_
          refine wp_seq ?_
          refine wp_region_lit ?_
          refine ov hr (.bool false) (by kernel_rfl) ?_; clear hr a; intro a hr
          refine wpList_nil ?_
          refine then_normal ?_
          refine wp_ret ?_
          refine then_ret ?_
          refine end_ret1 (v := .bool false) rfl hr (by kernel_rfl) ?_
          replace h : Fit z (sepL (L)) _ := h.sel 6 [] (by kernel_rfl) (by kernel_rfl)
          replace H := ej1 H; subst H
          exact ⟨rfl, h⟩
      ·
        replace H := ifF c264 H
        refine op_off ((wg hr rfl rfl rfl (b' := (r16 != (0 : Int))) (by kernel_rfl)).trans (by rw [show (r16 != (0 : Int)) = true from (bne_iff_ne.mpr c264)]; rfl)) rfl rfl hr ?_; clear hr a; intro a hr
        refine op_off ((wg hr rfl rfl rfl (b' := (r16 != (0 : Int))) (by kernel_rfl)).trans (by rw [show (r16 != (0 : Int)) = true from (bne_iff_ne.mpr c264)]; rfl)) rfl rfl hr ?_; clear hr a; intro a hr
        refine op_val (wn rfl) rfl rfl hr (v := .bool true) (rp_t (b := (r16 != (0 : Int))) rfl (by kernel_rfl) (bne_iff_ne.mpr c264) (by kernel_rfl)) ?_; clear hr a; intro a hr
        refine ov hr (.bool true) (by kernel_rfl) ?_; clear hr a; intro a hr
        refine op_off ((wg hr rfl rfl rfl (b' := true) (by kernel_rfl)).trans rfl) rfl rfl hr ?_; clear hr a; intro a hr
        refine op_off ((wg hr rfl rfl rfl (b' := true) (by kernel_rfl)).trans rfl) rfl rfl hr ?_; clear hr a; intro a hr
        refine ovs [63, 64] [.bool true, .bool true] hr ⟨rfl, rfl⟩ (by kernel_rfl) ?_; clear hr a; intro a hr
        refine op_off ((wg hr rfl rfl rfl (b' := true) (by kernel_rfl)).trans rfl) rfl rfl hr ?_; clear hr a; intro a hr
        refine op_off ((wg hr rfl rfl rfl (b' := true) (by kernel_rfl)).trans rfl) rfl rfl hr ?_; clear hr a; intro a hr
        refine ov hr (.bool true) (by kernel_rfl) ?_; clear hr a; intro a hr
        refine wpList_nil ?_
        refine then_normal ?_
        refine cond_tt hr (b := true) rfl ?_
        refine wp_seq ?_
        refine wp_region_lit ?_
        refine ov hr (.bool false) (by kernel_rfl) ?_; clear hr a; intro a hr
        refine wpList_nil ?_
        refine then_normal ?_
        refine wp_ret ?_
        refine then_ret ?_
        refine end_ret1 (v := .bool false) rfl hr (by kernel_rfl) ?_
        replace h : Fit z (sepL (L)) _ := h.sel 6 [] (by kernel_rfl) (by kernel_rfl)
        replace H := ej1 H; subst H
        exact ⟨rfl, h⟩
  | none =>
    have hc := cells_New_ok1 (H := e17) (h := h)
    refine op_call (wn rfl) rfl rfl hr (f := 14) (args := #[.int .i64 (wi (r1 + r5))]) (by kernel_rfl) hc ?_; clear hc h
    rintro _ w ⟨rfl, h⟩; refine ⟨_, rfl, ?_⟩
    clear hr a; intro a hr
    refine ovs [44, 47, 48, 12, 13] [.tuple #[.pointer none, .int .i64 r16], .pointer none, .int .i64 r16, .pointer none, .int .i64 r16] hr ⟨rfl, rfl⟩ (by kernel_rfl) ?_; clear hr a; intro a hr
    refine wpList_nil ?_
    refine then_normal ?_
    refine wp_seq ?_
    refine wp_region_lit ?_
    replace H := bd2 H; obtain ⟨r266, r267, e268, H⟩ := H
    refine ov hr (.int .i64 (wi (r1 + r5))) (by kernel_rfl) ?_; clear hr a; intro a hr
    cases r266 with
    | some S269 =>
      have hc := cells_New_ok0 (H := e268) (h := h)
      refine op_call (wn rfl) rfl rfl hr (f := 14) (args := #[.int .i64 (wi (r1 + r5))]) (by kernel_rfl) hc ?_; clear hc h
      rintro _ w ⟨Bn270, car271, ccr272, car273, ccr274, rfl, h⟩; refine ⟨_, rfl, ?_⟩
      clear hr a; intro a hr
      refine ovs [49, 52, 53, 14, 15] [.tuple #[.pointer (some ⟨Bn270, 0, none⟩), .int .i64 r267], .pointer (some ⟨Bn270, 0, none⟩), .int .i64 r267, .pointer (some ⟨Bn270, 0, none⟩), .int .i64 r267] hr ⟨rfl, rfl⟩ (by kernel_rfl) ?_; clear hr a; intro a hr
      refine wpList_nil ?_
      refine then_normal ?_
      refine wp_seq ?_
      refine wp_seq ?_
      refine wp_region_lit ?_
      refine ovs [54, 55, 56] [.int .i64 r16, .bool (r16 != (0 : Int)), .bool (r16 != (0 : Int))] hr ⟨rfl, rfl⟩ (by kernel_rfl) ?_; clear hr a; intro a hr
      by_cases c275 : r16 = (0 : Int)
      ·
        replace H := ifT c275 H
        refine op_val ((wg hr rfl rfl rfl (b' := (r16 != (0 : Int))) (by kernel_rfl)).trans (by rw [show (r16 != (0 : Int)) = false from (bne_eq_false_iff_eq.mpr c275)]; rfl)) rfl rfl hr (v := .int .i64 r267) (by kernel_rfl) ?_; clear hr a; intro a hr
        refine op_val ((wg hr rfl rfl rfl (b' := (r16 != (0 : Int))) (by kernel_rfl)).trans (by rw [show (r16 != (0 : Int)) = false from (bne_eq_false_iff_eq.mpr c275)]; rfl)) rfl rfl hr (v := .bool (r267 != (0 : Int))) (by kernel_rfl) ?_; clear hr a; intro a hr
        refine op_val (wn rfl) rfl rfl hr (v := .bool (r267 != (0 : Int))) (rp_f (b := (r16 != (0 : Int))) rfl (by kernel_rfl) (bne_eq_false_iff_eq.mpr c275) (by kernel_rfl)) ?_; clear hr a; intro a hr
        refine ov hr (.bool (r267 != (0 : Int))) (by kernel_rfl) ?_; clear hr a; intro a hr
        by_cases c276 : r267 = (0 : Int)
        ·
          replace H := ifT c276 H
          refine op_val ((wg hr rfl rfl rfl (b' := (r267 != (0 : Int))) (by kernel_rfl)).trans (by rw [show (r267 != (0 : Int)) = false from (bne_eq_false_iff_eq.mpr c276)]; rfl)) rfl rfl hr (v := .pointer none) (by kernel_rfl) ?_; clear hr a; intro a hr
          refine op_val ((wg hr rfl rfl rfl (b' := (r267 != (0 : Int))) (by kernel_rfl)).trans (by rw [show (r267 != (0 : Int)) = false from (bne_eq_false_iff_eq.mpr c276)]; rfl)) rfl rfl hr (v := .bool true) (by kernel_rfl) ?_; clear hr a; intro a hr
          refine op_val (wn rfl) rfl rfl hr (v := .bool true) (rp_f (b := (r267 != (0 : Int))) rfl (by kernel_rfl) (bne_eq_false_iff_eq.mpr c276) (by kernel_rfl)) ?_; clear hr a; intro a hr
          refine ov hr (.bool true) (by kernel_rfl) ?_; clear hr a; intro a hr
          refine op_off ((wg hr rfl rfl rfl (b' := true) (by kernel_rfl)).trans rfl) rfl rfl hr ?_; clear hr a; intro a hr
          refine op_off ((wg hr rfl rfl rfl (b' := true) (by kernel_rfl)).trans rfl) rfl rfl hr ?_; clear hr a; intro a hr
          refine ov hr (.bool true) (by kernel_rfl) ?_; clear hr a; intro a hr
          refine wpList_nil ?_
          refine then_normal ?_
          refine cond_tt hr (b := true) rfl ?_
          refine wp_seq ?_
          refine wp_region_lit ?_
          refine ov hr (.bool false) (by kernel_rfl) ?_; clear hr a; intro a hr
          refine wpList_nil ?_
          refine then_normal ?_
          refine wp_ret ?_
          refine then_ret ?_
          refine end_ret1 (v := .bool false) rfl hr (by kernel_rfl) ?_
          replace h : Fit z (sepL (L)) _ := h.sel 6 [] (by kernel_rfl) (by kernel_rfl)
          replace H := ej1 H; subst H
          exact ⟨rfl, h⟩
        ·
          replace H := ifF c276 H
          refine op_off ((wg hr rfl rfl rfl (b' := (r267 != (0 : Int))) (by kernel_rfl)).trans (by rw [show (r267 != (0 : Int)) = true from (bne_iff_ne.mpr c276)]; rfl)) rfl rfl hr ?_; clear hr a; intro a hr
          refine op_off ((wg hr rfl rfl rfl (b' := (r267 != (0 : Int))) (by kernel_rfl)).trans (by rw [show (r267 != (0 : Int)) = true from (bne_iff_ne.mpr c276)]; rfl)) rfl rfl hr ?_; clear hr a; intro a hr
          refine op_val (wn rfl) rfl rfl hr (v := .bool true) (rp_t (b := (r267 != (0 : Int))) rfl (by kernel_rfl) (bne_iff_ne.mpr c276) (by kernel_rfl)) ?_; clear hr a; intro a hr
          refine ov hr (.bool true) (by kernel_rfl) ?_; clear hr a; intro a hr
          refine op_off ((wg hr rfl rfl rfl (b' := true) (by kernel_rfl)).trans rfl) rfl rfl hr ?_; clear hr a; intro a hr
          refine op_off ((wg hr rfl rfl rfl (b' := true) (by kernel_rfl)).trans rfl) rfl rfl hr ?_; clear hr a; intro a hr
          refine ov hr (.bool true) (by kernel_rfl) ?_; clear hr a; intro a hr
          refine wpList_nil ?_
          refine then_normal ?_
          refine cond_tt hr (b := true) rfl ?_
          refine wp_seq ?_
          refine wp_region_lit ?_
          refine ov hr (.bool false) (by kernel_rfl) ?_; clear hr a; intro a hr
          refine wpList_nil ?_
          refine then_normal ?_
          refine wp_ret ?_
          refine then_ret ?_
          refine end_ret1 (v := .bool false) rfl hr (by kernel_rfl) ?_
          replace h : Fit z (sepL (L)) _ := h.sel 6 [] (by kernel_rfl) (by kernel_rfl)
          replace H := ej1 H; subst H
          exact ⟨rfl, h⟩
      ·
        replace H := ifF c275 H
        refine op_off ((wg hr rfl rfl rfl (b' := (r16 != (0 : Int))) (by kernel_rfl)).trans (by rw [show (r16 != (0 : Int)) = true from (bne_iff_ne.mpr c275)]; rfl)) rfl rfl hr ?_; clear hr a; intro a hr
        refine op_off ((wg hr rfl rfl rfl (b' := (r16 != (0 : Int))) (by kernel_rfl)).trans (by rw [show (r16 != (0 : Int)) = true from (bne_iff_ne.mpr c275)]; rfl)) rfl rfl hr ?_; clear hr a; intro a hr
        refine op_val (wn rfl) rfl rfl hr (v := .bool true) (rp_t (b := (r16 != (0 : Int))) rfl (by kernel_rfl) (bne_iff_ne.mpr c275) (by kernel_rfl)) ?_; clear hr a; intro a hr
        refine ov hr (.bool true) (by kernel_rfl) ?_; clear hr a; intro a hr
        refine op_off ((wg hr rfl rfl rfl (b' := true) (by kernel_rfl)).trans rfl) rfl rfl hr ?_; clear hr a; intro a hr
        refine op_off ((wg hr rfl rfl rfl (b' := true) (by kernel_rfl)).trans rfl) rfl rfl hr ?_; clear hr a; intro a hr
        refine ovs [63, 64] [.bool true, .bool true] hr ⟨rfl, rfl⟩ (by kernel_rfl) ?_; clear hr a; intro a hr
        refine op_off ((wg hr rfl rfl rfl (b' := true) (by kernel_rfl)).trans rfl) rfl rfl hr ?_; clear hr a; intro a hr
        refine op_off ((wg hr rfl rfl rfl (b' := true) (by kernel_rfl)).trans rfl) rfl rfl hr ?_; clear hr a; intro a hr
        refine ov hr (.bool true) (by kernel_rfl) ?_; clear hr a; intro a hr
        refine wpList_nil ?_
        refine then_normal ?_
        refine cond_tt hr (b := true) rfl ?_
        refine wp_seq ?_
        refine wp_region_lit ?_
        refine ov hr (.bool false) (by kernel_rfl) ?_; clear hr a; intro a hr
        refine wpList_nil ?_
        refine then_normal ?_
        refine wp_ret ?_
        refine then_ret ?_
        refine end_ret1 (v := .bool false) rfl hr (by kernel_rfl) ?_
        replace h : Fit z (sepL (L)) _ := h.sel 6 [] (by kernel_rfl) (by kernel_rfl)
        replace H := ej1 H; subst H
        exact ⟨rfl, h⟩
    | none =>
      have hc := cells_New_ok1 (H := e268) (h := h)
      refine op_call (wn rfl) rfl rfl hr (f := 14) (args := #[.int .i64 (wi (r1 + r5))]) (by kernel_rfl) hc ?_; clear hc h
      rintro _ w ⟨rfl, h⟩; refine ⟨_, rfl, ?_⟩
      clear hr a; intro a hr
      refine ovs [49, 52, 53, 14, 15] [.tuple #[.pointer none, .int .i64 r267], .pointer none, .int .i64 r267, .pointer none, .int .i64 r267] hr ⟨rfl, rfl⟩ (by kernel_rfl) ?_; clear hr a; intro a hr
      refine wpList_nil ?_
      refine then_normal ?_
      refine wp_seq ?_
      refine wp_seq ?_
      refine wp_region_lit ?_
      refine ovs [54, 55, 56] [.int .i64 r16, .bool (r16 != (0 : Int)), .bool (r16 != (0 : Int))] hr ⟨rfl, rfl⟩ (by kernel_rfl) ?_; clear hr a; intro a hr
      by_cases c277 : r16 = (0 : Int)
      ·
        replace H := ifT c277 H
        refine op_val ((wg hr rfl rfl rfl (b' := (r16 != (0 : Int))) (by kernel_rfl)).trans (by rw [show (r16 != (0 : Int)) = false from (bne_eq_false_iff_eq.mpr c277)]; rfl)) rfl rfl hr (v := .int .i64 r267) (by kernel_rfl) ?_; clear hr a; intro a hr
        refine op_val ((wg hr rfl rfl rfl (b' := (r16 != (0 : Int))) (by kernel_rfl)).trans (by rw [show (r16 != (0 : Int)) = false from (bne_eq_false_iff_eq.mpr c277)]; rfl)) rfl rfl hr (v := .bool (r267 != (0 : Int))) (by kernel_rfl) ?_; clear hr a; intro a hr
        refine op_val (wn rfl) rfl rfl hr (v := .bool (r267 != (0 : Int))) (rp_f (b := (r16 != (0 : Int))) rfl (by kernel_rfl) (bne_eq_false_iff_eq.mpr c277) (by kernel_rfl)) ?_; clear hr a; intro a hr
        refine ov hr (.bool (r267 != (0 : Int))) (by kernel_rfl) ?_; clear hr a; intro a hr
        by_cases c278 : r267 = (0 : Int)
        ·
          replace H := ifT c278 H
          refine op_val ((wg hr rfl rfl rfl (b' := (r267 != (0 : Int))) (by kernel_rfl)).trans (by rw [show (r267 != (0 : Int)) = false from (bne_eq_false_iff_eq.mpr c278)]; rfl)) rfl rfl hr (v := .pointer none) (by kernel_rfl) ?_; clear hr a; intro a hr
          refine op_val ((wg hr rfl rfl rfl (b' := (r267 != (0 : Int))) (by kernel_rfl)).trans (by rw [show (r267 != (0 : Int)) = false from (bne_eq_false_iff_eq.mpr c278)]; rfl)) rfl rfl hr (v := .bool true) (by kernel_rfl) ?_; clear hr a; intro a hr
          refine op_val (wn rfl) rfl rfl hr (v := .bool true) (rp_f (b := (r267 != (0 : Int))) rfl (by kernel_rfl) (bne_eq_false_iff_eq.mpr c278) (by kernel_rfl)) ?_; clear hr a; intro a hr
          refine ov hr (.bool true) (by kernel_rfl) ?_; clear hr a; intro a hr
          refine op_off ((wg hr rfl rfl rfl (b' := true) (by kernel_rfl)).trans rfl) rfl rfl hr ?_; clear hr a; intro a hr
          refine op_off ((wg hr rfl rfl rfl (b' := true) (by kernel_rfl)).trans rfl) rfl rfl hr ?_; clear hr a; intro a hr
          refine ov hr (.bool true) (by kernel_rfl) ?_; clear hr a; intro a hr
          refine wpList_nil ?_
          refine then_normal ?_
          refine cond_tt hr (b := true) rfl ?_
          refine wp_seq ?_
          refine wp_region_lit ?_
          refine ov hr (.bool false) (by kernel_rfl) ?_; clear hr a; intro a hr
          refine wpList_nil ?_
          refine then_normal ?_
          refine wp_ret ?_
          refine then_ret ?_
          refine end_ret1 (v := .bool false) rfl hr (by kernel_rfl) ?_
          replace h : Fit z (sepL (L)) _ := h.sel 3 [] (by kernel_rfl) (by kernel_rfl)
          replace H := ej1 H; subst H
          exact ⟨rfl, h⟩
        ·
          replace H := ifF c278 H
          refine op_off ((wg hr rfl rfl rfl (b' := (r267 != (0 : Int))) (by kernel_rfl)).trans (by rw [show (r267 != (0 : Int)) = true from (bne_iff_ne.mpr c278)]; rfl)) rfl rfl hr ?_; clear hr a; intro a hr
          refine op_off ((wg hr rfl rfl rfl (b' := (r267 != (0 : Int))) (by kernel_rfl)).trans (by rw [show (r267 != (0 : Int)) = true from (bne_iff_ne.mpr c278)]; rfl)) rfl rfl hr ?_; clear hr a; intro a hr
          refine op_val (wn rfl) rfl rfl hr (v := .bool true) (rp_t (b := (r267 != (0 : Int))) rfl (by kernel_rfl) (bne_iff_ne.mpr c278) (by kernel_rfl)) ?_; clear hr a; intro a hr
          refine ov hr (.bool true) (by kernel_rfl) ?_; clear hr a; intro a hr
          refine op_off ((wg hr rfl rfl rfl (b' := true) (by kernel_rfl)).trans rfl) rfl rfl hr ?_; clear hr a; intro a hr
          refine op_off ((wg hr rfl rfl rfl (b' := true) (by kernel_rfl)).trans rfl) rfl rfl hr ?_; clear hr a; intro a hr
          refine ov hr (.bool true) (by kernel_rfl) ?_; clear hr a; intro a hr
          refine wpList_nil ?_
          refine then_normal ?_
          refine cond_tt hr (b := true) rfl ?_
          refine wp_seq ?_
          refine wp_region_lit ?_
          refine ov hr (.bool false) (by kernel_rfl) ?_; clear hr a; intro a hr
          refine wpList_nil ?_
          refine then_normal ?_
          refine wp_ret ?_
          refine then_ret ?_
          refine end_ret1 (v := .bool false) rfl hr (by kernel_rfl) ?_
          replace h : Fit z (sepL (L)) _ := h.sel 3 [] (by kernel_rfl) (by kernel_rfl)
          replace H := ej1 H; subst H
          exact ⟨rfl, h⟩
      ·
        replace H := ifF c277 H
        refine op_off ((wg hr rfl rfl rfl (b' := (r16 != (0 : Int))) (by kernel_rfl)).trans (by rw [show (r16 != (0 : Int)) = true from (bne_iff_ne.mpr c277)]; rfl)) rfl rfl hr ?_; clear hr a; intro a hr
        refine op_off ((wg hr rfl rfl rfl (b' := (r16 != (0 : Int))) (by kernel_rfl)).trans (by rw [show (r16 != (0 : Int)) = true from (bne_iff_ne.mpr c277)]; rfl)) rfl rfl hr ?_; clear hr a; intro a hr
        refine op_val (wn rfl) rfl rfl hr (v := .bool true) (rp_t (b := (r16 != (0 : Int))) rfl (by kernel_rfl) (bne_iff_ne.mpr c277) (by kernel_rfl)) ?_; clear hr a; intro a hr
        refine ov hr (.bool true) (by kernel_rfl) ?_; clear hr a; intro a hr
        refine op_off ((wg hr rfl rfl rfl (b' := true) (by kernel_rfl)).trans rfl) rfl rfl hr ?_; clear hr a; intro a hr
        refine op_off ((wg hr rfl rfl rfl (b' := true) (by kernel_rfl)).trans rfl) rfl rfl hr ?_; clear hr a; intro a hr
        refine ovs [63, 64] [.bool true, .bool true] hr ⟨rfl, rfl⟩ (by kernel_rfl) ?_; clear hr a; intro a hr
        refine op_off ((wg hr rfl rfl rfl (b' := true) (by kernel_rfl)).trans rfl) rfl rfl hr ?_; clear hr a; intro a hr
        refine op_off ((wg hr rfl rfl rfl (b' := true) (by kernel_rfl)).trans rfl) rfl rfl hr ?_; clear hr a; intro a hr
        refine ov hr (.bool true) (by kernel_rfl) ?_; clear hr a; intro a hr
        refine wpList_nil ?_
        refine then_normal ?_
        refine cond_tt hr (b := true) rfl ?_
        refine wp_seq ?_
        refine wp_region_lit ?_
        refine ov hr (.bool false) (by kernel_rfl) ?_; clear hr a; intro a hr
        refine wpList_nil ?_
        refine then_normal ?_
        refine wp_ret ?_
        refine then_ret ?_
        refine end_ret1 (v := .bool false) rfl hr (by kernel_rfl) ?_
        replace h : Fit z (sepL (L)) _ := h.sel 3 [] (by kernel_rfl) (by kernel_rfl)
        replace H := ej1 H; subst H
        exact ⟨rfl, h⟩


end Go.Proofs.Ytnghahgfcaolbaa.Mo
