/- what the functions compute, as plain Lean functions, and that they do -/
import Derived.Test.YtnghahgfcaolbaaFy2
namespace Go.Proofs.Ytnghahgfcaolbaa.Mo
open Go Go.RowKit Go.Proofs.Ytnghahgfcaolbaa.SL Go.Proofs.Ytnghahgfcaolbaa.GX
set_option linter.unusedVariables false
set_option linter.unusedSimpArgs false

set_option maxRecDepth 100000 in
set_option maxHeartbeats 4000000 in
theorem frames_join_step_ok {z w : World} {L : List HProp} {p0 : T_frames_join} {p0_arena : T_cells_Arena} {p0_rounds : List Int} {p1 : Int} {B0 : Nat} {B0_arena : Nat} {ca1 : Option Addr} {cc2 : Nat} {ca3 : Option Addr} {cc4 : Nat} {va0_rounds : Option Addr} {vc0_rounds : Nat} {ca5 : Option Addr} {cc6 : Nat} {ca7 : Option Addr} {cc8 : Nat} {ca9 : Option Addr} {cc10 : Nat} {ca11 : Option Addr} {cc12 : Nat} {ca13 : Option Addr} {cc14 : Nat} {q0 : T_frames_join} {q0_arena : T_cells_Arena} (H : frames_join_step p0 p0_arena p0_rounds p1 = some (q0, q0_arena)) (h : Fit z (sepL (ob133 B0 p0 (pA B0_arena 0) (.slice va0_rounds p0_rounds.length vc0_rounds) ca5 cc6 ca7 cc8 ca9 cc10 ca11 cc12 ca13 cc14 :: rn135 ca5 cc6 p0.live :: ro3 ca7 cc8 p0.run_Holders :: rn31 ca9 cc10 p0.run_Reads :: ro2 ca11 cc12 p0.run_Marks :: ro96 ca13 cc14 p0.run_Log :: ob103 B0_arena p0_arena ca1 cc2 ca3 cc4 :: ro2 ca1 cc2 p0_arena.cell :: ro96 ca3 cc4 p0_arena.log :: L)) w) (hv0_rounds : RdRow L 1 encZ_i64 va0_rounds p0_rounds) :
    Calls Try.prog 75 #[pA B0 0, vI p1] w fun e w => ∃ caq0_1 : Option Addr, ∃ ccq0_2 : Nat, ∃ caq0_3 : Option Addr, ∃ ccq0_4 : Nat, ∃ caq0_5 : Option Addr, ∃ ccq0_6 : Nat, ∃ caq0_7 : Option Addr, ∃ ccq0_8 : Nat, ∃ caq0_9 : Option Addr, ∃ ccq0_10 : Nat, ∃ caq0_arena_1 : Option Addr, ∃ ccq0_arena_2 : Nat, ∃ caq0_arena_3 : Option Addr, ∃ ccq0_arena_4 : Nat, e = .returned (.tuple #[]) ∧ Fit z (sepL (ob133 B0 q0 (pA B0_arena 0) (.slice va0_rounds p0_rounds.length vc0_rounds) caq0_1 ccq0_2 caq0_3 ccq0_4 caq0_5 ccq0_6 caq0_7 ccq0_8 caq0_9 ccq0_10 :: rn135 caq0_1 ccq0_2 q0.live :: ro3 caq0_3 ccq0_4 q0.run_Holders :: rn31 caq0_5 ccq0_6 q0.run_Reads :: ro2 caq0_7 ccq0_8 q0.run_Marks :: ro96 caq0_9 ccq0_10 q0.run_Log :: ob103 B0_arena q0_arena caq0_arena_1 ccq0_arena_2 caq0_arena_3 ccq0_arena_4 :: ro2 caq0_arena_1 ccq0_arena_2 q0_arena.cell :: ro96 caq0_arena_3 ccq0_arena_4 q0_arena.log :: L)) w := by
 unfold frames_join_step at H
 refine enter Try.func75 rfl 86 rfl rfl [(0, pA B0 0), (1, vI p1)] ⟨rfl, rfl, trivial⟩ ?_
 intro j a hr
 refine sr ?_
 refine oo [7, 8, 9] [pA B0 0, pA B0 0, pA B0 5] hr fun a hr => ?_
 refine ld (wn rfl) hr (.slice ca5 p0.live.length cc6) (h.cell 5 rfl) fun a hr => ?_
 obtain ⟨c15, H⟩ := gd H
 refine o1 hr (vI p1) fun a hr => ?_
 refine opv (wn rfl) hr (pA (blk ca5) (p1.toNat * 1)) (ri_rowN (k := .i64) (E := 135) rfl (by kernel_rfl) (by kernel_rfl) (by kernel_rfl) (by kernel_rfl) (h.pick 1) c15) fun a hr => ?_
 obtain ⟨cs18, h⟩ := (h.pick 1).rowN_take (at_ok c15)
 obtain ⟨b16, e17, h⟩ := own_ptr135_op (h.pick 1); subst e17
 replace h : Fit z (sepL (ob137 b16 (at_ p0.live p1.toNat) :: rowH 135 1 own_ptr135 (.slice ca5 p0.live.length cc6) p0.live p1.toNat [pA b16 0] :: ob133 B0 p0 (pA B0_arena 0) (.slice va0_rounds p0_rounds.length vc0_rounds) ca5 cc6 ca7 cc8 ca9 cc10 ca11 cc12 ca13 cc14 :: ro3 ca7 cc8 p0.run_Holders :: rn31 ca9 cc10 p0.run_Reads :: ro2 ca11 cc12 p0.run_Marks :: ro96 ca13 cc14 p0.run_Log :: ob103 B0_arena p0_arena ca1 cc2 ca3 cc4 :: ro2 ca1 cc2 p0_arena.cell :: ro96 ca3 cc4 p0_arena.log :: L)) _ := h
 refine ld (wn rfl) hr (pA b16 0) ((h.pick 1).rowH_cell (by decide) (f := 0) rfl) fun a hr => ?_
 refine o1 hr (pA b16 0) fun a hr => ?_
 refine ln ?_
 obtain ⟨o21, H, hK20⟩ := kd1 H
 refine cut_rule (β := Unit) (fun _ a w => ∃ S19 : T_frames_actor, S19 = o21 ∧ ∃ j, Rep 86 (lk [(0, pA B0 0), (1, vI p1), (4, pA b16 0)] j) a ∧ Fit z (sepL (ob133 B0 p0 (pA B0_arena 0) (.slice va0_rounds p0_rounds.length vc0_rounds) ca5 cc6 ca7 cc8 ca9 cc10 ca11 cc12 ca13 cc14 :: ob103 B0_arena p0_arena ca1 cc2 ca3 cc4 :: ro2 ca1 cc2 p0_arena.cell :: ro96 ca3 cc4 p0_arena.log :: rowH 135 1 own_ptr135 (.slice ca5 p0.live.length cc6) p0.live p1.toNat [pA b16 0] :: ob137 b16 S19 :: ro3 ca7 cc8 p0.run_Holders :: rn31 ca9 cc10 p0.run_Reads :: ro2 ca11 cc12 p0.run_Marks :: ro96 ca13 cc14 p0.run_Log :: L)) w) ?_ ?_
 ·
  refine sr ?_
  refine oo [14, 15, 16] [pA b16 0, pA b16 0, pA b16 11] hr fun a hr => ?_
  refine ld (wn rfl) hr (vB (at_ p0.live p1.toNat).inOp) (h.cell 11 rfl) fun a hr => ?_
  refine o1 hr (vB (!(at_ p0.live p1.toNat).inOp)) fun a hr => ?_
  refine ln ?_
  by_cases c22 : (at_ p0.live p1.toNat).inOp = true
  ·
   replace H := ifT c22 H
   refine cond_ff hr (b := (!(at_ p0.live p1.toNat).inOp)) (by rw [show (at_ p0.live p1.toNat).inOp = true from (c22)]; rfl) ?_
   refine wp_skip ?_
   refine then_normal ?_
   replace hr := hr.fold2 [(0, pA B0 0), (1, vI p1), (4, pA b16 0)] (by kernel_rfl); obtain ⟨j, hr⟩ := hr
   replace h : Fit z (sepL (ob133 B0 p0 (pA B0_arena 0) (.slice va0_rounds p0_rounds.length vc0_rounds) ca5 cc6 ca7 cc8 ca9 cc10 ca11 cc12 ca13 cc14 :: ob103 B0_arena p0_arena ca1 cc2 ca3 cc4 :: ro2 ca1 cc2 p0_arena.cell :: ro96 ca3 cc4 p0_arena.log :: rowH 135 1 own_ptr135 (.slice ca5 p0.live.length cc6) p0.live p1.toNat [pA b16 0] :: ob137 b16 (at_ p0.live p1.toNat) :: ro3 ca7 cc8 p0.run_Holders :: rn31 ca9 cc10 p0.run_Reads :: ro2 ca11 cc12 p0.run_Marks :: ro96 ca13 cc14 p0.run_Log :: L)) _ := h.sel 10 [2, 7, 8, 9, 1, 0, 3, 4, 5, 6] (by kernel_rfl) (by kernel_rfl)
   exact ⟨(), (at_ p0.live p1.toNat), sinj H, j, hr, h⟩
  ·
   replace H := ifF c22 H
   refine cond_tt hr (b := (!(at_ p0.live p1.toNat).inOp)) (by rw [show (at_ p0.live p1.toNat).inOp = false from (bF c22)]; rfl) ?_
   refine sr ?_
   obtain ⟨r23, e24, H⟩ := bd1 H
   refine oo [19, 20, 21] [pA b16 0, pA B0 0, pA b16 0] hr fun a hr => ?_
   replace h : Fit z (sepL (ob133 B0 p0 (pA B0_arena 0) (.slice va0_rounds p0_rounds.length vc0_rounds) ca5 cc6 ca7 cc8 ca9 cc10 ca11 cc12 ca13 cc14 :: rowH 135 1 own_ptr135 (.slice ca5 p0.live.length cc6) p0.live p1.toNat [pA b16 0] :: ro3 ca7 cc8 p0.run_Holders :: rn31 ca9 cc10 p0.run_Reads :: ro2 ca11 cc12 p0.run_Marks :: ro96 ca13 cc14 p0.run_Log :: ob103 B0_arena p0_arena ca1 cc2 ca3 cc4 :: ro2 ca1 cc2 p0_arena.cell :: ro96 ca3 cc4 p0_arena.log :: ob137 b16 (at_ p0.live p1.toNat) :: L)) _ := h.sel 10 [2, 1, 3, 4, 5, 6, 7, 8, 9, 0] (by kernel_rfl) (by kernel_rfl)
   have hc := frames_join_begin_ok (va0_rounds := va0_rounds) (vc0_rounds := vc0_rounds) (hv0_rounds := (RdRow.up 0 hv0_rounds)) (H := e24) (h := h)
   refine cl (wn rfl) hr hc ?_; clear hc h
   rintro _ w ⟨rfl, h⟩; refine ⟨_, rfl, fun a hr => ?_⟩
   refine oo [23, 24] [pA b16 0, pA b16 2] hr fun a hr => ?_
   replace h : Fit z (sepL (ob137 b16 (at_ p0.live p1.toNat) :: ob133 B0 p0 (pA B0_arena 0) (.slice va0_rounds p0_rounds.length vc0_rounds) ca5 cc6 ca7 cc8 ca9 cc10 ca11 cc12 ca13 cc14 :: rowH 135 1 own_ptr135 (.slice ca5 p0.live.length cc6) p0.live p1.toNat [pA b16 0] :: ro3 ca7 cc8 p0.run_Holders :: rn31 ca9 cc10 p0.run_Reads :: ro2 ca11 cc12 p0.run_Marks :: ro96 ca13 cc14 p0.run_Log :: ob103 B0_arena p0_arena ca1 cc2 ca3 cc4 :: ro2 ca1 cc2 p0_arena.cell :: ro96 ca3 cc4 p0_arena.log :: L)) _ := h.sel 10 [9, 0, 1, 2, 3, 4, 5, 6, 7, 8] (by kernel_rfl) (by kernel_rfl)
   refine stos (wn rfl) hr h 2 (cl_T_frames_Op r23) (#[vI (at_ p0.live p1.toNat).number, vI (at_ p0.live p1.toNat).about, vI r23.head_t_Base, vI r23.head_t_Frames, vI r23.head_frame, vI r23.head_stands, vI r23.head_code, vI r23.head_v, vI r23.kind, vI r23.slot, vI r23.give, vB (at_ p0.live p1.toNat).inOp, vI (at_ p0.live p1.toNat).frame, vI (at_ p0.live p1.toNat).slot, vI (at_ p0.live p1.toNat).value, vI (at_ p0.live p1.toNat).at_, vB (at_ p0.live p1.toNat).child]) fun w h => ?_
   refine wpList_nil ?_
   replace h : Fit z (sepL (pts b16 (.cells #[vI (at_ p0.live p1.toNat).number, vI (at_ p0.live p1.toNat).about, vI r23.head_t_Base, vI r23.head_t_Frames, vI r23.head_frame, vI r23.head_stands, vI r23.head_code, vI r23.head_v, vI r23.kind, vI r23.slot, vI r23.give, vB (at_ p0.live p1.toNat).inOp, vI (at_ p0.live p1.toNat).frame, vI (at_ p0.live p1.toNat).slot, vI (at_ p0.live p1.toNat).value, vI (at_ p0.live p1.toNat).at_, vB (at_ p0.live p1.toNat).child] 137) :: ob133 B0 p0 (pA B0_arena 0) (.slice va0_rounds p0_rounds.length vc0_rounds) ca5 cc6 ca7 cc8 ca9 cc10 ca11 cc12 ca13 cc14 :: rowH 135 1 own_ptr135 (.slice ca5 p0.live.length cc6) p0.live p1.toNat [pA b16 0] :: ro3 ca7 cc8 p0.run_Holders :: rn31 ca9 cc10 p0.run_Reads :: ro2 ca11 cc12 p0.run_Marks :: ro96 ca13 cc14 p0.run_Log :: ob103 B0_arena p0_arena ca1 cc2 ca3 cc4 :: ro2 ca1 cc2 p0_arena.cell :: ro96 ca3 cc4 p0_arena.log :: L)) _ := h
   refine then_normal ?_
   refine wp_region_lit ?_
   refine oo [25, 26, 27] [pA b16 0, pA b16 0, pA b16 11] hr fun a hr => ?_
   refine sto (wn rfl) hr h 11 (vB true) fun w h => ?_
   refine wpList_nil ?_
   replace h : Fit z (sepL (pts b16 (.cells #[vI (at_ p0.live p1.toNat).number, vI (at_ p0.live p1.toNat).about, vI r23.head_t_Base, vI r23.head_t_Frames, vI r23.head_frame, vI r23.head_stands, vI r23.head_code, vI r23.head_v, vI r23.kind, vI r23.slot, vI r23.give, vB true, vI (at_ p0.live p1.toNat).frame, vI (at_ p0.live p1.toNat).slot, vI (at_ p0.live p1.toNat).value, vI (at_ p0.live p1.toNat).at_, vB (at_ p0.live p1.toNat).child] 137) :: ob133 B0 p0 (pA B0_arena 0) (.slice va0_rounds p0_rounds.length vc0_rounds) ca5 cc6 ca7 cc8 ca9 cc10 ca11 cc12 ca13 cc14 :: rowH 135 1 own_ptr135 (.slice ca5 p0.live.length cc6) p0.live p1.toNat [pA b16 0] :: ro3 ca7 cc8 p0.run_Holders :: rn31 ca9 cc10 p0.run_Reads :: ro2 ca11 cc12 p0.run_Marks :: ro96 ca13 cc14 p0.run_Log :: ob103 B0_arena p0_arena ca1 cc2 ca3 cc4 :: ro2 ca1 cc2 p0_arena.cell :: ro96 ca3 cc4 p0_arena.log :: L)) _ := h
   refine then_normal ?_
   replace hr := hr.fold2 [(0, pA B0 0), (1, vI p1), (4, pA b16 0)] (by kernel_rfl); obtain ⟨j, hr⟩ := hr
   replace h : Fit z (sepL (ob133 B0 p0 (pA B0_arena 0) (.slice va0_rounds p0_rounds.length vc0_rounds) ca5 cc6 ca7 cc8 ca9 cc10 ca11 cc12 ca13 cc14 :: ob103 B0_arena p0_arena ca1 cc2 ca3 cc4 :: ro2 ca1 cc2 p0_arena.cell :: ro96 ca3 cc4 p0_arena.log :: rowH 135 1 own_ptr135 (.slice ca5 p0.live.length cc6) p0.live p1.toNat [pA b16 0] :: ob137 b16 (⟨(at_ p0.live p1.toNat).number, (at_ p0.live p1.toNat).about, r23.head_t_Base, r23.head_t_Frames, r23.head_frame, r23.head_stands, r23.head_code, r23.head_v, r23.kind, r23.slot, r23.give, true, (at_ p0.live p1.toNat).frame, (at_ p0.live p1.toNat).slot, (at_ p0.live p1.toNat).value, (at_ p0.live p1.toNat).at_, (at_ p0.live p1.toNat).child⟩ : T_frames_actor) :: ro3 ca7 cc8 p0.run_Holders :: rn31 ca9 cc10 p0.run_Reads :: ro2 ca11 cc12 p0.run_Marks :: ro96 ca13 cc14 p0.run_Log :: L)) _ := h.sel 10 [1, 7, 8, 9, 2, 0, 3, 4, 5, 6] (by kernel_rfl) (by kernel_rfl)
   exact ⟨(), (⟨(at_ p0.live p1.toNat).number, (at_ p0.live p1.toNat).about, r23.head_t_Base, r23.head_t_Frames, r23.head_frame, r23.head_stands, r23.head_code, r23.head_v, r23.kind, r23.slot, r23.give, true, (at_ p0.live p1.toNat).frame, (at_ p0.live p1.toNat).slot, (at_ p0.live p1.toNat).value, (at_ p0.live p1.toNat).at_, (at_ p0.live p1.toNat).child⟩ : T_frames_actor), sinj H, j, hr, h⟩
 clear h hr a; rintro _ a w ⟨S19, rfl, j, hr, h⟩
 replace H := kk1 hK20
 refine wp_seq ?_
 obtain ⟨S25, e26, H⟩ := bd1 H
 refine reg_E (fun w => heldC w B0 0 ([pA B0_arena 0]) ∧ heldC w b16 0 ([vI S19.number]) ∧ True) [1, 2, 5, 6] h (by kernel_rfl) ?_; intro w h
 change wpAnyE _ _ _ _ _ _ 9 (Array.replicate 9 false) a w
 have hgo : ∀ w w', CellsGo w w' → (heldC w B0 0 ([pA B0_arena 0]) ∧ heldC w b16 0 ([vI S19.number]) ∧ True) → heldC w' B0 0 ([pA B0_arena 0]) ∧ heldC w' b16 0 ([vI S19.number]) ∧ True := fun w w' g hD => ⟨heldC_go _ _ _ _ _ g hD.1, heldC_go _ _ _ _ _ g hD.2.1, trivial⟩
 refine evs 8 0 rfl (wn rfl) hr (pA B0 0) fun a hr => ?_
 refine evDs hgo ⟨⟨h.cell 0 rfl, trivial⟩, ⟨(h.pick 5).cell 0 rfl, trivial⟩, trivial⟩ 7 1 rfl (wn rfl) hr (pA B0 0) fun a hr => ?_
 refine evDs hgo ⟨⟨h.cell 0 rfl, trivial⟩, ⟨(h.pick 5).cell 0 rfl, trivial⟩, trivial⟩ 6 2 rfl (wn rfl) hr (pA B0 0) fun a hr => ?_
 refine evs 5 4 rfl (wn rfl) hr (pA b16 0) fun a hr => ?_
 refine evDs hgo ⟨⟨h.cell 0 rfl, trivial⟩, ⟨(h.pick 5).cell 0 rfl, trivial⟩, trivial⟩ 4 5 rfl (wn rfl) hr (pA b16 0) fun a hr => ?_
 refine evDs hgo ⟨⟨h.cell 0 rfl, trivial⟩, ⟨(h.pick 5).cell 0 rfl, trivial⟩, trivial⟩ 3 6 rfl (wn rfl) hr (pA b16 0) fun a hr => ?_
 refine el [1, 2, 5, 6] (b := B0) (off := 0) (cs := [pA B0_arena 0]) (fun _ hk => ⟨hk, fun w hD => hD.1⟩) 2 3 rfl (by kernel_rfl) (wn rfl) hr (pA B0_arena 0) ⟨h.cell 0 rfl, trivial⟩ (fun w hc => rl rfl (by kernel_rfl) (by kernel_rfl) hc.1) fun a hr => ?_
 refine el [1, 2, 5, 6] (b := b16) (off := 0) (cs := [vI S19.number]) (fun _ hk => ⟨hk, fun w hD => hD.2.1⟩) 1 7 rfl (by kernel_rfl) (wn rfl) hr (vI S19.number) ⟨(h.pick 5).cell 0 rfl, trivial⟩ (fun w hc => rl rfl (by kernel_rfl) (by kernel_rfl) hc.1) fun a hr => ?_
 refine e_one (fuel := 0) (i := 8) (by kernel_rfl) rfl ?_
 replace h : Fit z (sepL (ob103 B0_arena p0_arena ca1 cc2 ca3 cc4 :: ro2 ca1 cc2 p0_arena.cell :: ro96 ca3 cc4 p0_arena.log :: ob133 B0 p0 (pA B0_arena 0) (.slice va0_rounds p0_rounds.length vc0_rounds) ca5 cc6 ca7 cc8 ca9 cc10 ca11 cc12 ca13 cc14 :: rowH 135 1 own_ptr135 (.slice ca5 p0.live.length cc6) p0.live p1.toNat [pA b16 0] :: ob137 b16 S19 :: ro3 ca7 cc8 p0.run_Holders :: rn31 ca9 cc10 p0.run_Reads :: ro2 ca11 cc12 p0.run_Marks :: ro96 ca13 cc14 p0.run_Log :: L)) _ := h.sel 10 [1, 2, 3, 0, 4, 5, 6, 7, 8, 9] (by kernel_rfl) (by kernel_rfl)
 have hc := cells_Arena_Who_ok (H := e26) (h := h)
 refine cl (wn rfl) hr hc ?_; clear hc h
 rintro _ w ⟨caq27, ccq28, caq29, ccq30, rfl, h⟩; refine ⟨_, rfl, fun a hr => ?_⟩
 refine wpList_nil ?_; refine then_normal ?_
 refine ⟨fun hE => absurd hE (by decide), ?_⟩
 refine e_end (by kernel_rfl) ?_
 refine then_normal ?_
 refine wp_seq ?_
 obtain ⟨r31, S32, e33, H⟩ := bd2 H
 refine reg_E (fun w => heldC w B0 0 ([pA B0_arena 0]) ∧ heldC w b16 2 ([vI S19.op_head_t_Base, vI S19.op_head_t_Frames, vI S19.op_head_frame, vI S19.op_head_stands, vI S19.op_head_code, vI S19.op_head_v, vI S19.op_kind, vI S19.op_slot, vI S19.op_give]) ∧ True) [2, 3, 5, 7, 8] h (by kernel_rfl) ?_; intro w h
 change wpAnyE _ _ _ _ _ _ 14 (Array.replicate 14 false) a w
 have hgo : ∀ w w', CellsGo w w' → (heldC w B0 0 ([pA B0_arena 0]) ∧ heldC w b16 2 ([vI S19.op_head_t_Base, vI S19.op_head_t_Frames, vI S19.op_head_frame, vI S19.op_head_stands, vI S19.op_head_code, vI S19.op_head_v, vI S19.op_kind, vI S19.op_slot, vI S19.op_give]) ∧ True) → heldC w' B0 0 ([pA B0_arena 0]) ∧ heldC w' b16 2 ([vI S19.op_head_t_Base, vI S19.op_head_t_Frames, vI S19.op_head_frame, vI S19.op_head_stands, vI S19.op_head_code, vI S19.op_head_v, vI S19.op_kind, vI S19.op_slot, vI S19.op_give]) ∧ True := fun w w' g hD => ⟨heldC_go _ _ _ _ _ g hD.1, heldC_go _ _ _ _ _ g hD.2.1, trivial⟩
 refine evs 13 0 rfl (wn rfl) hr (pA b16 0) fun a hr => ?_
 refine evs 12 1 rfl (wn rfl) hr (pA B0 0) fun a hr => ?_
 refine evDs hgo ⟨⟨(h.pick 3).cell 0 rfl, trivial⟩, ((h.pick 5).held 2 rfl), trivial⟩ 11 2 rfl (wn rfl) hr (pA B0 0) fun a hr => ?_
 refine evDs hgo ⟨⟨(h.pick 3).cell 0 rfl, trivial⟩, ((h.pick 5).held 2 rfl), trivial⟩ 10 3 rfl (wn rfl) hr (pA B0 0) fun a hr => ?_
 refine evs 9 6 rfl (wn rfl) hr (pA b16 0) fun a hr => ?_
 refine evDs hgo ⟨⟨(h.pick 3).cell 0 rfl, trivial⟩, ((h.pick 5).held 2 rfl), trivial⟩ 8 7 rfl (wn rfl) hr (pA b16 0) fun a hr => ?_
 refine evDs hgo ⟨⟨(h.pick 3).cell 0 rfl, trivial⟩, ((h.pick 5).held 2 rfl), trivial⟩ 7 8 rfl (wn rfl) hr (pA b16 2) fun a hr => ?_
 refine el [2, 3, 5, 7, 8] (b := B0) (off := 0) (cs := [pA B0_arena 0]) (fun _ hk => ⟨hk, fun w hD => hD.1⟩) 6 4 rfl (by kernel_rfl) (wn rfl) hr (pA B0_arena 0) ⟨(h.pick 3).cell 0 rfl, trivial⟩ (fun w hc => rl rfl (by kernel_rfl) (by kernel_rfl) hc.1) fun a hr => ?_
 refine evDs hgo ⟨⟨(h.pick 3).cell 0 rfl, trivial⟩, ((h.pick 5).held 2 rfl), trivial⟩ 5 5 rfl (wn rfl) hr (.iface 26 (pA B0_arena 0)) fun a hr => ?_
 refine el [2, 3, 5, 7, 8] (b := b16) (off := 2) (cs := [vI S19.op_head_t_Base, vI S19.op_head_t_Frames, vI S19.op_head_frame, vI S19.op_head_stands, vI S19.op_head_code, vI S19.op_head_v, vI S19.op_kind, vI S19.op_slot, vI S19.op_give]) (fun _ hk => ⟨hk, fun w hD => hD.2.1⟩) 4 9 rfl (by kernel_rfl) (wn rfl) hr (.agg #[vI S19.op_head_t_Base, vI S19.op_head_t_Frames, vI S19.op_head_frame, vI S19.op_head_stands, vI S19.op_head_code, vI S19.op_head_v, vI S19.op_kind, vI S19.op_slot, vI S19.op_give]) ((h.pick 5).held 2 rfl) (fun w hc => rlm (cs := [vI S19.op_head_t_Base, vI S19.op_head_t_Frames, vI S19.op_head_frame, vI S19.op_head_stands, vI S19.op_head_code, vI S19.op_head_v, vI S19.op_kind, vI S19.op_slot, vI S19.op_give]) rfl (by kernel_rfl) (by kernel_rfl) (by kernel_rfl) hc) fun a hr => ?_
 refine e_one (fuel := 3) (i := 10) (by kernel_rfl) rfl ?_
 have hc := frames_Step_iface_ok (H := e33) (h := h)
 refine cl (wn rfl) hr hc ?_; clear hc h
 rintro _ w ⟨caq34, ccq35, caq36, ccq37, rfl, h⟩; refine ⟨_, rfl, fun a hr => ?_⟩
 refine wpList_nil ?_; refine then_normal ?_
 refine ⟨fun hE => absurd hE (by decide), ?_⟩
 refine evs 2 11 rfl (wn rfl) hr (pA b16 0) fun a hr => ?_
 refine evs 1 12 rfl (wn rfl) hr (pA b16 2) fun a hr => ?_
 refine e_one (fuel := 0) (i := 13) (by kernel_rfl) rfl ?_
 replace h : Fit z (sepL (ob137 b16 S19 :: ob103 B0_arena S32 caq34 ccq35 caq36 ccq37 :: ro2 caq34 ccq35 S32.cell :: ro96 caq36 ccq37 S32.log :: ob133 B0 p0 (pA B0_arena 0) (.slice va0_rounds p0_rounds.length vc0_rounds) ca5 cc6 ca7 cc8 ca9 cc10 ca11 cc12 ca13 cc14 :: rowH 135 1 own_ptr135 (.slice ca5 p0.live.length cc6) p0.live p1.toNat [pA b16 0] :: ro3 ca7 cc8 p0.run_Holders :: rn31 ca9 cc10 p0.run_Reads :: ro2 ca11 cc12 p0.run_Marks :: ro96 ca13 cc14 p0.run_Log :: L)) _ := h.sel 10 [5, 0, 1, 2, 3, 4, 6, 7, 8, 9] (by kernel_rfl) (by kernel_rfl)
 refine stos (wn rfl) hr h 2 (cl_T_frames_Op r31) (#[vI S19.number, vI S19.about, vI r31.head_t_Base, vI r31.head_t_Frames, vI r31.head_frame, vI r31.head_stands, vI r31.head_code, vI r31.head_v, vI r31.kind, vI r31.slot, vI r31.give, vB S19.inOp, vI S19.frame, vI S19.slot, vI S19.value, vI S19.at_, vB S19.child]) fun w h => ?_
 refine wpList_nil ?_; refine then_normal ?_
 replace h : Fit z (sepL (pts b16 (.cells #[vI S19.number, vI S19.about, vI r31.head_t_Base, vI r31.head_t_Frames, vI r31.head_frame, vI r31.head_stands, vI r31.head_code, vI r31.head_v, vI r31.kind, vI r31.slot, vI r31.give, vB S19.inOp, vI S19.frame, vI S19.slot, vI S19.value, vI S19.at_, vB S19.child] 137) :: ob103 B0_arena S32 caq34 ccq35 caq36 ccq37 :: ro2 caq34 ccq35 S32.cell :: ro96 caq36 ccq37 S32.log :: ob133 B0 p0 (pA B0_arena 0) (.slice va0_rounds p0_rounds.length vc0_rounds) ca5 cc6 ca7 cc8 ca9 cc10 ca11 cc12 ca13 cc14 :: rowH 135 1 own_ptr135 (.slice ca5 p0.live.length cc6) p0.live p1.toNat [pA b16 0] :: ro3 ca7 cc8 p0.run_Holders :: rn31 ca9 cc10 p0.run_Reads :: ro2 ca11 cc12 p0.run_Marks :: ro96 ca13 cc14 p0.run_Log :: L)) _ := h
 refine ⟨fun hE => absurd hE (by decide), ?_⟩
 refine e_end (by kernel_rfl) ?_
 refine then_normal ?_
 refine sr ?_
 refine oo [51, 52, 53] [pA b16 0, pA b16 0, pA b16 2] hr fun a hr => ?_
 refine ldm (wn rfl) hr (ag_T_frames_Op r31) (cs := cl_T_frames_Op r31) (h.held 2 rfl) fun a hr => ?_
 obtain ⟨r38, r39, e40, H⟩ := bd2 H
 have hc := frames_Answer_ok (H := e40) (h := h)
 refine cl (wn rfl) hr hc ?_; clear hc h
 rintro _ w ⟨rfl, h⟩; refine ⟨_, rfl, fun a hr => ?_⟩
 refine oo [50, 56, 57, 5, 6] [.tuple #[vI r38, vI r39], vI r38, vI r39, vI r38, vI r39] hr fun a hr => ?_
 refine ln ?_
 refine wp_seq ?_
 refine sr ?_
 refine oo [58, 59] [vI r38, vB (r38 == 0)] hr fun a hr => ?_
 refine ln ?_
 by_cases c41 : r38 = 0
 ·
  replace H := ifT c41 H
  refine cond_tt hr (beq_iff_eq.mpr c41) ?_
  refine wp_ret ?_
  refine then_ret ?_
  refine end_ret0 rfl hr ?_
  replace h : Fit z (sepL (pts b16 (.cells #[vI S19.number, vI S19.about, vI r31.head_t_Base, vI r31.head_t_Frames, vI r31.head_frame, vI r31.head_stands, vI r31.head_code, vI r31.head_v, vI r31.kind, vI r31.slot, vI r31.give, vB S19.inOp, vI S19.frame, vI S19.slot, vI S19.value, vI S19.at_, vB S19.child] 137) :: rowH 135 1 own_ptr135 (.slice ca5 p0.live.length cc6) p0.live p1.toNat [pA b16 0] :: ob103 B0_arena S32 caq34 ccq35 caq36 ccq37 :: ro2 caq34 ccq35 S32.cell :: ro96 caq36 ccq37 S32.log :: ob133 B0 p0 (pA B0_arena 0) (.slice va0_rounds p0_rounds.length vc0_rounds) ca5 cc6 ca7 cc8 ca9 cc10 ca11 cc12 ca13 cc14 :: ro3 ca7 cc8 p0.run_Holders :: rn31 ca9 cc10 p0.run_Reads :: ro2 ca11 cc12 p0.run_Marks :: ro96 ca13 cc14 p0.run_Log :: L)) _ := h.sel 10 [0, 5, 1, 2, 3, 4, 6, 7, 8, 9] (by kernel_rfl) (by kernel_rfl)
  replace h := own_ptr135_sh (x := (⟨S19.number, S19.about, r31.head_t_Base, r31.head_t_Frames, r31.head_frame, r31.head_stands, r31.head_code, r31.head_v, r31.kind, r31.slot, r31.give, S19.inOp, S19.frame, S19.slot, S19.value, S19.at_, S19.child⟩ : T_frames_actor)) h
  replace h : Fit z (sepL (rowN 135 1 own_ptr135 (.slice ca5 p0.live.length cc6) (p0.live.set p1.toNat (⟨S19.number, S19.about, r31.head_t_Base, r31.head_t_Frames, r31.head_frame, r31.head_stands, r31.head_code, r31.head_v, r31.kind, r31.slot, r31.give, S19.inOp, S19.frame, S19.slot, S19.value, S19.at_, S19.child⟩ : T_frames_actor)) :: ob103 B0_arena S32 caq34 ccq35 caq36 ccq37 :: ro2 caq34 ccq35 S32.cell :: ro96 caq36 ccq37 S32.log :: ob133 B0 p0 (pA B0_arena 0) (.slice va0_rounds p0_rounds.length vc0_rounds) ca5 cc6 ca7 cc8 ca9 cc10 ca11 cc12 ca13 cc14 :: ro3 ca7 cc8 p0.run_Holders :: rn31 ca9 cc10 p0.run_Reads :: ro2 ca11 cc12 p0.run_Marks :: ro96 ca13 cc14 p0.run_Log :: L)) _ := Fit.rowH_back (h.pick 1)
  have hn41 := h.rowN_n
  replace h : Fit z (sepL (rn135 ca5 cc6 (p0.live.set p1.toNat (⟨S19.number, S19.about, r31.head_t_Base, r31.head_t_Frames, r31.head_frame, r31.head_stands, r31.head_code, r31.head_v, r31.kind, r31.slot, r31.give, S19.inOp, S19.frame, S19.slot, S19.value, S19.at_, S19.child⟩ : T_frames_actor)) :: ob103 B0_arena S32 caq34 ccq35 caq36 ccq37 :: ro2 caq34 ccq35 S32.cell :: ro96 caq36 ccq37 S32.log :: pts B0 (.cells #[pA B0_arena 0, vI p0.table_Base, vI p0.table_Frames, .slice va0_rounds p0_rounds.length vc0_rounds, vI p0.round, .slice ca5 (p0.live.set p1.toNat (⟨S19.number, S19.about, r31.head_t_Base, r31.head_t_Frames, r31.head_frame, r31.head_stands, r31.head_code, r31.head_v, r31.kind, r31.slot, r31.give, S19.inOp, S19.frame, S19.slot, S19.value, S19.at_, S19.child⟩ : T_frames_actor)).length cc6, vI p0.made, vI p0.got, vB p0.run_Done, vI p0.run_Steps, .slice ca7 p0.run_Holders.length cc8, .slice ca9 p0.run_Reads.length cc10, .slice ca11 p0.run_Marks.length cc12, .slice ca13 p0.run_Log.length cc14] 133) :: ro3 ca7 cc8 p0.run_Holders :: rn31 ca9 cc10 p0.run_Reads :: ro2 ca11 cc12 p0.run_Marks :: ro96 ca13 cc14 p0.run_Log :: L)) w := (congrArg (fun q_ : Nat => Fit z (sepL (rowN 135 1 own_ptr135 (.slice ca5 q_ cc6) (p0.live.set p1.toNat (⟨S19.number, S19.about, r31.head_t_Base, r31.head_t_Frames, r31.head_frame, r31.head_stands, r31.head_code, r31.head_v, r31.kind, r31.slot, r31.give, S19.inOp, S19.frame, S19.slot, S19.value, S19.at_, S19.child⟩ : T_frames_actor)) :: ob103 B0_arena S32 caq34 ccq35 caq36 ccq37 :: ro2 caq34 ccq35 S32.cell :: ro96 caq36 ccq37 S32.log :: pts B0 (.cells #[pA B0_arena 0, vI p0.table_Base, vI p0.table_Frames, .slice va0_rounds p0_rounds.length vc0_rounds, vI p0.round, .slice ca5 q_ cc6, vI p0.made, vI p0.got, vB p0.run_Done, vI p0.run_Steps, .slice ca7 p0.run_Holders.length cc8, .slice ca9 p0.run_Reads.length cc10, .slice ca11 p0.run_Marks.length cc12, .slice ca13 p0.run_Log.length cc14] 133) :: ro3 ca7 cc8 p0.run_Holders :: rn31 ca9 cc10 p0.run_Reads :: ro2 ca11 cc12 p0.run_Marks :: ro96 ca13 cc14 p0.run_Log :: L)) w) h.rowN_n).mp h
  replace h : Fit z (sepL (pts B0 (.cells #[pA B0_arena 0, vI p0.table_Base, vI p0.table_Frames, .slice va0_rounds p0_rounds.length vc0_rounds, vI p0.round, .slice ca5 (p0.live.set p1.toNat (⟨S19.number, S19.about, r31.head_t_Base, r31.head_t_Frames, r31.head_frame, r31.head_stands, r31.head_code, r31.head_v, r31.kind, r31.slot, r31.give, S19.inOp, S19.frame, S19.slot, S19.value, S19.at_, S19.child⟩ : T_frames_actor)).length cc6, vI p0.made, vI p0.got, vB p0.run_Done, vI p0.run_Steps, .slice ca7 p0.run_Holders.length cc8, .slice ca9 p0.run_Reads.length cc10, .slice ca11 p0.run_Marks.length cc12, .slice ca13 p0.run_Log.length cc14] 133) :: rn135 ca5 cc6 (p0.live.set p1.toNat (⟨S19.number, S19.about, r31.head_t_Base, r31.head_t_Frames, r31.head_frame, r31.head_stands, r31.head_code, r31.head_v, r31.kind, r31.slot, r31.give, S19.inOp, S19.frame, S19.slot, S19.value, S19.at_, S19.child⟩ : T_frames_actor)) :: ro3 ca7 cc8 p0.run_Holders :: rn31 ca9 cc10 p0.run_Reads :: ro2 ca11 cc12 p0.run_Marks :: ro96 ca13 cc14 p0.run_Log :: ob103 B0_arena S32 caq34 ccq35 caq36 ccq37 :: ro2 caq34 ccq35 S32.cell :: ro96 caq36 ccq37 S32.log :: L)) _ := h.sel 9 [4, 0, 5, 6, 7, 8, 1, 2, 3] (by kernel_rfl) (by kernel_rfl)
  obtain ⟨rfl, rfl⟩ := ej2 H
  exact ⟨ca5, cc6, ca7, cc8, ca9, cc10, ca11, cc12, ca13, cc14, caq34, ccq35, caq36, ccq37, rfl, h⟩
 ·
  replace H := ifF c41 H
  refine cond_ff hr (beq_eq_false_iff_ne.mpr c41) ?_
  refine wp_skip ?_
  refine then_normal ?_
  refine sr ?_
  refine oo [60, 61, 62] [pA b16 0, pA b16 0, pA b16 11] hr fun a hr => ?_
  refine sto (wn rfl) hr h 11 (vB false) fun w h => ?_
  refine wpList_nil ?_
  replace h : Fit z (sepL (pts b16 (.cells #[vI S19.number, vI S19.about, vI r31.head_t_Base, vI r31.head_t_Frames, vI r31.head_frame, vI r31.head_stands, vI r31.head_code, vI r31.head_v, vI r31.kind, vI r31.slot, vI r31.give, vB false, vI S19.frame, vI S19.slot, vI S19.value, vI S19.at_, vB S19.child] 137) :: ob103 B0_arena S32 caq34 ccq35 caq36 ccq37 :: ro2 caq34 ccq35 S32.cell :: ro96 caq36 ccq37 S32.log :: ob133 B0 p0 (pA B0_arena 0) (.slice va0_rounds p0_rounds.length vc0_rounds) ca5 cc6 ca7 cc8 ca9 cc10 ca11 cc12 ca13 cc14 :: rowH 135 1 own_ptr135 (.slice ca5 p0.live.length cc6) p0.live p1.toNat [pA b16 0] :: ro3 ca7 cc8 p0.run_Holders :: rn31 ca9 cc10 p0.run_Reads :: ro2 ca11 cc12 p0.run_Marks :: ro96 ca13 cc14 p0.run_Log :: L)) _ := h
  refine then_normal ?_
  refine sr ?_
  obtain ⟨r43, S44, S45, e46, H⟩ := bd3 H
  refine oo [63, 64, 65, 66] [pA B0 0, pA b16 0, vI r38, vI r39] hr fun a hr => ?_
  replace h : Fit z (sepL (ob133 B0 p0 (pA B0_arena 0) (.slice va0_rounds p0_rounds.length vc0_rounds) ca5 cc6 ca7 cc8 ca9 cc10 ca11 cc12 ca13 cc14 :: rowH 135 1 own_ptr135 (.slice ca5 p0.live.length cc6) p0.live p1.toNat [pA b16 0] :: ro3 ca7 cc8 p0.run_Holders :: rn31 ca9 cc10 p0.run_Reads :: ro2 ca11 cc12 p0.run_Marks :: ro96 ca13 cc14 p0.run_Log :: ob103 B0_arena S32 caq34 ccq35 caq36 ccq37 :: ro2 caq34 ccq35 S32.cell :: ro96 caq36 ccq37 S32.log :: pts b16 (.cells #[vI S19.number, vI S19.about, vI r31.head_t_Base, vI r31.head_t_Frames, vI r31.head_frame, vI r31.head_stands, vI r31.head_code, vI r31.head_v, vI r31.kind, vI r31.slot, vI r31.give, vB false, vI S19.frame, vI S19.slot, vI S19.value, vI S19.at_, vB S19.child] 137) :: L)) _ := h.sel 10 [4, 5, 6, 7, 8, 9, 1, 2, 3, 0] (by kernel_rfl) (by kernel_rfl)
  have hc := frames_join_next_ok (va0_rounds := va0_rounds) (vc0_rounds := vc0_rounds) (hv0_rounds := (RdRow.up 0 hv0_rounds)) (H := e46) (h := h)
  refine cl (wn rfl) hr hc ?_; clear hc h
  rintro _ w ⟨caq47, ccq48, caq49, ccq50, caq51, ccq52, caq53, ccq54, caq55, ccq56, rfl, h⟩; refine ⟨_, rfl, fun a hr => ?_⟩
  refine o1 hr (vB (!r43)) fun a hr => ?_
  refine ln ?_
  by_cases c57 : r43 = true
  ·
   replace H := ifT c57 H
   refine cond_ff hr (b := (!r43)) (by rw [show r43 = true from (c57)]; rfl) ?_
   refine wp_skip ?_
   refine end_norm0 rfl hr ?_
   replace h : Fit z (sepL (ob137 b16 S45 :: rowH 135 1 own_ptr135 (.slice caq47 S44.live.length ccq48) S44.live p1.toNat [pA b16 0] :: ob133 B0 S44 (pA B0_arena 0) (.slice va0_rounds p0_rounds.length vc0_rounds) caq47 ccq48 caq49 ccq50 caq51 ccq52 caq53 ccq54 caq55 ccq56 :: ro3 caq49 ccq50 S44.run_Holders :: rn31 caq51 ccq52 S44.run_Reads :: ro2 caq53 ccq54 S44.run_Marks :: ro96 caq55 ccq56 S44.run_Log :: ob103 B0_arena S32 caq34 ccq35 caq36 ccq37 :: ro2 caq34 ccq35 S32.cell :: ro96 caq36 ccq37 S32.log :: L)) _ := h.sel 10 [9, 1, 0, 2, 3, 4, 5, 6, 7, 8] (by kernel_rfl) (by kernel_rfl)
   replace h := own_ptr135_sh (x := S45) h
   replace h : Fit z (sepL (rowN 135 1 own_ptr135 (.slice caq47 S44.live.length ccq48) (S44.live.set p1.toNat S45) :: ob133 B0 S44 (pA B0_arena 0) (.slice va0_rounds p0_rounds.length vc0_rounds) caq47 ccq48 caq49 ccq50 caq51 ccq52 caq53 ccq54 caq55 ccq56 :: ro3 caq49 ccq50 S44.run_Holders :: rn31 caq51 ccq52 S44.run_Reads :: ro2 caq53 ccq54 S44.run_Marks :: ro96 caq55 ccq56 S44.run_Log :: ob103 B0_arena S32 caq34 ccq35 caq36 ccq37 :: ro2 caq34 ccq35 S32.cell :: ro96 caq36 ccq37 S32.log :: L)) _ := Fit.rowH_back (h.pick 1)
   have hn57 := h.rowN_n
   replace h : Fit z (sepL (rn135 caq47 ccq48 (S44.live.set p1.toNat S45) :: pts B0 (.cells #[pA B0_arena 0, vI S44.table_Base, vI S44.table_Frames, .slice va0_rounds p0_rounds.length vc0_rounds, vI S44.round, .slice caq47 (S44.live.set p1.toNat S45).length ccq48, vI S44.made, vI S44.got, vB S44.run_Done, vI S44.run_Steps, .slice caq49 S44.run_Holders.length ccq50, .slice caq51 S44.run_Reads.length ccq52, .slice caq53 S44.run_Marks.length ccq54, .slice caq55 S44.run_Log.length ccq56] 133) :: ro3 caq49 ccq50 S44.run_Holders :: rn31 caq51 ccq52 S44.run_Reads :: ro2 caq53 ccq54 S44.run_Marks :: ro96 caq55 ccq56 S44.run_Log :: ob103 B0_arena S32 caq34 ccq35 caq36 ccq37 :: ro2 caq34 ccq35 S32.cell :: ro96 caq36 ccq37 S32.log :: L)) w := (congrArg (fun q_ : Nat => Fit z (sepL (rowN 135 1 own_ptr135 (.slice caq47 q_ ccq48) (S44.live.set p1.toNat S45) :: pts B0 (.cells #[pA B0_arena 0, vI S44.table_Base, vI S44.table_Frames, .slice va0_rounds p0_rounds.length vc0_rounds, vI S44.round, .slice caq47 q_ ccq48, vI S44.made, vI S44.got, vB S44.run_Done, vI S44.run_Steps, .slice caq49 S44.run_Holders.length ccq50, .slice caq51 S44.run_Reads.length ccq52, .slice caq53 S44.run_Marks.length ccq54, .slice caq55 S44.run_Log.length ccq56] 133) :: ro3 caq49 ccq50 S44.run_Holders :: rn31 caq51 ccq52 S44.run_Reads :: ro2 caq53 ccq54 S44.run_Marks :: ro96 caq55 ccq56 S44.run_Log :: ob103 B0_arena S32 caq34 ccq35 caq36 ccq37 :: ro2 caq34 ccq35 S32.cell :: ro96 caq36 ccq37 S32.log :: L)) w) h.rowN_n).mp h
   replace h : Fit z (sepL (pts B0 (.cells #[pA B0_arena 0, vI S44.table_Base, vI S44.table_Frames, .slice va0_rounds p0_rounds.length vc0_rounds, vI S44.round, .slice caq47 (S44.live.set p1.toNat S45).length ccq48, vI S44.made, vI S44.got, vB S44.run_Done, vI S44.run_Steps, .slice caq49 S44.run_Holders.length ccq50, .slice caq51 S44.run_Reads.length ccq52, .slice caq53 S44.run_Marks.length ccq54, .slice caq55 S44.run_Log.length ccq56] 133) :: rn135 caq47 ccq48 (S44.live.set p1.toNat S45) :: ro3 caq49 ccq50 S44.run_Holders :: rn31 caq51 ccq52 S44.run_Reads :: ro2 caq53 ccq54 S44.run_Marks :: ro96 caq55 ccq56 S44.run_Log :: ob103 B0_arena S32 caq34 ccq35 caq36 ccq37 :: ro2 caq34 ccq35 S32.cell :: ro96 caq36 ccq37 S32.log :: L)) _ := h.sel 9 [1, 0, 2, 3, 4, 5, 6, 7, 8] (by kernel_rfl) (by kernel_rfl)
   obtain ⟨rfl, rfl⟩ := ej2 H
   exact ⟨caq47, ccq48, caq49, ccq50, caq51, ccq52, caq53, ccq54, caq55, ccq56, caq34, ccq35, caq36, ccq37, rfl, h⟩
  ·
   replace H := ifF c57 H
   refine cond_tt hr (b := (!r43)) (by rw [show r43 = false from (bF c57)]; rfl) ?_
   obtain ⟨c59, H⟩ := gd H
   obtain ⟨c60, H⟩ := gd H
   obtain ⟨c61, H⟩ := gd H
   obtain ⟨c62, H⟩ := gd H
   refine reg_E (fun w => heldC w B0 5 ([.slice caq47 S44.live.length ccq48]) ∧ heldC w B0 5 ([.slice caq47 S44.live.length ccq48]) ∧ True) [2, 3, 6, 8, 9, 12, 13] h (by kernel_rfl) ?_; intro w h
   change wpAnyE _ _ _ _ _ _ 18 (Array.replicate 18 false) a w
   have hgo : ∀ w w', CellsGo w w' → (heldC w B0 5 ([.slice caq47 S44.live.length ccq48]) ∧ heldC w B0 5 ([.slice caq47 S44.live.length ccq48]) ∧ True) → heldC w' B0 5 ([.slice caq47 S44.live.length ccq48]) ∧ heldC w' B0 5 ([.slice caq47 S44.live.length ccq48]) ∧ True := fun w w' g hD => ⟨heldC_go _ _ _ _ _ g hD.1, heldC_go _ _ _ _ _ g hD.2.1, trivial⟩
   refine evs 17 0 rfl (wn rfl) hr (pA B0 0) fun a hr => ?_
   refine evs 16 1 rfl (wn rfl) hr (pA B0 0) fun a hr => ?_
   refine evDs hgo ⟨⟨h.cell 5 rfl, trivial⟩, ⟨h.cell 5 rfl, trivial⟩, trivial⟩ 15 2 rfl (wn rfl) hr (pA B0 0) fun a hr => ?_
   refine evDs hgo ⟨⟨h.cell 5 rfl, trivial⟩, ⟨h.cell 5 rfl, trivial⟩, trivial⟩ 14 3 rfl (wn rfl) hr (pA B0 5) fun a hr => ?_
   refine evs 13 5 rfl (wn rfl) hr (vI p1) fun a hr => ?_
   refine evs 12 7 rfl (wn rfl) hr (pA B0 0) fun a hr => ?_
   refine evDs hgo ⟨⟨h.cell 5 rfl, trivial⟩, ⟨h.cell 5 rfl, trivial⟩, trivial⟩ 11 8 rfl (wn rfl) hr (pA B0 0) fun a hr => ?_
   refine evDs hgo ⟨⟨h.cell 5 rfl, trivial⟩, ⟨h.cell 5 rfl, trivial⟩, trivial⟩ 10 9 rfl (wn rfl) hr (pA B0 5) fun a hr => ?_
   refine evs 9 11 rfl (wn rfl) hr (vI p1) fun a hr => ?_
   refine evDs hgo ⟨⟨h.cell 5 rfl, trivial⟩, ⟨h.cell 5 rfl, trivial⟩, trivial⟩ 8 12 rfl (wn rfl) hr (vI (wi (p1 + 1))) fun a hr => ?_
   refine el [2, 3, 6, 8, 9, 12, 13] (b := B0) (off := 5) (cs := [.slice caq47 S44.live.length ccq48]) (fun _ hk => ⟨hk, fun w hD => hD.1⟩) 7 4 rfl (by kernel_rfl) (wn rfl) hr (.slice caq47 S44.live.length ccq48) ⟨h.cell 5 rfl, trivial⟩ (fun w hc => rl rfl (by kernel_rfl) (by kernel_rfl) hc.1) fun a hr => ?_
   refine evD hgo ⟨⟨h.cell 5 rfl, trivial⟩, ⟨h.cell 5 rfl, trivial⟩, trivial⟩ 6 6 rfl (by kernel_rfl) (wn rfl) hr (.slice caq47 p1.toNat ccq48) (fun w => cutH (k := .i64) rfl (by kernel_rfl) (by kernel_rfl) (by kernel_rfl) (by kernel_rfl) (h.pick 1) c59) fun a hr => ?_
   refine el [2, 3, 6, 8, 9, 12, 13] (b := B0) (off := 5) (cs := [.slice caq47 S44.live.length ccq48]) (fun _ hk => ⟨hk, fun w hD => hD.2.1⟩) 5 10 rfl (by kernel_rfl) (wn rfl) hr (.slice caq47 S44.live.length ccq48) ⟨h.cell 5 rfl, trivial⟩ (fun w hc => rl rfl (by kernel_rfl) (by kernel_rfl) hc.1) fun a hr => ?_
   refine evD hgo ⟨⟨h.cell 5 rfl, trivial⟩, ⟨h.cell 5 rfl, trivial⟩, trivial⟩ 4 13 rfl (by kernel_rfl) (wn rfl) hr (tl caq47 S44.live.length ccq48 (wi (p1 + 1)).toNat 1) (fun w => tailH (k := .i64) rfl (by kernel_rfl) (by kernel_rfl) (by kernel_rfl) (by kernel_rfl) (h.pick 1) c60) fun a hr => ?_
   refine e_one (fuel := 3) (i := 14) (by kernel_rfl) rfl ?_
   replace h : Fit z (sepL (rowH 135 1 own_ptr135 (.slice caq47 S44.live.length ccq48) S44.live p1.toNat [pA b16 0] :: ob133 B0 S44 (pA B0_arena 0) (.slice va0_rounds p0_rounds.length vc0_rounds) caq47 ccq48 caq49 ccq50 caq51 ccq52 caq53 ccq54 caq55 ccq56 :: ro3 caq49 ccq50 S44.run_Holders :: rn31 caq51 ccq52 S44.run_Reads :: ro2 caq53 ccq54 S44.run_Marks :: ro96 caq55 ccq56 S44.run_Log :: ob103 B0_arena S32 caq34 ccq35 caq36 ccq37 :: ro2 caq34 ccq35 S32.cell :: ro96 caq36 ccq37 S32.log :: ob137 b16 S45 :: L)) _ := h.sel 10 [1, 0, 2, 3, 4, 5, 6, 7, 8, 9] (by kernel_rfl) (by kernel_rfl)
   refine op_remove (n0 := S44.live.length) (bytes := 8) (sz := 1) (wn rfl) rfl rfl hr rfl (by kernel_rfl) (by kernel_rfl) c61 (E := 135) (by kernel_rfl) (by kernel_rfl) rfl h c62 rfl fun ca63 cc64 w a h hr => ?_
   refine wpList_nil ?_; refine then_normal ?_
   replace h : Fit z (sepL (rn135 ca63 cc64 (S44.live.eraseIdx p1.toNat) :: ob133 B0 S44 (pA B0_arena 0) (.slice va0_rounds p0_rounds.length vc0_rounds) caq47 ccq48 caq49 ccq50 caq51 ccq52 caq53 ccq54 caq55 ccq56 :: ro3 caq49 ccq50 S44.run_Holders :: rn31 caq51 ccq52 S44.run_Reads :: ro2 caq53 ccq54 S44.run_Marks :: ro96 caq55 ccq56 S44.run_Log :: ob103 B0_arena S32 caq34 ccq35 caq36 ccq37 :: ro2 caq34 ccq35 S32.cell :: ro96 caq36 ccq37 S32.log :: ob137 b16 S45 :: L)) _ := h
   refine ⟨fun hE => absurd hE (by decide), ?_⟩
   refine evs 2 15 rfl (wn rfl) hr (pA B0 0) fun a hr => ?_
   refine evs 1 16 rfl (wn rfl) hr (pA B0 5) fun a hr => ?_
   refine e_one (fuel := 0) (i := 17) (by kernel_rfl) rfl ?_
   replace h : Fit z (sepL (ob133 B0 S44 (pA B0_arena 0) (.slice va0_rounds p0_rounds.length vc0_rounds) caq47 ccq48 caq49 ccq50 caq51 ccq52 caq53 ccq54 caq55 ccq56 :: rn135 ca63 cc64 (S44.live.eraseIdx p1.toNat) :: ro3 caq49 ccq50 S44.run_Holders :: rn31 caq51 ccq52 S44.run_Reads :: ro2 caq53 ccq54 S44.run_Marks :: ro96 caq55 ccq56 S44.run_Log :: ob103 B0_arena S32 caq34 ccq35 caq36 ccq37 :: ro2 caq34 ccq35 S32.cell :: ro96 caq36 ccq37 S32.log :: ob137 b16 S45 :: L)) _ := h.sel 10 [1, 0, 2, 3, 4, 5, 6, 7, 8, 9] (by kernel_rfl) (by kernel_rfl)
   refine sto (wn rfl) hr h 5 (.slice ca63 (S44.live.eraseIdx p1.toNat).length cc64) fun w h => ?_
   refine wpList_nil ?_; refine then_normal ?_
   replace h : Fit z (sepL (pts B0 (.cells #[pA B0_arena 0, vI S44.table_Base, vI S44.table_Frames, .slice va0_rounds p0_rounds.length vc0_rounds, vI S44.round, .slice ca63 (S44.live.eraseIdx p1.toNat).length cc64, vI S44.made, vI S44.got, vB S44.run_Done, vI S44.run_Steps, .slice caq49 S44.run_Holders.length ccq50, .slice caq51 S44.run_Reads.length ccq52, .slice caq53 S44.run_Marks.length ccq54, .slice caq55 S44.run_Log.length ccq56] 133) :: rn135 ca63 cc64 (S44.live.eraseIdx p1.toNat) :: ro3 caq49 ccq50 S44.run_Holders :: rn31 caq51 ccq52 S44.run_Reads :: ro2 caq53 ccq54 S44.run_Marks :: ro96 caq55 ccq56 S44.run_Log :: ob103 B0_arena S32 caq34 ccq35 caq36 ccq37 :: ro2 caq34 ccq35 S32.cell :: ro96 caq36 ccq37 S32.log :: ob137 b16 S45 :: L)) _ := h
   refine ⟨fun hE => absurd hE (by decide), ?_⟩
   refine e_end (by kernel_rfl) ?_
   refine end_norm0 rfl hr ?_
   replace h : Fit z (sepL (pts B0 (.cells #[pA B0_arena 0, vI S44.table_Base, vI S44.table_Frames, .slice va0_rounds p0_rounds.length vc0_rounds, vI S44.round, .slice ca63 (S44.live.eraseIdx p1.toNat).length cc64, vI S44.made, vI S44.got, vB S44.run_Done, vI S44.run_Steps, .slice caq49 S44.run_Holders.length ccq50, .slice caq51 S44.run_Reads.length ccq52, .slice caq53 S44.run_Marks.length ccq54, .slice caq55 S44.run_Log.length ccq56] 133) :: rn135 ca63 cc64 (S44.live.eraseIdx p1.toNat) :: ro3 caq49 ccq50 S44.run_Holders :: rn31 caq51 ccq52 S44.run_Reads :: ro2 caq53 ccq54 S44.run_Marks :: ro96 caq55 ccq56 S44.run_Log :: ob103 B0_arena S32 caq34 ccq35 caq36 ccq37 :: ro2 caq34 ccq35 S32.cell :: ro96 caq36 ccq37 S32.log :: L)) _ := h.sel 10 [0, 1, 2, 3, 4, 5, 6, 7, 8] (by kernel_rfl) (by kernel_rfl)
   obtain ⟨rfl, rfl⟩ := ej2 H
   exact ⟨ca63, cc64, caq49, ccq50, caq51, ccq52, caq53, ccq54, caq55, ccq56, caq34, ccq35, caq36, ccq37, rfl, h⟩

/-- (*plunder/cells.Arena).Cells -/
def cells_Arena_Cells (p0 : T_cells_Arena) : Option ((List Int)) :=
  if 0 ≤ ((p0.cell.length : Nat) : Int) ∧ ((p0.cell.length : Nat) : Int) * 8 ≤ 140737488355328 then if p0.cell.length = (List.replicate p0.cell.length (0 : Int)).length then some p0.cell else none else none

set_option maxRecDepth 100000 in
set_option maxHeartbeats 4000000 in
theorem cells_Arena_Cells_ok {z w : World} {L : List HProp} {p0 : T_cells_Arena} {B0 : Nat} {ca1 : Option Addr} {cc2 : Nat} {ca3 : Option Addr} {cc4 : Nat} {r0 : List Int} (H : cells_Arena_Cells p0 = some r0) (h : Fit z (sepL (ob103 B0 p0 ca1 cc2 ca3 cc4 :: ro2 ca1 cc2 p0.cell :: ro96 ca3 cc4 p0.log :: L)) w)  :
    Calls Try.prog 21 #[pA B0 0] w fun e w => ∃ car0_1 : Option Addr, e = .returned (.slice car0_1 r0.length r0.length) ∧ Fit z (sepL (ob103 B0 p0 ca1 cc2 ca3 cc4 :: ro2 ca1 cc2 p0.cell :: ro96 ca3 cc4 p0.log :: ro2 car0_1 r0.length r0 :: L)) w := by
 unfold cells_Arena_Cells at H
 refine enter Try.func21 rfl 19 rfl rfl [(0, pA B0 0)] ⟨rfl, trivial⟩ ?_
 intro j a hr
 refine sr ?_
 refine o1 hr (.slice none 0 0) fun a hr => ?_
 refine ln ?_
 refine wp_seq ?_
 refine sr ?_
 refine oo [4, 5] [pA B0 0, vB false] hr fun a hr => ?_
 refine ln ?_
 refine cond_ff hr (b := false) rfl ?_
 refine wp_skip ?_
 refine then_normal ?_
 refine sr ?_
 refine oo [6, 7, 8] [pA B0 0, pA B0 0, pA B0 2] hr fun a hr => ?_
 refine ld (wn rfl) hr (.slice ca1 p0.cell.length cc2) (h.cell 2 rfl) fun a hr => ?_
 obtain ⟨c5, H⟩ := gd H
 refine o1 hr (vI ((p0.cell.length : Nat) : Int)) fun a hr => ?_
 refine op_make_row (i := ((p0.cell.length : Nat) : Int)) (bytes := 8) (zc := #[vI 0]) (0 : Int) (wn rfl) rfl rfl hr rfl (by kernel_rfl) (by kernel_rfl) c5 encZ_i64_ok (E := 2) (by kernel_rfl) (by kernel_rfl) rfl rfl h fun ca6 w a h hr => ?_
 refine o1 hr (.slice ca6 (List.replicate p0.cell.length (0 : Int)).length p0.cell.length) fun a hr => ?_
 refine wpList_nil ?_
 replace h : Fit z (sepL (ro2 ca6 p0.cell.length (List.replicate p0.cell.length (0 : Int)) :: ob103 B0 p0 ca1 cc2 ca3 cc4 :: ro2 ca1 cc2 p0.cell :: ro96 ca3 cc4 p0.log :: L)) _ := h
 refine then_normal ?_
 refine sr ?_
 refine oo [12, 13, 14, 15] [.slice ca6 (List.replicate p0.cell.length (0 : Int)).length p0.cell.length, pA B0 0, pA B0 0, pA B0 2] hr fun a hr => ?_
 refine ld (wn rfl) hr (.slice ca1 p0.cell.length cc2) ((h.pick 1).cell 2 rfl) fun a hr => ?_
 obtain ⟨c7, H⟩ := gd H
 replace h : Fit z (sepL (ro2 ca6 p0.cell.length (List.replicate p0.cell.length (0 : Int)) :: ro2 ca1 cc2 p0.cell :: ob103 B0 p0 ca1 cc2 ca3 cc4 :: ro96 ca3 cc4 p0.log :: L)) _ := h.sel 4 [0, 2, 1, 3] (by kernel_rfl) (by kernel_rfl)
 refine op_copy_row (wn rfl) rfl rfl hr rfl (by kernel_rfl) (by kernel_rfl) encZ_i64_ok (E := 2) (by kernel_rfl) (by kernel_rfl) c7 h fun w a h hr => ?_
 refine wpList_nil ?_
 replace h : Fit z (sepL (rowOf 2 1 encZ_i64 (.slice ca6 (List.replicate p0.cell.length (0 : Int)).length p0.cell.length) p0.cell :: ro2 ca1 cc2 p0.cell :: ob103 B0 p0 ca1 cc2 ca3 cc4 :: ro96 ca3 cc4 p0.log :: L)) _ := h
 refine then_normal ?_
 refine sr ?_
 refine oo [18, 2] [.slice ca6 (List.replicate p0.cell.length (0 : Int)).length p0.cell.length, .slice ca6 (List.replicate p0.cell.length (0 : Int)).length p0.cell.length] hr fun a hr => ?_
 refine ln ?_
 refine wp_ret ?_
 refine end_ret1 (v := .slice ca6 (List.replicate p0.cell.length (0 : Int)).length p0.cell.length) rfl hr (by kernel_rfl) ?_
 have hn7 := h.row_n
 replace h : Fit z (sepL (ro2 ca6 p0.cell.length p0.cell :: ro2 ca1 cc2 p0.cell :: ob103 B0 p0 ca1 cc2 ca3 cc4 :: ro96 ca3 cc4 p0.log :: L)) w := (congrArg (fun q_ : Nat => Fit z (sepL (rowOf 2 1 encZ_i64 (.slice ca6 q_ p0.cell.length) p0.cell :: ro2 ca1 cc2 p0.cell :: ob103 B0 p0 ca1 cc2 ca3 cc4 :: ro96 ca3 cc4 p0.log :: L)) w) h.row_n).mp h
 replace h : Fit z (sepL (ob103 B0 p0 ca1 cc2 ca3 cc4 :: ro2 ca1 cc2 p0.cell :: ro96 ca3 cc4 p0.log :: ro2 ca6 p0.cell.length p0.cell :: L)) _ := h.sel 4 [2, 1, 3, 0] (by kernel_rfl) (by kernel_rfl)
 replace H := ej1 H; subst H
 exact ⟨ca6, (by simp only [hn7]), h⟩

/-- (*plunder/cells.Arena).Log -/
def cells_Arena_Log (p0 : T_cells_Arena) : Option ((List T_api_Access)) :=
  if 0 ≤ ((p0.log.length : Nat) : Int) ∧ ((p0.log.length : Nat) : Int) * 48 ≤ 140737488355328 then if p0.log.length = (List.replicate p0.log.length (⟨0, 0, 0, 0, 0, false⟩ : T_api_Access)).length then some p0.log else none else none

set_option maxRecDepth 100000 in
set_option maxHeartbeats 4000000 in
theorem cells_Arena_Log_ok {z w : World} {L : List HProp} {p0 : T_cells_Arena} {B0 : Nat} {ca1 : Option Addr} {cc2 : Nat} {ca3 : Option Addr} {cc4 : Nat} {r0 : List T_api_Access} (H : cells_Arena_Log p0 = some r0) (h : Fit z (sepL (ob103 B0 p0 ca1 cc2 ca3 cc4 :: ro2 ca1 cc2 p0.cell :: ro96 ca3 cc4 p0.log :: L)) w)  :
    Calls Try.prog 24 #[pA B0 0] w fun e w => ∃ car0_1 : Option Addr, e = .returned (.slice car0_1 r0.length r0.length) ∧ Fit z (sepL (ob103 B0 p0 ca1 cc2 ca3 cc4 :: ro2 ca1 cc2 p0.cell :: ro96 ca3 cc4 p0.log :: ro96 car0_1 r0.length r0 :: L)) w := by
 unfold cells_Arena_Log at H
 refine enter Try.func24 rfl 19 rfl rfl [(0, pA B0 0)] ⟨rfl, trivial⟩ ?_
 intro j a hr
 refine sr ?_
 refine o1 hr (.slice none 0 0) fun a hr => ?_
 refine ln ?_
 refine wp_seq ?_
 refine sr ?_
 refine oo [4, 5] [pA B0 0, vB false] hr fun a hr => ?_
 refine ln ?_
 refine cond_ff hr (b := false) rfl ?_
 refine wp_skip ?_
 refine then_normal ?_
 refine sr ?_
 refine oo [6, 7, 8] [pA B0 0, pA B0 0, pA B0 3] hr fun a hr => ?_
 refine ld (wn rfl) hr (.slice ca3 p0.log.length cc4) (h.cell 3 rfl) fun a hr => ?_
 obtain ⟨c5, H⟩ := gd H
 refine o1 hr (vI ((p0.log.length : Nat) : Int)) fun a hr => ?_
 refine op_make_row (i := ((p0.log.length : Nat) : Int)) (bytes := 48) (zc := #[vI 0, vI 0, vI 0, vI 0, vI 0, vB false]) (⟨0, 0, 0, 0, 0, false⟩ : T_api_Access) (wn rfl) rfl rfl hr rfl (by kernel_rfl) (by kernel_rfl) c5 enc_T_api_Access_ok (E := 96) (by kernel_rfl) (by kernel_rfl) rfl rfl h fun ca6 w a h hr => ?_
 refine o1 hr (.slice ca6 (List.replicate p0.log.length (⟨0, 0, 0, 0, 0, false⟩ : T_api_Access)).length p0.log.length) fun a hr => ?_
 refine wpList_nil ?_
 replace h : Fit z (sepL (ro96 ca6 p0.log.length (List.replicate p0.log.length (⟨0, 0, 0, 0, 0, false⟩ : T_api_Access)) :: ob103 B0 p0 ca1 cc2 ca3 cc4 :: ro2 ca1 cc2 p0.cell :: ro96 ca3 cc4 p0.log :: L)) _ := h
 refine then_normal ?_
 refine sr ?_
 refine oo [12, 13, 14, 15] [.slice ca6 (List.replicate p0.log.length (⟨0, 0, 0, 0, 0, false⟩ : T_api_Access)).length p0.log.length, pA B0 0, pA B0 0, pA B0 3] hr fun a hr => ?_
 refine ld (wn rfl) hr (.slice ca3 p0.log.length cc4) ((h.pick 1).cell 3 rfl) fun a hr => ?_
 obtain ⟨c7, H⟩ := gd H
 replace h : Fit z (sepL (ro96 ca6 p0.log.length (List.replicate p0.log.length (⟨0, 0, 0, 0, 0, false⟩ : T_api_Access)) :: ro96 ca3 cc4 p0.log :: ob103 B0 p0 ca1 cc2 ca3 cc4 :: ro2 ca1 cc2 p0.cell :: L)) _ := h.sel 4 [0, 3, 1, 2] (by kernel_rfl) (by kernel_rfl)
 refine op_copy_row (wn rfl) rfl rfl hr rfl (by kernel_rfl) (by kernel_rfl) enc_T_api_Access_ok (E := 96) (by kernel_rfl) (by kernel_rfl) c7 h fun w a h hr => ?_
 refine wpList_nil ?_
 replace h : Fit z (sepL (rowOf 96 6 enc_T_api_Access (.slice ca6 (List.replicate p0.log.length (⟨0, 0, 0, 0, 0, false⟩ : T_api_Access)).length p0.log.length) p0.log :: ro96 ca3 cc4 p0.log :: ob103 B0 p0 ca1 cc2 ca3 cc4 :: ro2 ca1 cc2 p0.cell :: L)) _ := h
 refine then_normal ?_
 refine sr ?_
 refine oo [18, 2] [.slice ca6 (List.replicate p0.log.length (⟨0, 0, 0, 0, 0, false⟩ : T_api_Access)).length p0.log.length, .slice ca6 (List.replicate p0.log.length (⟨0, 0, 0, 0, 0, false⟩ : T_api_Access)).length p0.log.length] hr fun a hr => ?_
 refine ln ?_
 refine wp_ret ?_
 refine end_ret1 (v := .slice ca6 (List.replicate p0.log.length (⟨0, 0, 0, 0, 0, false⟩ : T_api_Access)).length p0.log.length) rfl hr (by kernel_rfl) ?_
 have hn7 := h.row_n
 replace h : Fit z (sepL (ro96 ca6 p0.log.length p0.log :: ro96 ca3 cc4 p0.log :: ob103 B0 p0 ca1 cc2 ca3 cc4 :: ro2 ca1 cc2 p0.cell :: L)) w := (congrArg (fun q_ : Nat => Fit z (sepL (rowOf 96 6 enc_T_api_Access (.slice ca6 q_ p0.log.length) p0.log :: ro96 ca3 cc4 p0.log :: ob103 B0 p0 ca1 cc2 ca3 cc4 :: ro2 ca1 cc2 p0.cell :: L)) w) h.row_n).mp h
 replace h : Fit z (sepL (ob103 B0 p0 ca1 cc2 ca3 cc4 :: ro2 ca1 cc2 p0.cell :: ro96 ca3 cc4 p0.log :: ro96 ca6 p0.log.length p0.log :: L)) _ := h.sel 4 [2, 3, 1, 0] (by kernel_rfl) (by kernel_rfl)
 replace H := ej1 H; subst H
 exact ⟨ca6, (by simp only [hn7]), h⟩

def frames_Play_l1 (K : Nat) (p0 : List Int) : Nat → Int → Int → Option ((Int) ⊕ (T_api_JoinRun × Int))
  | 0, _, _ => none
  | k1 + 1, g9, g10 => (if g10 < ((p0.length : Nat) : Int) then if inr_ g10 p0.length then (if (at_ p0 g10.toNat) < 0 then some (.inr ((⟨false, 0, ([] : List Int), ([] : List (List Int)), ([] : List Int), ([] : List T_api_Access)⟩ : T_api_JoinRun), 80)) else (if (at_ p0 g10.toNat) > 8 then some (.inr ((⟨false, 0, ([] : List Int), ([] : List (List Int)), ([] : List Int), ([] : List T_api_Access)⟩ : T_api_JoinRun), 80)) else (frames_Play_l1 K p0 k1 (wi (g9 + (at_ p0 g10.toNat))) (wi (g10 + 1))))) else none else some (.inl g9))
def frames_Play_l2 (K : Nat) (p0 : List Int) (p1 : List Int) : Nat → T_frames_join → T_cells_Arena → Int → Option (T_frames_join × T_cells_Arena)
  | 0, _, _, _ => none
  | k2 + 1, S72, S73, g88 => (if g88 < ((p1.length : Nat) : Int) then if inr_ g88 p1.length then (if S72.run_Done = true then some (S72, S73) else ob1 (ops_Mod (at_ p1 g88.toNat) ((S72.live.length : Nat) : Int)) (fun r92 => ob2 (frames_join_step S72 S73 p0 r92) (fun S94 S95 => (frames_Play_l2 K p0 p1 k2 ({ S94 with run_Steps := wi (S94.run_Steps + 1) }) S95 (wi (g88 + 1)))))) else none else some (S72, S73))
def frames_Play_l3 (K : Nat) (g6 : Int) (S54 : T_frames_join) (r111 : List Int) : Nat → (List Int) → Int → Option ((List Int))
  | 0, _, _ => none
  | k3 + 1, l121, g122 => (if g122 < g6 then ob1 (frames_Table__mark (⟨S54.table_Base, S54.table_Frames⟩ : T_frames_Table) g122) (fun r124 => if inr_ r124 r111.length then if (l121.length + 1) * 8 ≤ 140737488355328 then (frames_Play_l3 K g6 S54 r111 k3 (l121 ++ [(at_ r111 r124.toNat)]) (wi (g122 + 1))) else none else none) else some l121)
/-- plunder/frames.Play -/
def frames_Play (K : Nat) (p0 : List Int) (p1 : List Int) : Option (T_api_JoinRun × Int) :=
  jn0 ((if ((p0.length : Nat) : Int) > 64 then some (.inr ((⟨false, 0, ([] : List Int), ([] : List (List Int)), ([] : List Int), ([] : List T_api_Access)⟩ : T_api_JoinRun), 2)) else (if ((p1.length : Nat) : Int) > 1048576 then some (.inr ((⟨false, 0, ([] : List Int), ([] : List (List Int)), ([] : List Int), ([] : List T_api_Access)⟩ : T_api_JoinRun), 2)) else some (.inl ())))) (jn1 ((frames_Play_l1 K p0 K 1 0)) (fun g6 => ob1 (frames_Cells g6) (fun r16 => ob2 (cells_New r16) (fun r18 r19 => (match r18 with | some S21 => ob3 (frames_New_iface K S21 g6) (fun r27 r28 S29 => ob1 (cells_Arena_Watch S29 true) (fun S35 => ob1 (frames_join_join (⟨r27.Base, r27.Frames, 0, ([] : List T_frames_actor), 0, 0, false, 0, ([] : List Int), ([] : List (List Int)), ([] : List Int), ([] : List T_api_Access)⟩ : T_frames_join) S35 p0 (⟨0, 0, 0, 0, 0, 0, 0, 0, 0, 0, 0, false, 0, 0, 0, 0, false⟩ : T_frames_actor)) (fun S42 => ob2 ((frames_Play_l2 K p0 p1 K S42 S35 0)) (fun S54 S55 => ob1 (cells_Arena_Cells S55) (fun r111 => ob1 ((frames_Play_l3 K g6 S54 r111 K S54.run_Marks 0)) (fun l116 => ob1 (cells_Arena_Log S55) (fun r131 => some ((⟨S54.run_Done, S54.run_Steps, S54.run_Holders, S54.run_Reads, l116, r131⟩ : T_api_JoinRun), 0)))))))) | none => none)))))

set_option maxRecDepth 100000 in
set_option maxHeartbeats 4000000 in
theorem frames_Play_ok {z w : World} {L : List HProp} {K : Nat} {p0 : List Int} {p1 : List Int} {va0 : Option Addr} {vc0 : Nat} {va1 : Option Addr} {vc1 : Nat} {r0 : T_api_JoinRun} {r1 : Int} (H : frames_Play K p0 p1 = some (r0, r1)) (h : Fit z (sepL (L)) w) (hv0 : RdRow L 1 encZ_i64 va0 p0) (hv1 : RdRow L 1 encZ_i64 va1 p1) :
    Calls Try.prog 43 #[.slice va0 p0.length vc0, .slice va1 p1.length vc1] w fun e w => ∃ car0_1 : Option Addr, ∃ ccr0_2 : Nat, ∃ car0_3 : Option Addr, ∃ ccr0_4 : Nat, ∃ car0_5 : Option Addr, ∃ ccr0_6 : Nat, ∃ car0_7 : Option Addr, e = .returned (.tuple #[.agg #[vB r0.Done, vI r0.Steps, .slice car0_1 r0.Holders.length ccr0_2, .slice car0_3 r0.Reads.length ccr0_4, .slice car0_5 r0.Marks.length ccr0_6, .slice car0_7 r0.Log.length r0.Log.length], vI r1]) ∧ Fit z (sepL (ro3 car0_1 ccr0_2 r0.Holders :: rn31 car0_3 ccr0_4 r0.Reads :: ro2 car0_5 ccr0_6 r0.Marks :: ro96 car0_7 r0.Log.length r0.Log :: L)) w := by
 unfold frames_Play at H
 refine enter Try.func43 rfl 147 rfl rfl [(0, .slice va0 p0.length vc0), (1, .slice va1 p1.length vc1)] ⟨rfl, rfl, trivial⟩ ?_
 intro j a hr
 refine sr ?_
 refine onew (wn rfl) hr h nb (#[vB false, vI 0, .slice none 0 0, .slice none 0 0, .slice none 0 0, .slice none 0 0]) 86 fun b1 w a h hr => ?_
 refine o1 hr (vI 0) fun a hr => ?_
 refine ln ?_
 obtain ⟨o3, H, hK2⟩ := jd0 H
 refine cut_rule (β := Unit) (fun _ a w => .inl () = o3 ∧ ∃ j, Rep 147 (lk [(0, .slice va0 p0.length vc0), (1, .slice va1 p1.length vc1), (4, pA b1 0)] j) a ∧ Fit z (sepL (pts b1 (.cells #[vB false, vI 0, .slice none 0 0, .slice none 0 0, .slice none 0 0, .slice none 0 0] 86) :: L)) w) ?_ ?_
 ·
  refine sr ?_
  refine oo [14, 15, 16, 17] [.slice va0 p0.length vc0, vI ((p0.length : Nat) : Int), vB (decide (((p0.length : Nat) : Int) > 64)), vB (decide (((p0.length : Nat) : Int) > 64))] hr fun a hr => ?_
  by_cases c4 : ((p0.length : Nat) : Int) > 64
  ·
   replace H := ifT c4 H
   refine offg (wgt hr (decide_eq_true c4)) hr fun a hr => ?_
   refine offg (wgt hr (decide_eq_true c4)) hr fun a hr => ?_
   refine offg (wgt hr (decide_eq_true c4)) hr fun a hr => ?_
   refine opv (wn rfl) hr (vB true) (rp_t (b := (decide (((p0.length : Nat) : Int) > 64))) rfl (by kernel_rfl) (decide_eq_true c4) (by kernel_rfl)) fun a hr => ?_
   refine ln ?_
   refine cond_tt hr (b := true) rfl ?_
   refine sr ?_
   refine o1 hr (.agg #[vB false, vI 0, .slice none 0 0, .slice none 0 0, .slice none 0 0, .slice none 0 0]) fun a hr => ?_
   refine stos (wn rfl) hr h 0 ([vB false, vI 0, .slice none 0 0, .slice none 0 0, .slice none 0 0, .slice none 0 0]) (#[vB false, vI 0, .slice none 0 0, .slice none 0 0, .slice none 0 0, .slice none 0 0]) fun w h => ?_
   refine o1 hr (vI 2) fun a hr => ?_
   refine wpList_nil ?_
   replace h : Fit z (sepL (pts b1 (.cells #[vB false, vI 0, .slice none 0 0, .slice none 0 0, .slice none 0 0, .slice none 0 0] 86) :: L)) _ := h
   refine then_normal ?_
   refine wp_ret ?_
   refine then_ret ?_
   refine end_retCT (cs := [vB false, vI 0, .slice none 0 0, .slice none 0 0, .slice none 0 0, .slice none 0 0]) (v := vI 2) rfl hr (by kernel_rfl) (by kernel_rfl) (by kernel_rfl) (by kernel_rfl) (h.held 0 rfl) ?_
   replace h : Fit z (sepL (rowOf 3 1 encZ_i64 (.slice none 0 0) ([] : List Int) :: pts b1 (.cells #[vB false, vI 0, .slice none 0 0, .slice none 0 0, .slice none 0 0, .slice none 0 0] 86) :: L)) _ := h.row_nil
   replace h : Fit z (sepL (rowN 31 1 own_sl31 (.slice none 0 0) ([] : List (List Int)) :: rowOf 3 1 encZ_i64 (.slice none 0 0) ([] : List Int) :: pts b1 (.cells #[vB false, vI 0, .slice none 0 0, .slice none 0 0, .slice none 0 0, .slice none 0 0] 86) :: L)) _ := h.rowN_nil
   replace h : Fit z (sepL (rowOf 2 1 encZ_i64 (.slice none 0 0) ([] : List Int) :: rowN 31 1 own_sl31 (.slice none 0 0) ([] : List (List Int)) :: rowOf 3 1 encZ_i64 (.slice none 0 0) ([] : List Int) :: pts b1 (.cells #[vB false, vI 0, .slice none 0 0, .slice none 0 0, .slice none 0 0, .slice none 0 0] 86) :: L)) _ := h.row_nil
   replace h : Fit z (sepL (rowOf 96 6 enc_T_api_Access (.slice none 0 0) ([] : List T_api_Access) :: rowOf 2 1 encZ_i64 (.slice none 0 0) ([] : List Int) :: rowN 31 1 own_sl31 (.slice none 0 0) ([] : List (List Int)) :: rowOf 3 1 encZ_i64 (.slice none 0 0) ([] : List Int) :: pts b1 (.cells #[vB false, vI 0, .slice none 0 0, .slice none 0 0, .slice none 0 0, .slice none 0 0] 86) :: L)) _ := h.row_nil
   replace H := jx0 H hK2
   replace h : Fit z (sepL (rowOf 3 1 encZ_i64 (.slice none 0 0) ([] : List Int) :: rowN 31 1 own_sl31 (.slice none 0 0) ([] : List (List Int)) :: rowOf 2 1 encZ_i64 (.slice none 0 0) ([] : List Int) :: rowOf 96 6 enc_T_api_Access (.slice none 0 0) ([] : List T_api_Access) :: L)) _ := h.sel 5 [3, 2, 1, 0] (by kernel_rfl) (by kernel_rfl)
   obtain ⟨rfl, rfl⟩ := ej2 H
   exact ⟨none, 0, none, 0, none, 0, none, rfl, h⟩
  ·
   replace H := ifF c4 H
   refine opv (wgt hr (decide_eq_false c4)) hr (.slice va1 p1.length vc1) (by kernel_rfl) fun a hr => ?_
   refine opv (wgt hr (decide_eq_false c4)) hr (vI ((p1.length : Nat) : Int)) (by kernel_rfl) fun a hr => ?_
   refine opv (wgt hr (decide_eq_false c4)) hr (vB (decide (((p1.length : Nat) : Int) > 1048576))) (by kernel_rfl) fun a hr => ?_
   refine opv (wn rfl) hr (vB (decide (((p1.length : Nat) : Int) > 1048576))) (rp_f (b := (decide (((p0.length : Nat) : Int) > 64))) rfl (by kernel_rfl) (decide_eq_false c4) (by kernel_rfl)) fun a hr => ?_
   refine ln ?_
   by_cases c5 : ((p1.length : Nat) : Int) > 1048576
   ·
    replace H := ifT c5 H
    refine cond_tt hr (decide_eq_true c5) ?_
    refine sr ?_
    refine o1 hr (.agg #[vB false, vI 0, .slice none 0 0, .slice none 0 0, .slice none 0 0, .slice none 0 0]) fun a hr => ?_
    refine stos (wn rfl) hr h 0 ([vB false, vI 0, .slice none 0 0, .slice none 0 0, .slice none 0 0, .slice none 0 0]) (#[vB false, vI 0, .slice none 0 0, .slice none 0 0, .slice none 0 0, .slice none 0 0]) fun w h => ?_
    refine o1 hr (vI 2) fun a hr => ?_
    refine wpList_nil ?_
    replace h : Fit z (sepL (pts b1 (.cells #[vB false, vI 0, .slice none 0 0, .slice none 0 0, .slice none 0 0, .slice none 0 0] 86) :: L)) _ := h
    refine then_normal ?_
    refine wp_ret ?_
    refine then_ret ?_
    refine end_retCT (cs := [vB false, vI 0, .slice none 0 0, .slice none 0 0, .slice none 0 0, .slice none 0 0]) (v := vI 2) rfl hr (by kernel_rfl) (by kernel_rfl) (by kernel_rfl) (by kernel_rfl) (h.held 0 rfl) ?_
    replace h : Fit z (sepL (rowOf 3 1 encZ_i64 (.slice none 0 0) ([] : List Int) :: pts b1 (.cells #[vB false, vI 0, .slice none 0 0, .slice none 0 0, .slice none 0 0, .slice none 0 0] 86) :: L)) _ := h.row_nil
    replace h : Fit z (sepL (rowN 31 1 own_sl31 (.slice none 0 0) ([] : List (List Int)) :: rowOf 3 1 encZ_i64 (.slice none 0 0) ([] : List Int) :: pts b1 (.cells #[vB false, vI 0, .slice none 0 0, .slice none 0 0, .slice none 0 0, .slice none 0 0] 86) :: L)) _ := h.rowN_nil
    replace h : Fit z (sepL (rowOf 2 1 encZ_i64 (.slice none 0 0) ([] : List Int) :: rowN 31 1 own_sl31 (.slice none 0 0) ([] : List (List Int)) :: rowOf 3 1 encZ_i64 (.slice none 0 0) ([] : List Int) :: pts b1 (.cells #[vB false, vI 0, .slice none 0 0, .slice none 0 0, .slice none 0 0, .slice none 0 0] 86) :: L)) _ := h.row_nil
    replace h : Fit z (sepL (rowOf 96 6 enc_T_api_Access (.slice none 0 0) ([] : List T_api_Access) :: rowOf 2 1 encZ_i64 (.slice none 0 0) ([] : List Int) :: rowN 31 1 own_sl31 (.slice none 0 0) ([] : List (List Int)) :: rowOf 3 1 encZ_i64 (.slice none 0 0) ([] : List Int) :: pts b1 (.cells #[vB false, vI 0, .slice none 0 0, .slice none 0 0, .slice none 0 0, .slice none 0 0] 86) :: L)) _ := h.row_nil
    replace H := jx0 H hK2
    replace h : Fit z (sepL (rowOf 3 1 encZ_i64 (.slice none 0 0) ([] : List Int) :: rowN 31 1 own_sl31 (.slice none 0 0) ([] : List (List Int)) :: rowOf 2 1 encZ_i64 (.slice none 0 0) ([] : List Int) :: rowOf 96 6 enc_T_api_Access (.slice none 0 0) ([] : List T_api_Access) :: L)) _ := h.sel 5 [3, 2, 1, 0] (by kernel_rfl) (by kernel_rfl)
    obtain ⟨rfl, rfl⟩ := ej2 H
    exact ⟨none, 0, none, 0, none, 0, none, rfl, h⟩
   ·
    replace H := ifF c5 H
    refine cond_ff hr (decide_eq_false c5) ?_
    refine wp_skip ?_
    refine then_normal ?_
    replace hr := hr.fold2 [(0, .slice va0 p0.length vc0), (1, .slice va1 p1.length vc1), (4, pA b1 0)] (by kernel_rfl); obtain ⟨j, hr⟩ := hr
    exact ⟨(), sinj H, j, hr, h⟩
 clear h hr a; rintro _ a w ⟨rfl, j, hr, h⟩
 replace H := jk0 hK2
 refine sr ?_
 refine o1 hr (vI 1) fun a hr => ?_
 refine ln ?_
 obtain ⟨o8, H, hK7⟩ := jd1 H
 refine cut_rule (β := Unit) (fun _ a w => ∃ g6 : Int, .inl g6 = o8 ∧ ∃ j, Rep 147 (lk [(0, .slice va0 p0.length vc0), (1, .slice va1 p1.length vc1), (4, pA b1 0), (6, vI g6)] j) a ∧ Fit z (sepL (pts b1 (.cells #[vB false, vI 0, .slice none 0 0, .slice none 0 0, .slice none 0 0, .slice none 0 0] 86) :: L)) w) ?_ ?_
 ·
  refine sr ?_
  refine oo [23, 24, 25] [.slice va0 p0.length vc0, vI ((p0.length : Nat) : Int), vI 0] hr fun a hr => ?_
  refine ln ?_
  refine wp_block ?_
  replace hr := hr.fold2 [(0, .slice va0 p0.length vc0), (1, .slice va1 p1.length vc1), (4, pA b1 0), (6, vI 1), (23, .slice va0 p0.length vc0), (24, vI ((p0.length : Nat) : Int)), (25, vI 0)] (by kernel_rfl); obtain ⟨j, hr⟩ := hr
  refine loop_rule (β := Nat) id (fun m a w => ∃ g9 : Int, ∃ g10 : Int, (frames_Play_l1 K p0 m g9 g10) = some o8 ∧ ∃ j, Rep 147 (lk [(0, .slice va0 p0.length vc0), (1, .slice va1 p1.length vc1), (4, pA b1 0), (6, vI g9), (23, .slice va0 p0.length vc0), (24, vI ((p0.length : Nat) : Int)), (25, vI g10)] j) a ∧ Fit z (sepL (pts b1 (.cells #[vB false, vI 0, .slice none 0 0, .slice none 0 0, .slice none 0 0, .slice none 0 0] 86) :: L)) w) K ⟨1, 0, H, j, hr, h⟩ ?_
  clear h hr a H; rintro k1 a w ⟨g9, g10, H, j, hr, h⟩
  cases k1 with
  | zero => exact absurd H (by simp [frames_Play_l1])
  | succ k1 =>
   rw [frames_Play_l1] at H
   refine sr ?_
   refine o1 hr (vB (decide (g10 < ((p0.length : Nat) : Int)))) fun a hr => ?_
   refine ln ?_
   refine wp_seq ?_
   by_cases c11 : g10 < ((p0.length : Nat) : Int)
   ·
    replace H := ifT c11 H
    refine cond_tt hr (decide_eq_true c11) ?_
    refine wp_skip ?_
    refine then_normal ?_
    refine wp_seq ?_
    refine wp_block ?_
    refine sr ?_
    obtain ⟨c12, H⟩ := gd H
    refine opv (wn rfl) hr (pA (blk va0) (offs va0 + g10.toNat * 1)) (ri_rd (k := .i64) (E := 3) (cc := vc0) rfl (by kernel_rfl) (by kernel_rfl) rfl (by kernel_rfl) (by kernel_rfl) hv0 c12) fun a hr => ?_
    refine ld (wn rfl) hr (vI (at_ p0 g10.toNat)) (hv0.cell c12 (h.dn 1) 0 rfl) fun a hr => ?_
    refine o1 hr (vI (at_ p0 g10.toNat)) fun a hr => ?_
    refine ln ?_
    refine wp_seq ?_
    refine sr ?_
    refine oo [29, 30, 31] [vI (at_ p0 g10.toNat), vB (decide ((at_ p0 g10.toNat) < 0)), vB (decide ((at_ p0 g10.toNat) < 0))] hr fun a hr => ?_
    by_cases c13 : (at_ p0 g10.toNat) < 0
    ·
     replace H := ifT c13 H
     refine offg (wgt hr (decide_eq_true c13)) hr fun a hr => ?_
     refine offg (wgt hr (decide_eq_true c13)) hr fun a hr => ?_
     refine opv (wn rfl) hr (vB true) (rp_t (b := (decide ((at_ p0 g10.toNat) < 0))) rfl (by kernel_rfl) (decide_eq_true c13) (by kernel_rfl)) fun a hr => ?_
     refine ln ?_
     refine cond_tt hr (b := true) rfl ?_
     refine sr ?_
     refine o1 hr (.agg #[vB false, vI 0, .slice none 0 0, .slice none 0 0, .slice none 0 0, .slice none 0 0]) fun a hr => ?_
     refine stos (wn rfl) hr h 0 ([vB false, vI 0, .slice none 0 0, .slice none 0 0, .slice none 0 0, .slice none 0 0]) (#[vB false, vI 0, .slice none 0 0, .slice none 0 0, .slice none 0 0, .slice none 0 0]) fun w h => ?_
     refine o1 hr (vI 80) fun a hr => ?_
     refine wpList_nil ?_
     replace h : Fit z (sepL (pts b1 (.cells #[vB false, vI 0, .slice none 0 0, .slice none 0 0, .slice none 0 0, .slice none 0 0] 86) :: L)) _ := h
     refine then_normal ?_
     refine wp_ret ?_
     refine then_ret ?_
     refine blk_ret ?_
     refine then_ret ?_
     refine then_ret ?_
     refine blk_ret ?_
     refine then_ret ?_
     refine end_retCT (cs := [vB false, vI 0, .slice none 0 0, .slice none 0 0, .slice none 0 0, .slice none 0 0]) (v := vI 80) rfl hr (by kernel_rfl) (by kernel_rfl) (by kernel_rfl) (by kernel_rfl) (h.held 0 rfl) ?_
     replace h : Fit z (sepL (rowOf 3 1 encZ_i64 (.slice none 0 0) ([] : List Int) :: pts b1 (.cells #[vB false, vI 0, .slice none 0 0, .slice none 0 0, .slice none 0 0, .slice none 0 0] 86) :: L)) _ := h.row_nil
     replace h : Fit z (sepL (rowN 31 1 own_sl31 (.slice none 0 0) ([] : List (List Int)) :: rowOf 3 1 encZ_i64 (.slice none 0 0) ([] : List Int) :: pts b1 (.cells #[vB false, vI 0, .slice none 0 0, .slice none 0 0, .slice none 0 0, .slice none 0 0] 86) :: L)) _ := h.rowN_nil
     replace h : Fit z (sepL (rowOf 2 1 encZ_i64 (.slice none 0 0) ([] : List Int) :: rowN 31 1 own_sl31 (.slice none 0 0) ([] : List (List Int)) :: rowOf 3 1 encZ_i64 (.slice none 0 0) ([] : List Int) :: pts b1 (.cells #[vB false, vI 0, .slice none 0 0, .slice none 0 0, .slice none 0 0, .slice none 0 0] 86) :: L)) _ := h.row_nil
     replace h : Fit z (sepL (rowOf 96 6 enc_T_api_Access (.slice none 0 0) ([] : List T_api_Access) :: rowOf 2 1 encZ_i64 (.slice none 0 0) ([] : List Int) :: rowN 31 1 own_sl31 (.slice none 0 0) ([] : List (List Int)) :: rowOf 3 1 encZ_i64 (.slice none 0 0) ([] : List Int) :: pts b1 (.cells #[vB false, vI 0, .slice none 0 0, .slice none 0 0, .slice none 0 0, .slice none 0 0] 86) :: L)) _ := h.row_nil
     replace H := jx1 H hK7
     replace h : Fit z (sepL (rowOf 3 1 encZ_i64 (.slice none 0 0) ([] : List Int) :: rowN 31 1 own_sl31 (.slice none 0 0) ([] : List (List Int)) :: rowOf 2 1 encZ_i64 (.slice none 0 0) ([] : List Int) :: rowOf 96 6 enc_T_api_Access (.slice none 0 0) ([] : List T_api_Access) :: L)) _ := h.sel 5 [3, 2, 1, 0] (by kernel_rfl) (by kernel_rfl)
     obtain ⟨rfl, rfl⟩ := ej2 H
     exact ⟨none, 0, none, 0, none, 0, none, rfl, h⟩
    ·
     replace H := ifF c13 H
     refine opv (wgt hr (decide_eq_false c13)) hr (vI (at_ p0 g10.toNat)) (by kernel_rfl) fun a hr => ?_
     refine opv (wgt hr (decide_eq_false c13)) hr (vB (decide ((at_ p0 g10.toNat) > 8))) (by kernel_rfl) fun a hr => ?_
     refine opv (wn rfl) hr (vB (decide ((at_ p0 g10.toNat) > 8))) (rp_f (b := (decide ((at_ p0 g10.toNat) < 0))) rfl (by kernel_rfl) (decide_eq_false c13) (by kernel_rfl)) fun a hr => ?_
     refine ln ?_
     by_cases c14 : (at_ p0 g10.toNat) > 8
     ·
      replace H := ifT c14 H
      refine cond_tt hr (decide_eq_true c14) ?_
      refine sr ?_
      refine o1 hr (.agg #[vB false, vI 0, .slice none 0 0, .slice none 0 0, .slice none 0 0, .slice none 0 0]) fun a hr => ?_
      refine stos (wn rfl) hr h 0 ([vB false, vI 0, .slice none 0 0, .slice none 0 0, .slice none 0 0, .slice none 0 0]) (#[vB false, vI 0, .slice none 0 0, .slice none 0 0, .slice none 0 0, .slice none 0 0]) fun w h => ?_
      refine o1 hr (vI 80) fun a hr => ?_
      refine wpList_nil ?_
      replace h : Fit z (sepL (pts b1 (.cells #[vB false, vI 0, .slice none 0 0, .slice none 0 0, .slice none 0 0, .slice none 0 0] 86) :: L)) _ := h
      refine then_normal ?_
      refine wp_ret ?_
      refine then_ret ?_
      refine blk_ret ?_
      refine then_ret ?_
      refine then_ret ?_
      refine blk_ret ?_
      refine then_ret ?_
      refine end_retCT (cs := [vB false, vI 0, .slice none 0 0, .slice none 0 0, .slice none 0 0, .slice none 0 0]) (v := vI 80) rfl hr (by kernel_rfl) (by kernel_rfl) (by kernel_rfl) (by kernel_rfl) (h.held 0 rfl) ?_
      replace h : Fit z (sepL (rowOf 3 1 encZ_i64 (.slice none 0 0) ([] : List Int) :: pts b1 (.cells #[vB false, vI 0, .slice none 0 0, .slice none 0 0, .slice none 0 0, .slice none 0 0] 86) :: L)) _ := h.row_nil
      replace h : Fit z (sepL (rowN 31 1 own_sl31 (.slice none 0 0) ([] : List (List Int)) :: rowOf 3 1 encZ_i64 (.slice none 0 0) ([] : List Int) :: pts b1 (.cells #[vB false, vI 0, .slice none 0 0, .slice none 0 0, .slice none 0 0, .slice none 0 0] 86) :: L)) _ := h.rowN_nil
      replace h : Fit z (sepL (rowOf 2 1 encZ_i64 (.slice none 0 0) ([] : List Int) :: rowN 31 1 own_sl31 (.slice none 0 0) ([] : List (List Int)) :: rowOf 3 1 encZ_i64 (.slice none 0 0) ([] : List Int) :: pts b1 (.cells #[vB false, vI 0, .slice none 0 0, .slice none 0 0, .slice none 0 0, .slice none 0 0] 86) :: L)) _ := h.row_nil
      replace h : Fit z (sepL (rowOf 96 6 enc_T_api_Access (.slice none 0 0) ([] : List T_api_Access) :: rowOf 2 1 encZ_i64 (.slice none 0 0) ([] : List Int) :: rowN 31 1 own_sl31 (.slice none 0 0) ([] : List (List Int)) :: rowOf 3 1 encZ_i64 (.slice none 0 0) ([] : List Int) :: pts b1 (.cells #[vB false, vI 0, .slice none 0 0, .slice none 0 0, .slice none 0 0, .slice none 0 0] 86) :: L)) _ := h.row_nil
      replace H := jx1 H hK7
      replace h : Fit z (sepL (rowOf 3 1 encZ_i64 (.slice none 0 0) ([] : List Int) :: rowN 31 1 own_sl31 (.slice none 0 0) ([] : List (List Int)) :: rowOf 2 1 encZ_i64 (.slice none 0 0) ([] : List Int) :: rowOf 96 6 enc_T_api_Access (.slice none 0 0) ([] : List T_api_Access) :: L)) _ := h.sel 5 [3, 2, 1, 0] (by kernel_rfl) (by kernel_rfl)
      obtain ⟨rfl, rfl⟩ := ej2 H
      exact ⟨none, 0, none, 0, none, 0, none, rfl, h⟩
     ·
      replace H := ifF c14 H
      refine cond_ff hr (decide_eq_false c14) ?_
      refine wp_skip ?_
      refine then_normal ?_
      refine wp_region_lit ?_
      refine oo [36, 37, 38, 6] [vI g9, vI (at_ p0 g10.toNat), vI (wi (g9 + (at_ p0 g10.toNat))), vI (wi (g9 + (at_ p0 g10.toNat)))] hr fun a hr => ?_
      refine wpList_nil ?_
      refine blk_normal ?_
      refine then_normal ?_
      refine wp_region_lit ?_
      refine oo [39, 25] [vI (wi (g10 + 1)), vI (wi (g10 + 1))] hr fun a hr => ?_
      refine ln ?_
      replace hr := hr.fold2 [(0, .slice va0 p0.length vc0), (1, .slice va1 p1.length vc1), (4, pA b1 0), (6, vI (wi (g9 + (at_ p0 g10.toNat)))), (23, .slice va0 p0.length vc0), (24, vI ((p0.length : Nat) : Int)), (25, vI (wi (g10 + 1)))] (by kernel_rfl); obtain ⟨j, hr⟩ := hr
      exact ⟨_, ⟨(wi (g9 + (at_ p0 g10.toNat))), (wi (g10 + 1)), H, j, hr, h⟩, Nat.lt_succ_self _⟩
   ·
    replace H := ifF c11 H
    refine cond_ff hr (decide_eq_false c11) ?_
    refine wp_exit ?_
    refine then_exit ?_
    refine then_exit ?_
    refine blk_here ?_
    refine then_normal ?_
    replace hr := hr.fold2 [(0, .slice va0 p0.length vc0), (1, .slice va1 p1.length vc1), (4, pA b1 0), (6, vI g9)] (by kernel_rfl); obtain ⟨j, hr⟩ := hr
    exact ⟨(), g9, sinj H, j, hr, h⟩
 clear h hr a; rintro _ a w ⟨g6, rfl, j, hr, h⟩
 replace H := jk1 hK7
 refine sr ?_
 refine oo [40, 41] [.slice va0 p0.length vc0, .agg #[pN, vI 0, vI 0, .slice va0 p0.length vc0, vI 0, .slice none 0 0, vI 0, vI 0, vB false, vI 0, .slice none 0 0, .slice none 0 0, .slice none 0 0, .slice none 0 0]] hr fun a hr => ?_
 refine onew (wn rfl) hr h nb (#[pN, vI 0, vI 0, .slice va0 p0.length vc0, vI 0, .slice none 0 0, vI 0, vI 0, vB false, vI 0, .slice none 0 0, .slice none 0 0, .slice none 0 0, .slice none 0 0]) 133 fun b15 w a h hr => ?_
 refine o1 hr (pA b15 0) fun a hr => ?_
 refine ln ?_
 refine sr ?_
 obtain ⟨r16, e17, H⟩ := bd1 H
 refine oo [44, 45] [pA b15 0, vI g6] hr fun a hr => ?_
 have hc := frames_Cells_ok (H := e17) (h := h)
 refine cl (wn rfl) hr hc ?_; clear hc h
 rintro _ w ⟨rfl, h⟩; refine ⟨_, rfl, fun a hr => ?_⟩
 obtain ⟨r18, r19, e20, H⟩ := bd2 H
 cases r18 with
 | some S21 =>
  have hc := cells_New_ok0 (H := e20) (h := h)
  refine cl (wn rfl) hr hc ?_; clear hc h
  rintro _ w ⟨Bn22, car23, ccr24, car25, ccr26, rfl, h⟩; refine ⟨_, rfl, fun a hr => ?_⟩
  refine oo [43, 48, 49, 50, 51] [.tuple #[pA Bn22 0, vI r19], pA Bn22 0, vI r19, pA b15 0, pA b15 0] hr fun a hr => ?_
  replace h : Fit z (sepL (pts b15 (.cells #[pN, vI 0, vI 0, .slice va0 p0.length vc0, vI 0, .slice none 0 0, vI 0, vI 0, vB false, vI 0, .slice none 0 0, .slice none 0 0, .slice none 0 0, .slice none 0 0] 133) :: ob103 Bn22 S21 car23 ccr24 car25 ccr26 :: ro2 car23 ccr24 S21.cell :: ro96 car25 ccr26 S21.log :: pts b1 (.cells #[vB false, vI 0, .slice none 0 0, .slice none 0 0, .slice none 0 0, .slice none 0 0] 86) :: L)) _ := h.sel 5 [3, 0, 1, 2, 4] (by kernel_rfl) (by kernel_rfl)
  refine sto (wn rfl) hr h 0 (pA Bn22 0) fun w h => ?_
  refine wpList_nil ?_
  replace h : Fit z (sepL (pts b15 (.cells #[pA Bn22 0, vI 0, vI 0, .slice va0 p0.length vc0, vI 0, .slice none 0 0, vI 0, vI 0, vB false, vI 0, .slice none 0 0, .slice none 0 0, .slice none 0 0, .slice none 0 0] 133) :: ob103 Bn22 S21 car23 ccr24 car25 ccr26 :: ro2 car23 ccr24 S21.cell :: ro96 car25 ccr26 S21.log :: pts b1 (.cells #[vB false, vI 0, .slice none 0 0, .slice none 0 0, .slice none 0 0, .slice none 0 0] 86) :: L)) _ := h
  refine then_normal ?_
  refine sr ?_
  refine oo [53, 54, 55, 56] [pA b15 0, pA b15 0, pA b15 0, pA b15 0] hr fun a hr => ?_
  refine ld (wn rfl) hr (pA Bn22 0) (h.cell 0 rfl) fun a hr => ?_
  obtain ⟨r27, r28, S29, e30, H⟩ := bd3 H
  refine oo [58, 59] [.iface 26 (pA Bn22 0), vI g6] hr fun a hr => ?_
  replace h : Fit z (sepL (ob103 Bn22 S21 car23 ccr24 car25 ccr26 :: ro2 car23 ccr24 S21.cell :: ro96 car25 ccr26 S21.log :: pts b15 (.cells #[pA Bn22 0, vI 0, vI 0, .slice va0 p0.length vc0, vI 0, .slice none 0 0, vI 0, vI 0, vB false, vI 0, .slice none 0 0, .slice none 0 0, .slice none 0 0, .slice none 0 0] 133) :: pts b1 (.cells #[vB false, vI 0, .slice none 0 0, .slice none 0 0, .slice none 0 0, .slice none 0 0] 86) :: L)) _ := h.sel 5 [1, 2, 3, 0, 4] (by kernel_rfl) (by kernel_rfl)
  have hc := frames_New_iface_ok (H := e30) (h := h)
  refine cl (wn rfl) hr hc ?_; clear hc h
  rintro _ w ⟨caq31, ccq32, caq33, ccq34, rfl, h⟩; refine ⟨_, rfl, fun a hr => ?_⟩
  refine oo [52, 61, 62, 63, 64] [.tuple #[ag_T_frames_Table r27, vI r28], ag_T_frames_Table r27, vI r28, pA b15 0, pA b15 1] hr fun a hr => ?_
  replace h : Fit z (sepL (pts b15 (.cells #[pA Bn22 0, vI 0, vI 0, .slice va0 p0.length vc0, vI 0, .slice none 0 0, vI 0, vI 0, vB false, vI 0, .slice none 0 0, .slice none 0 0, .slice none 0 0, .slice none 0 0] 133) :: ob103 Bn22 S29 caq31 ccq32 caq33 ccq34 :: ro2 caq31 ccq32 S29.cell :: ro96 caq33 ccq34 S29.log :: pts b1 (.cells #[vB false, vI 0, .slice none 0 0, .slice none 0 0, .slice none 0 0, .slice none 0 0] 86) :: L)) _ := h.sel 5 [3, 0, 1, 2, 4] (by kernel_rfl) (by kernel_rfl)
  refine stos (wn rfl) hr h 1 (cl_T_frames_Table r27) (#[pA Bn22 0, vI r27.Base, vI r27.Frames, .slice va0 p0.length vc0, vI 0, .slice none 0 0, vI 0, vI 0, vB false, vI 0, .slice none 0 0, .slice none 0 0, .slice none 0 0, .slice none 0 0]) fun w h => ?_
  refine wpList_nil ?_
  replace h : Fit z (sepL (pts b15 (.cells #[pA Bn22 0, vI r27.Base, vI r27.Frames, .slice va0 p0.length vc0, vI 0, .slice none 0 0, vI 0, vI 0, vB false, vI 0, .slice none 0 0, .slice none 0 0, .slice none 0 0, .slice none 0 0] 133) :: ob103 Bn22 S29 caq31 ccq32 caq33 ccq34 :: ro2 caq31 ccq32 S29.cell :: ro96 caq33 ccq34 S29.log :: pts b1 (.cells #[vB false, vI 0, .slice none 0 0, .slice none 0 0, .slice none 0 0, .slice none 0 0] 86) :: L)) _ := h
  refine then_normal ?_
  refine sr ?_
  refine oo [65, 66, 67] [pA b15 0, pA b15 0, pA b15 0] hr fun a hr => ?_
  refine ld (wn rfl) hr (pA Bn22 0) (h.cell 0 rfl) fun a hr => ?_
  obtain ⟨S35, e36, H⟩ := bd1 H
  replace h : Fit z (sepL (ob103 Bn22 S29 caq31 ccq32 caq33 ccq34 :: ro2 caq31 ccq32 S29.cell :: ro96 caq33 ccq34 S29.log :: pts b15 (.cells #[pA Bn22 0, vI r27.Base, vI r27.Frames, .slice va0 p0.length vc0, vI 0, .slice none 0 0, vI 0, vI 0, vB false, vI 0, .slice none 0 0, .slice none 0 0, .slice none 0 0, .slice none 0 0] 133) :: pts b1 (.cells #[vB false, vI 0, .slice none 0 0, .slice none 0 0, .slice none 0 0, .slice none 0 0] 86) :: L)) _ := h.sel 5 [1, 2, 3, 0, 4] (by kernel_rfl) (by kernel_rfl)
  have hc := cells_Arena_Watch_ok (H := e36) (h := h)
  refine cl (wn rfl) hr hc ?_; clear hc h
  rintro _ w ⟨caq37, ccq38, caq39, ccq40, rfl, h⟩; refine ⟨_, rfl, fun a hr => ?_⟩
  refine ln ?_
  refine sr ?_
  refine oo [70, 71] [pA b15 0, .agg #[vI 0, vI 0, vI 0, vI 0, vI 0, vI 0, vI 0, vI 0, vI 0, vI 0, vI 0, vB false, vI 0, vI 0, vI 0, vI 0, vB false]] hr fun a hr => ?_
  refine onew (wn rfl) hr h nb (#[vI 0, vI 0, vI 0, vI 0, vI 0, vI 0, vI 0, vI 0, vI 0, vI 0, vI 0, vB false, vI 0, vI 0, vI 0, vI 0, vB false]) 137 fun b41 w a h hr => ?_
  replace h : Fit z (sepL (rowN 135 1 own_ptr135 (.slice none 0 0) ([] : List T_frames_actor) :: pts b41 (.cells #[vI 0, vI 0, vI 0, vI 0, vI 0, vI 0, vI 0, vI 0, vI 0, vI 0, vI 0, vB false, vI 0, vI 0, vI 0, vI 0, vB false] 137) :: ob103 Bn22 S35 caq37 ccq38 caq39 ccq40 :: ro2 caq37 ccq38 S35.cell :: ro96 caq39 ccq40 S35.log :: pts b15 (.cells #[pA Bn22 0, vI r27.Base, vI r27.Frames, .slice va0 p0.length vc0, vI 0, .slice none 0 0, vI 0, vI 0, vB false, vI 0, .slice none 0 0, .slice none 0 0, .slice none 0 0, .slice none 0 0] 133) :: pts b1 (.cells #[vB false, vI 0, .slice none 0 0, .slice none 0 0, .slice none 0 0, .slice none 0 0] 86) :: L)) _ := h.rowN_nil
  replace h : Fit z (sepL (rowOf 3 1 encZ_i64 (.slice none 0 0) ([] : List Int) :: rowN 135 1 own_ptr135 (.slice none 0 0) ([] : List T_frames_actor) :: pts b41 (.cells #[vI 0, vI 0, vI 0, vI 0, vI 0, vI 0, vI 0, vI 0, vI 0, vI 0, vI 0, vB false, vI 0, vI 0, vI 0, vI 0, vB false] 137) :: ob103 Bn22 S35 caq37 ccq38 caq39 ccq40 :: ro2 caq37 ccq38 S35.cell :: ro96 caq39 ccq40 S35.log :: pts b15 (.cells #[pA Bn22 0, vI r27.Base, vI r27.Frames, .slice va0 p0.length vc0, vI 0, .slice none 0 0, vI 0, vI 0, vB false, vI 0, .slice none 0 0, .slice none 0 0, .slice none 0 0, .slice none 0 0] 133) :: pts b1 (.cells #[vB false, vI 0, .slice none 0 0, .slice none 0 0, .slice none 0 0, .slice none 0 0] 86) :: L)) _ := h.row_nil
  replace h : Fit z (sepL (rowN 31 1 own_sl31 (.slice none 0 0) ([] : List (List Int)) :: rowOf 3 1 encZ_i64 (.slice none 0 0) ([] : List Int) :: rowN 135 1 own_ptr135 (.slice none 0 0) ([] : List T_frames_actor) :: pts b41 (.cells #[vI 0, vI 0, vI 0, vI 0, vI 0, vI 0, vI 0, vI 0, vI 0, vI 0, vI 0, vB false, vI 0, vI 0, vI 0, vI 0, vB false] 137) :: ob103 Bn22 S35 caq37 ccq38 caq39 ccq40 :: ro2 caq37 ccq38 S35.cell :: ro96 caq39 ccq40 S35.log :: pts b15 (.cells #[pA Bn22 0, vI r27.Base, vI r27.Frames, .slice va0 p0.length vc0, vI 0, .slice none 0 0, vI 0, vI 0, vB false, vI 0, .slice none 0 0, .slice none 0 0, .slice none 0 0, .slice none 0 0] 133) :: pts b1 (.cells #[vB false, vI 0, .slice none 0 0, .slice none 0 0, .slice none 0 0, .slice none 0 0] 86) :: L)) _ := h.rowN_nil
  replace h : Fit z (sepL (rowOf 2 1 encZ_i64 (.slice none 0 0) ([] : List Int) :: rowN 31 1 own_sl31 (.slice none 0 0) ([] : List (List Int)) :: rowOf 3 1 encZ_i64 (.slice none 0 0) ([] : List Int) :: rowN 135 1 own_ptr135 (.slice none 0 0) ([] : List T_frames_actor) :: pts b41 (.cells #[vI 0, vI 0, vI 0, vI 0, vI 0, vI 0, vI 0, vI 0, vI 0, vI 0, vI 0, vB false, vI 0, vI 0, vI 0, vI 0, vB false] 137) :: ob103 Bn22 S35 caq37 ccq38 caq39 ccq40 :: ro2 caq37 ccq38 S35.cell :: ro96 caq39 ccq40 S35.log :: pts b15 (.cells #[pA Bn22 0, vI r27.Base, vI r27.Frames, .slice va0 p0.length vc0, vI 0, .slice none 0 0, vI 0, vI 0, vB false, vI 0, .slice none 0 0, .slice none 0 0, .slice none 0 0, .slice none 0 0] 133) :: pts b1 (.cells #[vB false, vI 0, .slice none 0 0, .slice none 0 0, .slice none 0 0, .slice none 0 0] 86) :: L)) _ := h.row_nil
  replace h : Fit z (sepL (rowOf 96 6 enc_T_api_Access (.slice none 0 0) ([] : List T_api_Access) :: rowOf 2 1 encZ_i64 (.slice none 0 0) ([] : List Int) :: rowN 31 1 own_sl31 (.slice none 0 0) ([] : List (List Int)) :: rowOf 3 1 encZ_i64 (.slice none 0 0) ([] : List Int) :: rowN 135 1 own_ptr135 (.slice none 0 0) ([] : List T_frames_actor) :: pts b41 (.cells #[vI 0, vI 0, vI 0, vI 0, vI 0, vI 0, vI 0, vI 0, vI 0, vI 0, vI 0, vB false, vI 0, vI 0, vI 0, vI 0, vB false] 137) :: ob103 Bn22 S35 caq37 ccq38 caq39 ccq40 :: ro2 caq37 ccq38 S35.cell :: ro96 caq39 ccq40 S35.log :: pts b15 (.cells #[pA Bn22 0, vI r27.Base, vI r27.Frames, .slice va0 p0.length vc0, vI 0, .slice none 0 0, vI 0, vI 0, vB false, vI 0, .slice none 0 0, .slice none 0 0, .slice none 0 0, .slice none 0 0] 133) :: pts b1 (.cells #[vB false, vI 0, .slice none 0 0, .slice none 0 0, .slice none 0 0, .slice none 0 0] 86) :: L)) _ := h.row_nil
  obtain ⟨S42, e43, H⟩ := bd1 H
  replace h : Fit z (sepL (pts b15 (.cells #[pA Bn22 0, vI r27.Base, vI r27.Frames, .slice va0 p0.length vc0, vI 0, .slice none 0 0, vI 0, vI 0, vB false, vI 0, .slice none 0 0, .slice none 0 0, .slice none 0 0, .slice none 0 0] 133) :: rowN 135 1 own_ptr135 (.slice none 0 0) ([] : List T_frames_actor) :: rowOf 3 1 encZ_i64 (.slice none 0 0) ([] : List Int) :: rowN 31 1 own_sl31 (.slice none 0 0) ([] : List (List Int)) :: rowOf 2 1 encZ_i64 (.slice none 0 0) ([] : List Int) :: rowOf 96 6 enc_T_api_Access (.slice none 0 0) ([] : List T_api_Access) :: ob103 Bn22 S35 caq37 ccq38 caq39 ccq40 :: ro2 caq37 ccq38 S35.cell :: ro96 caq39 ccq40 S35.log :: pts b41 (.cells #[vI 0, vI 0, vI 0, vI 0, vI 0, vI 0, vI 0, vI 0, vI 0, vI 0, vI 0, vB false, vI 0, vI 0, vI 0, vI 0, vB false] 137) :: pts b1 (.cells #[vB false, vI 0, .slice none 0 0, .slice none 0 0, .slice none 0 0, .slice none 0 0] 86) :: L)) _ := h.sel 11 [9, 4, 3, 2, 1, 0, 6, 7, 8, 5, 10] (by kernel_rfl) (by kernel_rfl)
  have hc := frames_join_join_ok (va0_rounds := va0) (vc0_rounds := vc0) (hv0_rounds := (RdRow.up 1 hv0)) (H := e43) (h := h)
  refine cl (wn rfl) hr hc ?_; clear hc h
  rintro _ w ⟨caq44, ccq45, caq46, ccq47, caq48, ccq49, caq50, ccq51, caq52, ccq53, rfl, h⟩; refine ⟨_, rfl, fun a hr => ?_⟩
  refine ln ?_
  obtain ⟨o71, H, hK70⟩ := kd2 H
  refine cut_rule (β := Unit) (fun _ a w => ∃ ca56 : Option Addr, ∃ cc57 : Nat, ∃ ca58 : Option Addr, ∃ cc59 : Nat, ∃ ca60 : Option Addr, ∃ cc61 : Nat, ∃ ca62 : Option Addr, ∃ cc63 : Nat, ∃ ca64 : Option Addr, ∃ cc65 : Nat, ∃ ca66 : Option Addr, ∃ cc67 : Nat, ∃ ca68 : Option Addr, ∃ cc69 : Nat, ∃ S54 : T_frames_join, ∃ S55 : T_cells_Arena, (S54, S55) = o71 ∧ ∃ j, Rep 147 (lk [(4, pA b1 0), (6, vI g6), (9, pA b15 0)] j) a ∧ Fit z (sepL (pts b1 (.cells #[vB false, vI 0, .slice none 0 0, .slice none 0 0, .slice none 0 0, .slice none 0 0] 86) :: ob133 b15 S54 (pA Bn22 0) (.slice va0 p0.length vc0) ca60 cc61 ca62 cc63 ca64 cc65 ca66 cc67 ca68 cc69 :: ob103 Bn22 S55 ca56 cc57 ca58 cc59 :: ro2 ca56 cc57 S55.cell :: ro96 ca58 cc59 S55.log :: rn135 ca60 cc61 S54.live :: ro3 ca62 cc63 S54.run_Holders :: rn31 ca64 cc65 S54.run_Reads :: ro2 ca66 cc67 S54.run_Marks :: ro96 ca68 cc69 S54.run_Log :: L)) w) ?_ ?_
  ·
   refine sr ?_
   refine oo [74, 75, 76] [.slice va1 p1.length vc1, vI ((p1.length : Nat) : Int), vI 0] hr fun a hr => ?_
   refine ln ?_
   refine wp_block ?_
   replace hr := hr.fold2 [(4, pA b1 0), (6, vI g6), (9, pA b15 0), (74, .slice va1 p1.length vc1), (75, vI ((p1.length : Nat) : Int)), (76, vI 0)] (by kernel_rfl); obtain ⟨j, hr⟩ := hr
   replace h : Fit z (sepL (pts b1 (.cells #[vB false, vI 0, .slice none 0 0, .slice none 0 0, .slice none 0 0, .slice none 0 0] 86) :: ob133 b15 S42 (pA Bn22 0) (.slice va0 p0.length vc0) caq44 ccq45 caq46 ccq47 caq48 ccq49 caq50 ccq51 caq52 ccq53 :: ob103 Bn22 S35 caq37 ccq38 caq39 ccq40 :: ro2 caq37 ccq38 S35.cell :: ro96 caq39 ccq40 S35.log :: rn135 caq44 ccq45 S42.live :: ro3 caq46 ccq47 S42.run_Holders :: rn31 caq48 ccq49 S42.run_Reads :: ro2 caq50 ccq51 S42.run_Marks :: ro96 caq52 ccq53 S42.run_Log :: L)) _ := h.sel 10 [9, 0, 6, 7, 8, 1, 2, 3, 4, 5] (by kernel_rfl) (by kernel_rfl)
   refine loop_rule (β := Nat) id (fun m a w => ∃ ca74 : Option Addr, ∃ cc75 : Nat, ∃ ca76 : Option Addr, ∃ cc77 : Nat, ∃ ca78 : Option Addr, ∃ cc79 : Nat, ∃ ca80 : Option Addr, ∃ cc81 : Nat, ∃ ca82 : Option Addr, ∃ cc83 : Nat, ∃ ca84 : Option Addr, ∃ cc85 : Nat, ∃ ca86 : Option Addr, ∃ cc87 : Nat, ∃ S72 : T_frames_join, ∃ S73 : T_cells_Arena, ∃ g88 : Int, (frames_Play_l2 K p0 p1 m S72 S73 g88) = some o71 ∧ ∃ j, Rep 147 (lk [(4, pA b1 0), (6, vI g6), (9, pA b15 0), (74, .slice va1 p1.length vc1), (75, vI ((p1.length : Nat) : Int)), (76, vI g88)] j) a ∧ Fit z (sepL (pts b1 (.cells #[vB false, vI 0, .slice none 0 0, .slice none 0 0, .slice none 0 0, .slice none 0 0] 86) :: ob133 b15 S72 (pA Bn22 0) (.slice va0 p0.length vc0) ca78 cc79 ca80 cc81 ca82 cc83 ca84 cc85 ca86 cc87 :: ob103 Bn22 S73 ca74 cc75 ca76 cc77 :: ro2 ca74 cc75 S73.cell :: ro96 ca76 cc77 S73.log :: rn135 ca78 cc79 S72.live :: ro3 ca80 cc81 S72.run_Holders :: rn31 ca82 cc83 S72.run_Reads :: ro2 ca84 cc85 S72.run_Marks :: ro96 ca86 cc87 S72.run_Log :: L)) w) K ⟨caq37, ccq38, caq39, ccq40, caq44, ccq45, caq46, ccq47, caq48, ccq49, caq50, ccq51, caq52, ccq53, S42, S35, 0, H, j, hr, h⟩ ?_
   clear h hr a H; rintro k2 a w ⟨ca74, cc75, ca76, cc77, ca78, cc79, ca80, cc81, ca82, cc83, ca84, cc85, ca86, cc87, S72, S73, g88, H, j, hr, h⟩
   cases k2 with
   | zero => exact absurd H (by simp [frames_Play_l2])
   | succ k2 =>
    rw [frames_Play_l2] at H
    refine sr ?_
    refine o1 hr (vB (decide (g88 < ((p1.length : Nat) : Int)))) fun a hr => ?_
    refine ln ?_
    refine wp_seq ?_
    by_cases c89 : g88 < ((p1.length : Nat) : Int)
    ·
     replace H := ifT c89 H
     refine cond_tt hr (decide_eq_true c89) ?_
     refine wp_skip ?_
     refine then_normal ?_
     refine wp_seq ?_
     refine wp_block ?_
     refine sr ?_
     obtain ⟨c90, H⟩ := gd H
     refine opv (wn rfl) hr (pA (blk va1) (offs va1 + g88.toNat * 1)) (ri_rd (k := .i64) (E := 3) (cc := vc1) rfl (by kernel_rfl) (by kernel_rfl) rfl (by kernel_rfl) (by kernel_rfl) hv1 c90) fun a hr => ?_
     refine ld (wn rfl) hr (vI (at_ p1 g88.toNat)) (hv1.cell c90 (h.dn 10) 0 rfl) fun a hr => ?_
     refine o1 hr (vI (at_ p1 g88.toNat)) fun a hr => ?_
     refine ln ?_
     refine wp_seq ?_
     refine sr ?_
     refine oo [80, 81, 82, 83] [pA b15 0, pA b15 0, pA b15 8, pA b15 8] hr fun a hr => ?_
     refine ld (wn rfl) hr (vB S72.run_Done) ((h.pick 1).cell 8 rfl) fun a hr => ?_
     refine ln ?_
     by_cases c91 : S72.run_Done = true
     ·
      replace H := ifT c91 H
      refine cond_tt hr (c91) ?_
      refine wp_exit ?_
      refine then_exit ?_
      refine blk_other (by decide) ?_
      refine then_exit ?_
      refine then_exit ?_
      refine blk_here ?_
      refine then_normal ?_
      replace hr := hr.fold2 [(4, pA b1 0), (6, vI g6), (9, pA b15 0)] (by kernel_rfl); obtain ⟨j, hr⟩ := hr
      exact ⟨(), ca74, cc75, ca76, cc77, ca78, cc79, ca80, cc81, ca82, cc83, ca84, cc85, ca86, cc87, S72, S73, sinj H, j, hr, h⟩
     ·
      replace H := ifF c91 H
      refine cond_ff hr (bF c91) ?_
      refine wp_skip ?_
      refine then_normal ?_
      refine sr ?_
      refine oo [85, 86, 87, 88, 89] [pA b15 0, vI (at_ p1 g88.toNat), pA b15 0, pA b15 0, pA b15 5] hr fun a hr => ?_
      refine ld (wn rfl) hr (.slice ca78 S72.live.length cc79) ((h.pick 1).cell 5 rfl) fun a hr => ?_
      obtain ⟨r92, e93, H⟩ := bd1 H
      refine o1 hr (vI ((S72.live.length : Nat) : Int)) fun a hr => ?_
      have hc := ops_Mod_ok (H := e93) (h := h)
      refine cl (wn rfl) hr hc ?_; clear hc h
      rintro _ w ⟨rfl, h⟩; refine ⟨_, rfl, fun a hr => ?_⟩
      obtain ⟨S94, S95, e96, H⟩ := bd2 H
      replace h : Fit z (sepL (ob133 b15 S72 (pA Bn22 0) (.slice va0 p0.length vc0) ca78 cc79 ca80 cc81 ca82 cc83 ca84 cc85 ca86 cc87 :: rn135 ca78 cc79 S72.live :: ro3 ca80 cc81 S72.run_Holders :: rn31 ca82 cc83 S72.run_Reads :: ro2 ca84 cc85 S72.run_Marks :: ro96 ca86 cc87 S72.run_Log :: ob103 Bn22 S73 ca74 cc75 ca76 cc77 :: ro2 ca74 cc75 S73.cell :: ro96 ca76 cc77 S73.log :: pts b1 (.cells #[vB false, vI 0, .slice none 0 0, .slice none 0 0, .slice none 0 0, .slice none 0 0] 86) :: L)) _ := h.sel 10 [1, 5, 6, 7, 8, 9, 2, 3, 4, 0] (by kernel_rfl) (by kernel_rfl)
      have hc := frames_join_step_ok (va0_rounds := va0) (vc0_rounds := vc0) (hv0_rounds := (RdRow.up 1 hv0)) (H := e96) (h := h)
      refine cl (wn rfl) hr hc ?_; clear hc h
      rintro _ w ⟨caq97, ccq98, caq99, ccq100, caq101, ccq102, caq103, ccq104, caq105, ccq106, caq107, ccq108, caq109, ccq110, rfl, h⟩; refine ⟨_, rfl, fun a hr => ?_⟩
      refine ln ?_
      refine wp_region_lit ?_
      refine oo [94, 95, 96, 97] [pA b15 0, pA b15 0, pA b15 8, pA b15 9] hr fun a hr => ?_
      refine ld (wn rfl) hr (vI S94.run_Steps) (h.cell 9 rfl) fun a hr => ?_
      refine oo [99, 100, 101, 102] [vI (wi (S94.run_Steps + 1)), pA b15 0, pA b15 8, pA b15 9] hr fun a hr => ?_
      refine sto (wn rfl) hr h 9 (vI (wi (S94.run_Steps + 1))) fun w h => ?_
      refine wpList_nil ?_
      replace h : Fit z (sepL (pts b15 (.cells #[pA Bn22 0, vI S94.table_Base, vI S94.table_Frames, .slice va0 p0.length vc0, vI S94.round, .slice caq97 S94.live.length ccq98, vI S94.made, vI S94.got, vB S94.run_Done, vI (wi (S94.run_Steps + 1)), .slice caq99 S94.run_Holders.length ccq100, .slice caq101 S94.run_Reads.length ccq102, .slice caq103 S94.run_Marks.length ccq104, .slice caq105 S94.run_Log.length ccq106] 133) :: rn135 caq97 ccq98 S94.live :: ro3 caq99 ccq100 S94.run_Holders :: rn31 caq101 ccq102 S94.run_Reads :: ro2 caq103 ccq104 S94.run_Marks :: ro96 caq105 ccq106 S94.run_Log :: ob103 Bn22 S95 caq107 ccq108 caq109 ccq110 :: ro2 caq107 ccq108 S95.cell :: ro96 caq109 ccq110 S95.log :: pts b1 (.cells #[vB false, vI 0, .slice none 0 0, .slice none 0 0, .slice none 0 0, .slice none 0 0] 86) :: L)) _ := h
      refine blk_normal ?_
      refine then_normal ?_
      refine wp_region_lit ?_
      refine oo [103, 76] [vI (wi (g88 + 1)), vI (wi (g88 + 1))] hr fun a hr => ?_
      refine ln ?_
      replace hr := hr.fold2 [(4, pA b1 0), (6, vI g6), (9, pA b15 0), (74, .slice va1 p1.length vc1), (75, vI ((p1.length : Nat) : Int)), (76, vI (wi (g88 + 1)))] (by kernel_rfl); obtain ⟨j, hr⟩ := hr
      replace h : Fit z (sepL (pts b1 (.cells #[vB false, vI 0, .slice none 0 0, .slice none 0 0, .slice none 0 0, .slice none 0 0] 86) :: ob133 b15 ({ S94 with run_Steps := wi (S94.run_Steps + 1) }) (pA Bn22 0) (.slice va0 p0.length vc0) caq97 ccq98 caq99 ccq100 caq101 ccq102 caq103 ccq104 caq105 ccq106 :: ob103 Bn22 S95 caq107 ccq108 caq109 ccq110 :: ro2 caq107 ccq108 S95.cell :: ro96 caq109 ccq110 S95.log :: rn135 caq97 ccq98 ({ S94 with run_Steps := wi (S94.run_Steps + 1) }).live :: ro3 caq99 ccq100 ({ S94 with run_Steps := wi (S94.run_Steps + 1) }).run_Holders :: rn31 caq101 ccq102 ({ S94 with run_Steps := wi (S94.run_Steps + 1) }).run_Reads :: ro2 caq103 ccq104 ({ S94 with run_Steps := wi (S94.run_Steps + 1) }).run_Marks :: ro96 caq105 ccq106 ({ S94 with run_Steps := wi (S94.run_Steps + 1) }).run_Log :: L)) _ := h.sel 10 [9, 0, 6, 7, 8, 1, 2, 3, 4, 5] (by kernel_rfl) (by kernel_rfl)
      exact ⟨_, ⟨caq107, ccq108, caq109, ccq110, caq97, ccq98, caq99, ccq100, caq101, ccq102, caq103, ccq104, caq105, ccq106, ({ S94 with run_Steps := wi (S94.run_Steps + 1) }), S95, (wi (g88 + 1)), H, j, hr, h⟩, Nat.lt_succ_self _⟩
    ·
     replace H := ifF c89 H
     refine cond_ff hr (decide_eq_false c89) ?_
     refine wp_exit ?_
     refine then_exit ?_
     refine then_exit ?_
     refine blk_here ?_
     refine then_normal ?_
     replace hr := hr.fold2 [(4, pA b1 0), (6, vI g6), (9, pA b15 0)] (by kernel_rfl); obtain ⟨j, hr⟩ := hr
     exact ⟨(), ca74, cc75, ca76, cc77, ca78, cc79, ca80, cc81, ca82, cc83, ca84, cc85, ca86, cc87, S72, S73, sinj H, j, hr, h⟩
  clear h hr a; rintro _ a w ⟨ca56, cc57, ca58, cc59, ca60, cc61, ca62, cc63, ca64, cc65, ca66, cc67, ca68, cc69, S54, S55, rfl, j, hr, h⟩
  replace H := kk2 hK70
  refine sr ?_
  refine oo [104, 105, 106] [pA b15 0, pA b15 0, pA b15 0] hr fun a hr => ?_
  refine ld (wn rfl) hr (pA Bn22 0) ((h.pick 1).cell 0 rfl) fun a hr => ?_
  obtain ⟨r111, e112, H⟩ := bd1 H
  replace h : Fit z (sepL (ob103 Bn22 S55 ca56 cc57 ca58 cc59 :: ro2 ca56 cc57 S55.cell :: ro96 ca58 cc59 S55.log :: pts b1 (.cells #[vB false, vI 0, .slice none 0 0, .slice none 0 0, .slice none 0 0, .slice none 0 0] 86) :: ob133 b15 S54 (pA Bn22 0) (.slice va0 p0.length vc0) ca60 cc61 ca62 cc63 ca64 cc65 ca66 cc67 ca68 cc69 :: rn135 ca60 cc61 S54.live :: ro3 ca62 cc63 S54.run_Holders :: rn31 ca64 cc65 S54.run_Reads :: ro2 ca66 cc67 S54.run_Marks :: ro96 ca68 cc69 S54.run_Log :: L)) _ := h.sel 10 [2, 3, 4, 0, 1, 5, 6, 7, 8, 9] (by kernel_rfl) (by kernel_rfl)
  have hc := cells_Arena_Cells_ok (H := e112) (h := h)
  refine cl (wn rfl) hr hc ?_; clear hc h
  rintro _ w ⟨car113, rfl, h⟩; refine ⟨_, rfl, fun a hr => ?_⟩
  refine o1 hr (.slice car113 r111.length r111.length) fun a hr => ?_
  refine ln ?_
  obtain ⟨o118, H, hK117⟩ := kd1 H
  refine cut_rule (β := Unit) (fun _ a w => ∃ ca114 : Option Addr, ∃ cc115 : Nat, ∃ l116 : List Int, l116 = o118 ∧ ∃ j, Rep 147 (lk [(4, pA b1 0), (9, pA b15 0)] j) a ∧ Fit z (sepL (pts b1 (.cells #[vB false, vI 0, .slice none 0 0, .slice none 0 0, .slice none 0 0, .slice none 0 0] 86) :: pts b15 (.cells #[pA Bn22 0, vI S54.table_Base, vI S54.table_Frames, .slice va0 p0.length vc0, vI S54.round, .slice ca60 S54.live.length cc61, vI S54.made, vI S54.got, vB S54.run_Done, vI S54.run_Steps, .slice ca62 S54.run_Holders.length cc63, .slice ca64 S54.run_Reads.length cc65, .slice ca114 l116.length cc115, .slice ca68 S54.run_Log.length cc69] 133) :: ob103 Bn22 S55 ca56 cc57 ca58 cc59 :: ro2 ca56 cc57 S55.cell :: ro96 ca58 cc59 S55.log :: rn135 ca60 cc61 S54.live :: ro3 ca62 cc63 S54.run_Holders :: rn31 ca64 cc65 S54.run_Reads :: ro2 ca114 cc115 l116 :: ro96 ca68 cc69 S54.run_Log :: L)) w) ?_ ?_
  ·
   refine sr ?_
   refine oo [109, 110] [vI g6, vI 0] hr fun a hr => ?_
   refine ln ?_
   refine wp_block ?_
   replace hr := hr.fold2 [(4, pA b1 0), (9, pA b15 0), (12, .slice car113 r111.length r111.length), (109, vI g6), (110, vI 0)] (by kernel_rfl); obtain ⟨j, hr⟩ := hr
   replace h : Fit z (sepL (pts b1 (.cells #[vB false, vI 0, .slice none 0 0, .slice none 0 0, .slice none 0 0, .slice none 0 0] 86) :: ob133 b15 S54 (pA Bn22 0) (.slice va0 p0.length vc0) ca60 cc61 ca62 cc63 ca64 cc65 ca66 cc67 ca68 cc69 :: ob103 Bn22 S55 ca56 cc57 ca58 cc59 :: ro2 ca56 cc57 S55.cell :: ro96 ca58 cc59 S55.log :: rn135 ca60 cc61 S54.live :: ro3 ca62 cc63 S54.run_Holders :: rn31 ca64 cc65 S54.run_Reads :: ro2 ca66 cc67 S54.run_Marks :: ro96 ca68 cc69 S54.run_Log :: ro2 car113 r111.length r111 :: L)) _ := h.sel 11 [4, 5, 0, 1, 2, 6, 7, 8, 9, 10, 3] (by kernel_rfl) (by kernel_rfl)
   refine loop_rule (β := Nat) id (fun m a w => ∃ ca119 : Option Addr, ∃ cc120 : Nat, ∃ l121 : List Int, ∃ g122 : Int, (frames_Play_l3 K g6 S54 r111 m l121 g122) = some o118 ∧ ∃ j, Rep 147 (lk [(4, pA b1 0), (9, pA b15 0), (12, .slice car113 r111.length r111.length), (109, vI g6), (110, vI g122)] j) a ∧ Fit z (sepL (pts b1 (.cells #[vB false, vI 0, .slice none 0 0, .slice none 0 0, .slice none 0 0, .slice none 0 0] 86) :: pts b15 (.cells #[pA Bn22 0, vI S54.table_Base, vI S54.table_Frames, .slice va0 p0.length vc0, vI S54.round, .slice ca60 S54.live.length cc61, vI S54.made, vI S54.got, vB S54.run_Done, vI S54.run_Steps, .slice ca62 S54.run_Holders.length cc63, .slice ca64 S54.run_Reads.length cc65, .slice ca119 l121.length cc120, .slice ca68 S54.run_Log.length cc69] 133) :: ob103 Bn22 S55 ca56 cc57 ca58 cc59 :: ro2 ca56 cc57 S55.cell :: ro96 ca58 cc59 S55.log :: rn135 ca60 cc61 S54.live :: ro3 ca62 cc63 S54.run_Holders :: rn31 ca64 cc65 S54.run_Reads :: ro2 ca119 cc120 l121 :: ro96 ca68 cc69 S54.run_Log :: ro2 car113 r111.length r111 :: L)) w) K ⟨ca66, cc67, S54.run_Marks, 0, H, j, hr, h⟩ ?_
   clear h hr a H; rintro k3 a w ⟨ca119, cc120, l121, g122, H, j, hr, h⟩
   cases k3 with
   | zero => exact absurd H (by simp [frames_Play_l3])
   | succ k3 =>
    rw [frames_Play_l3] at H
    refine sr ?_
    refine o1 hr (vB (decide (g122 < g6))) fun a hr => ?_
    refine ln ?_
    refine wp_seq ?_
    by_cases c123 : g122 < g6
    ·
     replace H := ifT c123 H
     refine cond_tt hr (decide_eq_true c123) ?_
     refine wp_skip ?_
     refine then_normal ?_
     refine wp_seq ?_
     refine wp_block ?_
     refine sr ?_
     refine oo [112, 13] [vI g122, vI g122] hr fun a hr => ?_
     refine ln ?_
     obtain ⟨r124, e125, H⟩ := bd1 H
     obtain ⟨c126, H⟩ := gd H
     obtain ⟨c130, H⟩ := gd H
     refine reg_E (fun w => heldC w b15 12 ([.slice ca119 l121.length cc120]) ∧ heldC w b15 1 ([vI S54.table_Base, vI S54.table_Frames]) ∧ heldC w (blk car113) (r124.toNat * 1) ([vI (at_ r111 r124.toNat)]) ∧ True) [2, 3, 4, 8, 9, 12, 13] h (by kernel_rfl) ?_; intro w h
     change wpAnyE _ _ _ _ _ _ 21 (Array.replicate 21 false) a w
     have hgo : ∀ w w', CellsGo w w' → (heldC w b15 12 ([.slice ca119 l121.length cc120]) ∧ heldC w b15 1 ([vI S54.table_Base, vI S54.table_Frames]) ∧ heldC w (blk car113) (r124.toNat * 1) ([vI (at_ r111 r124.toNat)]) ∧ True) → heldC w' b15 12 ([.slice ca119 l121.length cc120]) ∧ heldC w' b15 1 ([vI S54.table_Base, vI S54.table_Frames]) ∧ heldC w' (blk car113) (r124.toNat * 1) ([vI (at_ r111 r124.toNat)]) ∧ True := fun w w' g hD => ⟨heldC_go _ _ _ _ _ g hD.1, heldC_go _ _ _ _ _ g hD.2.1, heldC_go _ _ _ _ _ g hD.2.2.1, trivial⟩
     refine evs 20 0 rfl (wn rfl) hr (pA b15 0) fun a hr => ?_
     refine evs 19 1 rfl (wn rfl) hr (pA b15 0) fun a hr => ?_
     refine evDs hgo ⟨⟨(h.pick 1).cell 12 rfl, trivial⟩, ((h.pick 1).held 1 rfl), ⟨(h.pick 10).row_cell encZ_i64_ok (f := 0) (at_ok c126) rfl, trivial⟩, trivial⟩ 18 2 rfl (wn rfl) hr (pA b15 0) fun a hr => ?_
     refine evDs hgo ⟨⟨(h.pick 1).cell 12 rfl, trivial⟩, ((h.pick 1).held 1 rfl), ⟨(h.pick 10).row_cell encZ_i64_ok (f := 0) (at_ok c126) rfl, trivial⟩, trivial⟩ 17 3 rfl (wn rfl) hr (pA b15 8) fun a hr => ?_
     refine evDs hgo ⟨⟨(h.pick 1).cell 12 rfl, trivial⟩, ((h.pick 1).held 1 rfl), ⟨(h.pick 10).row_cell encZ_i64_ok (f := 0) (at_ok c126) rfl, trivial⟩, trivial⟩ 16 4 rfl (wn rfl) hr (pA b15 12) fun a hr => ?_
     refine evs 15 6 rfl (wn rfl) hr (.slice car113 r111.length r111.length) fun a hr => ?_
     refine evs 14 7 rfl (wn rfl) hr (pA b15 0) fun a hr => ?_
     refine evDs hgo ⟨⟨(h.pick 1).cell 12 rfl, trivial⟩, ((h.pick 1).held 1 rfl), ⟨(h.pick 10).row_cell encZ_i64_ok (f := 0) (at_ok c126) rfl, trivial⟩, trivial⟩ 13 8 rfl (wn rfl) hr (pA b15 0) fun a hr => ?_
     refine evDs hgo ⟨⟨(h.pick 1).cell 12 rfl, trivial⟩, ((h.pick 1).held 1 rfl), ⟨(h.pick 10).row_cell encZ_i64_ok (f := 0) (at_ok c126) rfl, trivial⟩, trivial⟩ 12 9 rfl (wn rfl) hr (pA b15 1) fun a hr => ?_
     refine evs 11 11 rfl (wn rfl) hr (vI g122) fun a hr => ?_
     refine el [2, 3, 4, 8, 9, 12, 13] (b := b15) (off := 12) (cs := [.slice ca119 l121.length cc120]) (fun _ hk => ⟨hk, fun w hD => hD.1⟩) 10 5 rfl (by kernel_rfl) (wn rfl) hr (.slice ca119 l121.length cc120) ⟨(h.pick 1).cell 12 rfl, trivial⟩ (fun w hc => rl rfl (by kernel_rfl) (by kernel_rfl) hc.1) fun a hr => ?_
     refine el [2, 3, 4, 8, 9, 12, 13] (b := b15) (off := 1) (cs := [vI S54.table_Base, vI S54.table_Frames]) (fun _ hk => ⟨hk, fun w hD => hD.2.1⟩) 9 10 rfl (by kernel_rfl) (wn rfl) hr (.agg #[vI S54.table_Base, vI S54.table_Frames]) ((h.pick 1).held 1 rfl) (fun w hc => rlm (cs := [vI S54.table_Base, vI S54.table_Frames]) rfl (by kernel_rfl) (by kernel_rfl) (by kernel_rfl) hc) fun a hr => ?_
     refine e_one (fuel := 8) (i := 12) (by kernel_rfl) rfl ?_
     have hc := frames_Table__mark_ok (H := e125) (h := h)
     refine cl (wn rfl) hr hc ?_; clear hc h
     rintro _ w ⟨rfl, h⟩; refine ⟨_, rfl, fun a hr => ?_⟩
     refine wpList_nil ?_; refine then_normal ?_
     refine ⟨fun _ => ⟨⟨(h.pick 1).cell 12 rfl, trivial⟩, ((h.pick 1).held 1 rfl), ⟨(h.pick 10).row_cell encZ_i64_ok (f := 0) (at_ok c126) rfl, trivial⟩, trivial⟩, ?_⟩
     refine evD hgo ⟨⟨(h.pick 1).cell 12 rfl, trivial⟩, ((h.pick 1).held 1 rfl), ⟨(h.pick 10).row_cell encZ_i64_ok (f := 0) (at_ok c126) rfl, trivial⟩, trivial⟩ 7 13 rfl (by kernel_rfl) (wn rfl) hr (pA (blk car113) (r124.toNat * 1)) (fun w => ri_row (k := .i64) (E := 2) rfl (by kernel_rfl) (by kernel_rfl) (by kernel_rfl) (by kernel_rfl) (h.pick 10) c126) fun a hr => ?_
     refine el [2, 3, 4, 8, 9, 12, 13] (b := blk car113) (off := r124.toNat * 1) (cs := [vI (at_ r111 r124.toNat)]) (fun _ hk => ⟨hk, fun w hD => hD.2.2.1⟩) 6 14 rfl (by kernel_rfl) (wn rfl) hr (vI (at_ r111 r124.toNat)) ⟨(h.pick 10).row_cell encZ_i64_ok (f := 0) (at_ok c126) rfl, trivial⟩ (fun w hc => rl rfl (by kernel_rfl) (by kernel_rfl) hc.1) fun a hr => ?_
     refine e_one (fuel := 5) (i := 15) (by kernel_rfl) rfl ?_
     refine onew (wn rfl) hr h (fun b => .slice (some ⟨b, 0, none⟩) 1 1) (#[vI (at_ r111 r124.toNat)]) 2 fun b127 w a h hr => ?_
     refine wpList_nil ?_; refine then_normal ?_
     refine ⟨fun hE => absurd hE (by decide), ?_⟩
     refine e_one (fuel := 4) (i := 16) (by kernel_rfl) rfl ?_
     replace h : Fit z (sepL (ro2 ca119 cc120 l121 :: pts b127 (.cells #[vI (at_ r111 r124.toNat)] 2) :: pts b1 (.cells #[vB false, vI 0, .slice none 0 0, .slice none 0 0, .slice none 0 0, .slice none 0 0] 86) :: pts b15 (.cells #[pA Bn22 0, vI S54.table_Base, vI S54.table_Frames, .slice va0 p0.length vc0, vI S54.round, .slice ca60 S54.live.length cc61, vI S54.made, vI S54.got, vB S54.run_Done, vI S54.run_Steps, .slice ca62 S54.run_Holders.length cc63, .slice ca64 S54.run_Reads.length cc65, .slice ca119 l121.length cc120, .slice ca68 S54.run_Log.length cc69] 133) :: ob103 Bn22 S55 ca56 cc57 ca58 cc59 :: ro2 ca56 cc57 S55.cell :: ro96 ca58 cc59 S55.log :: rn135 ca60 cc61 S54.live :: ro3 ca62 cc63 S54.run_Holders :: rn31 ca64 cc65 S54.run_Reads :: ro96 ca68 cc69 S54.run_Log :: ro2 car113 r111.length r111 :: L)) _ := h.sel 12 [9, 0, 1, 2, 3, 4, 5, 6, 7, 8, 10, 11] (by kernel_rfl) (by kernel_rfl)
     refine op_append (n0 := l121.length) (c := 1) (bytes := 8) (wn rfl) rfl rfl hr rfl (by kernel_rfl) (by kernel_rfl) encZ_i64_ok (E := 2) (xs := l121) (by kernel_rfl) (by kernel_rfl) h (news := [(at_ r111 r124.toNat)]) (m := 1) rfl ((h.pick 1).news rfl) c130 rfl fun ca128 cc129 w a h hr => ?_
     refine wpList_nil ?_; refine then_normal ?_
     replace h : Fit z (sepL (ro2 ca128 cc129 (l121 ++ [(at_ r111 r124.toNat)]) :: pts b127 (.cells #[vI (at_ r111 r124.toNat)] 2) :: pts b1 (.cells #[vB false, vI 0, .slice none 0 0, .slice none 0 0, .slice none 0 0, .slice none 0 0] 86) :: pts b15 (.cells #[pA Bn22 0, vI S54.table_Base, vI S54.table_Frames, .slice va0 p0.length vc0, vI S54.round, .slice ca60 S54.live.length cc61, vI S54.made, vI S54.got, vB S54.run_Done, vI S54.run_Steps, .slice ca62 S54.run_Holders.length cc63, .slice ca64 S54.run_Reads.length cc65, .slice ca119 l121.length cc120, .slice ca68 S54.run_Log.length cc69] 133) :: ob103 Bn22 S55 ca56 cc57 ca58 cc59 :: ro2 ca56 cc57 S55.cell :: ro96 ca58 cc59 S55.log :: rn135 ca60 cc61 S54.live :: ro3 ca62 cc63 S54.run_Holders :: rn31 ca64 cc65 S54.run_Reads :: ro96 ca68 cc69 S54.run_Log :: ro2 car113 r111.length r111 :: L)) _ := h
     refine ⟨fun hE => absurd hE (by decide), ?_⟩
     refine evs 3 17 rfl (wn rfl) hr (pA b15 0) fun a hr => ?_
     refine evs 2 18 rfl (wn rfl) hr (pA b15 8) fun a hr => ?_
     refine evs 1 19 rfl (wn rfl) hr (pA b15 12) fun a hr => ?_
     refine e_one (fuel := 0) (i := 20) (by kernel_rfl) rfl ?_
     replace h : Fit z (sepL (pts b15 (.cells #[pA Bn22 0, vI S54.table_Base, vI S54.table_Frames, .slice va0 p0.length vc0, vI S54.round, .slice ca60 S54.live.length cc61, vI S54.made, vI S54.got, vB S54.run_Done, vI S54.run_Steps, .slice ca62 S54.run_Holders.length cc63, .slice ca64 S54.run_Reads.length cc65, .slice ca119 l121.length cc120, .slice ca68 S54.run_Log.length cc69] 133) :: ro2 ca128 cc129 (l121 ++ [(at_ r111 r124.toNat)]) :: pts b127 (.cells #[vI (at_ r111 r124.toNat)] 2) :: pts b1 (.cells #[vB false, vI 0, .slice none 0 0, .slice none 0 0, .slice none 0 0, .slice none 0 0] 86) :: ob103 Bn22 S55 ca56 cc57 ca58 cc59 :: ro2 ca56 cc57 S55.cell :: ro96 ca58 cc59 S55.log :: rn135 ca60 cc61 S54.live :: ro3 ca62 cc63 S54.run_Holders :: rn31 ca64 cc65 S54.run_Reads :: ro96 ca68 cc69 S54.run_Log :: ro2 car113 r111.length r111 :: L)) _ := h.sel 12 [3, 0, 1, 2, 4, 5, 6, 7, 8, 9, 10, 11] (by kernel_rfl) (by kernel_rfl)
     refine sto (wn rfl) hr h 12 (.slice ca128 (l121 ++ [(at_ r111 r124.toNat)]).length cc129) fun w h => ?_
     refine wpList_nil ?_; refine then_normal ?_
     replace h : Fit z (sepL (pts b15 (.cells #[pA Bn22 0, vI S54.table_Base, vI S54.table_Frames, .slice va0 p0.length vc0, vI S54.round, .slice ca60 S54.live.length cc61, vI S54.made, vI S54.got, vB S54.run_Done, vI S54.run_Steps, .slice ca62 S54.run_Holders.length cc63, .slice ca64 S54.run_Reads.length cc65, .slice ca128 (l121 ++ [(at_ r111 r124.toNat)]).length cc129, .slice ca68 S54.run_Log.length cc69] 133) :: ro2 ca128 cc129 (l121 ++ [(at_ r111 r124.toNat)]) :: pts b127 (.cells #[vI (at_ r111 r124.toNat)] 2) :: pts b1 (.cells #[vB false, vI 0, .slice none 0 0, .slice none 0 0, .slice none 0 0, .slice none 0 0] 86) :: ob103 Bn22 S55 ca56 cc57 ca58 cc59 :: ro2 ca56 cc57 S55.cell :: ro96 ca58 cc59 S55.log :: rn135 ca60 cc61 S54.live :: ro3 ca62 cc63 S54.run_Holders :: rn31 ca64 cc65 S54.run_Reads :: ro96 ca68 cc69 S54.run_Log :: ro2 car113 r111.length r111 :: L)) _ := h
     refine ⟨fun hE => absurd hE (by decide), ?_⟩
     refine e_end (by kernel_rfl) ?_
     refine blk_normal ?_
     refine then_normal ?_
     refine wp_region_lit ?_
     refine oo [133, 110] [vI (wi (g122 + 1)), vI (wi (g122 + 1))] hr fun a hr => ?_
     refine ln ?_
     replace hr := hr.fold2 [(4, pA b1 0), (9, pA b15 0), (12, .slice car113 r111.length r111.length), (109, vI g6), (110, vI (wi (g122 + 1)))] (by kernel_rfl); obtain ⟨j, hr⟩ := hr
     replace h : Fit z (sepL (pts b1 (.cells #[vB false, vI 0, .slice none 0 0, .slice none 0 0, .slice none 0 0, .slice none 0 0] 86) :: pts b15 (.cells #[pA Bn22 0, vI S54.table_Base, vI S54.table_Frames, .slice va0 p0.length vc0, vI S54.round, .slice ca60 S54.live.length cc61, vI S54.made, vI S54.got, vB S54.run_Done, vI S54.run_Steps, .slice ca62 S54.run_Holders.length cc63, .slice ca64 S54.run_Reads.length cc65, .slice ca128 (l121 ++ [(at_ r111 r124.toNat)]).length cc129, .slice ca68 S54.run_Log.length cc69] 133) :: ob103 Bn22 S55 ca56 cc57 ca58 cc59 :: ro2 ca56 cc57 S55.cell :: ro96 ca58 cc59 S55.log :: rn135 ca60 cc61 S54.live :: ro3 ca62 cc63 S54.run_Holders :: rn31 ca64 cc65 S54.run_Reads :: ro2 ca128 cc129 (l121 ++ [(at_ r111 r124.toNat)]) :: ro96 ca68 cc69 S54.run_Log :: ro2 car113 r111.length r111 :: L)) _ := h.sel 12 [3, 0, 4, 5, 6, 7, 8, 9, 1, 10, 11] (by kernel_rfl) (by kernel_rfl)
     exact ⟨_, ⟨ca128, cc129, (l121 ++ [(at_ r111 r124.toNat)]), (wi (g122 + 1)), H, j, hr, h⟩, Nat.lt_succ_self _⟩
    ·
     replace H := ifF c123 H
     refine cond_ff hr (decide_eq_false c123) ?_
     refine wp_exit ?_
     refine then_exit ?_
     refine then_exit ?_
     refine blk_here ?_
     refine then_normal ?_
     replace hr := hr.fold2 [(4, pA b1 0), (9, pA b15 0)] (by kernel_rfl); obtain ⟨j, hr⟩ := hr
     replace h : Fit z (sepL (pts b1 (.cells #[vB false, vI 0, .slice none 0 0, .slice none 0 0, .slice none 0 0, .slice none 0 0] 86) :: pts b15 (.cells #[pA Bn22 0, vI S54.table_Base, vI S54.table_Frames, .slice va0 p0.length vc0, vI S54.round, .slice ca60 S54.live.length cc61, vI S54.made, vI S54.got, vB S54.run_Done, vI S54.run_Steps, .slice ca62 S54.run_Holders.length cc63, .slice ca64 S54.run_Reads.length cc65, .slice ca119 l121.length cc120, .slice ca68 S54.run_Log.length cc69] 133) :: ob103 Bn22 S55 ca56 cc57 ca58 cc59 :: ro2 ca56 cc57 S55.cell :: ro96 ca58 cc59 S55.log :: rn135 ca60 cc61 S54.live :: ro3 ca62 cc63 S54.run_Holders :: rn31 ca64 cc65 S54.run_Reads :: ro2 ca119 cc120 l121 :: ro96 ca68 cc69 S54.run_Log :: L)) _ := h.sel 11 [0, 1, 2, 3, 4, 5, 6, 7, 8, 9] (by kernel_rfl) (by kernel_rfl)
     exact ⟨(), ca119, cc120, l121, sinj H, j, hr, h⟩
  clear h hr a; rintro _ a w ⟨ca114, cc115, l116, rfl, j, hr, h⟩
  replace H := kk1 hK117
  refine sr ?_
  refine oo [134, 135, 136, 137] [pA b15 0, pA b15 0, pA b15 0, pA b15 0] hr fun a hr => ?_
  refine ld (wn rfl) hr (pA Bn22 0) ((h.pick 1).cell 0 rfl) fun a hr => ?_
  obtain ⟨r131, e132, H⟩ := bd1 H
  replace h : Fit z (sepL (ob103 Bn22 S55 ca56 cc57 ca58 cc59 :: ro2 ca56 cc57 S55.cell :: ro96 ca58 cc59 S55.log :: pts b1 (.cells #[vB false, vI 0, .slice none 0 0, .slice none 0 0, .slice none 0 0, .slice none 0 0] 86) :: pts b15 (.cells #[pA Bn22 0, vI S54.table_Base, vI S54.table_Frames, .slice va0 p0.length vc0, vI S54.round, .slice ca60 S54.live.length cc61, vI S54.made, vI S54.got, vB S54.run_Done, vI S54.run_Steps, .slice ca62 S54.run_Holders.length cc63, .slice ca64 S54.run_Reads.length cc65, .slice ca114 l116.length cc115, .slice ca68 S54.run_Log.length cc69] 133) :: rn135 ca60 cc61 S54.live :: ro3 ca62 cc63 S54.run_Holders :: rn31 ca64 cc65 S54.run_Reads :: ro2 ca114 cc115 l116 :: ro96 ca68 cc69 S54.run_Log :: L)) _ := h.sel 10 [2, 3, 4, 0, 1, 5, 6, 7, 8, 9] (by kernel_rfl) (by kernel_rfl)
  have hc := cells_Arena_Log_ok (H := e132) (h := h)
  refine cl (wn rfl) hr hc ?_; clear hc h
  rintro _ w ⟨car133, rfl, h⟩; refine ⟨_, rfl, fun a hr => ?_⟩
  refine oo [140, 141, 142] [pA b15 0, pA b15 8, pA b15 13] hr fun a hr => ?_
  replace h : Fit z (sepL (pts b15 (.cells #[pA Bn22 0, vI S54.table_Base, vI S54.table_Frames, .slice va0 p0.length vc0, vI S54.round, .slice ca60 S54.live.length cc61, vI S54.made, vI S54.got, vB S54.run_Done, vI S54.run_Steps, .slice ca62 S54.run_Holders.length cc63, .slice ca64 S54.run_Reads.length cc65, .slice ca114 l116.length cc115, .slice ca68 S54.run_Log.length cc69] 133) :: ob103 Bn22 S55 ca56 cc57 ca58 cc59 :: ro2 ca56 cc57 S55.cell :: ro96 ca58 cc59 S55.log :: ro96 car133 r131.length r131 :: pts b1 (.cells #[vB false, vI 0, .slice none 0 0, .slice none 0 0, .slice none 0 0, .slice none 0 0] 86) :: rn135 ca60 cc61 S54.live :: ro3 ca62 cc63 S54.run_Holders :: rn31 ca64 cc65 S54.run_Reads :: ro2 ca114 cc115 l116 :: ro96 ca68 cc69 S54.run_Log :: L)) _ := h.sel 11 [5, 0, 1, 2, 3, 4, 6, 7, 8, 9, 10] (by kernel_rfl) (by kernel_rfl)
  refine sto (wn rfl) hr h 13 (.slice car133 r131.length r131.length) fun w h => ?_
  refine wpList_nil ?_
  replace h : Fit z (sepL (pts b15 (.cells #[pA Bn22 0, vI S54.table_Base, vI S54.table_Frames, .slice va0 p0.length vc0, vI S54.round, .slice ca60 S54.live.length cc61, vI S54.made, vI S54.got, vB S54.run_Done, vI S54.run_Steps, .slice ca62 S54.run_Holders.length cc63, .slice ca64 S54.run_Reads.length cc65, .slice ca114 l116.length cc115, .slice car133 r131.length r131.length] 133) :: ob103 Bn22 S55 ca56 cc57 ca58 cc59 :: ro2 ca56 cc57 S55.cell :: ro96 ca58 cc59 S55.log :: ro96 car133 r131.length r131 :: pts b1 (.cells #[vB false, vI 0, .slice none 0 0, .slice none 0 0, .slice none 0 0, .slice none 0 0] 86) :: rn135 ca60 cc61 S54.live :: ro3 ca62 cc63 S54.run_Holders :: rn31 ca64 cc65 S54.run_Reads :: ro2 ca114 cc115 l116 :: ro96 ca68 cc69 S54.run_Log :: L)) _ := h
  refine then_normal ?_
  refine sr ?_
  refine oo [143, 144, 145] [pA b15 0, pA b15 0, pA b15 8] hr fun a hr => ?_
  refine ldm (wn rfl) hr (.agg #[vB S54.run_Done, vI S54.run_Steps, .slice ca62 S54.run_Holders.length cc63, .slice ca64 S54.run_Reads.length cc65, .slice ca114 l116.length cc115, .slice car133 r131.length r131.length]) (cs := [vB S54.run_Done, vI S54.run_Steps, .slice ca62 S54.run_Holders.length cc63, .slice ca64 S54.run_Reads.length cc65, .slice ca114 l116.length cc115, .slice car133 r131.length r131.length]) (h.held 8 rfl) fun a hr => ?_
  replace h : Fit z (sepL (pts b1 (.cells #[vB false, vI 0, .slice none 0 0, .slice none 0 0, .slice none 0 0, .slice none 0 0] 86) :: pts b15 (.cells #[pA Bn22 0, vI S54.table_Base, vI S54.table_Frames, .slice va0 p0.length vc0, vI S54.round, .slice ca60 S54.live.length cc61, vI S54.made, vI S54.got, vB S54.run_Done, vI S54.run_Steps, .slice ca62 S54.run_Holders.length cc63, .slice ca64 S54.run_Reads.length cc65, .slice ca114 l116.length cc115, .slice car133 r131.length r131.length] 133) :: ob103 Bn22 S55 ca56 cc57 ca58 cc59 :: ro2 ca56 cc57 S55.cell :: ro96 ca58 cc59 S55.log :: ro96 car133 r131.length r131 :: rn135 ca60 cc61 S54.live :: ro3 ca62 cc63 S54.run_Holders :: rn31 ca64 cc65 S54.run_Reads :: ro2 ca114 cc115 l116 :: ro96 ca68 cc69 S54.run_Log :: L)) _ := h.sel 11 [5, 0, 1, 2, 3, 4, 6, 7, 8, 9, 10] (by kernel_rfl) (by kernel_rfl)
  refine stos (wn rfl) hr h 0 ([vB S54.run_Done, vI S54.run_Steps, .slice ca62 S54.run_Holders.length cc63, .slice ca64 S54.run_Reads.length cc65, .slice ca114 l116.length cc115, .slice car133 r131.length r131.length]) (#[vB S54.run_Done, vI S54.run_Steps, .slice ca62 S54.run_Holders.length cc63, .slice ca64 S54.run_Reads.length cc65, .slice ca114 l116.length cc115, .slice car133 r131.length r131.length]) fun w h => ?_
  refine o1 hr (vI 0) fun a hr => ?_
  refine wpList_nil ?_
  replace h : Fit z (sepL (pts b1 (.cells #[vB S54.run_Done, vI S54.run_Steps, .slice ca62 S54.run_Holders.length cc63, .slice ca64 S54.run_Reads.length cc65, .slice ca114 l116.length cc115, .slice car133 r131.length r131.length] 86) :: pts b15 (.cells #[pA Bn22 0, vI S54.table_Base, vI S54.table_Frames, .slice va0 p0.length vc0, vI S54.round, .slice ca60 S54.live.length cc61, vI S54.made, vI S54.got, vB S54.run_Done, vI S54.run_Steps, .slice ca62 S54.run_Holders.length cc63, .slice ca64 S54.run_Reads.length cc65, .slice ca114 l116.length cc115, .slice car133 r131.length r131.length] 133) :: ob103 Bn22 S55 ca56 cc57 ca58 cc59 :: ro2 ca56 cc57 S55.cell :: ro96 ca58 cc59 S55.log :: ro96 car133 r131.length r131 :: rn135 ca60 cc61 S54.live :: ro3 ca62 cc63 S54.run_Holders :: rn31 ca64 cc65 S54.run_Reads :: ro2 ca114 cc115 l116 :: ro96 ca68 cc69 S54.run_Log :: L)) _ := h
  refine then_normal ?_
  refine wp_ret ?_
  refine end_retCT (cs := [vB S54.run_Done, vI S54.run_Steps, .slice ca62 S54.run_Holders.length cc63, .slice ca64 S54.run_Reads.length cc65, .slice ca114 l116.length cc115, .slice car133 r131.length r131.length]) (v := vI 0) rfl hr (by kernel_rfl) (by kernel_rfl) (by kernel_rfl) (by kernel_rfl) (h.held 0 rfl) ?_
  replace h : Fit z (sepL (ro3 ca62 cc63 S54.run_Holders :: rn31 ca64 cc65 S54.run_Reads :: ro2 ca114 cc115 l116 :: ro96 car133 r131.length r131 :: L)) _ := h.sel 11 [7, 8, 9, 5] (by kernel_rfl) (by kernel_rfl)
  obtain ⟨rfl, rfl⟩ := ej2 H
  exact ⟨ca62, cc63, ca64, cc65, ca114, cc115, car133, rfl, h⟩
 | none =>
  cases H

def plunderlaw8_length_l1 (K : Nat) (p0 : List Int) : Nat → Int → Int → Option (Int)
  | 0, _, _ => none
  | k1 + 1, g1, g2 => (if g2 < ((p0.length : Nat) : Int) then if inr_ g2 p0.length then (plunderlaw8_length_l1 K p0 k1 (wi ((wi (g1 + (wi ((6 : Int) * (at_ p0 g2.toNat))))) + 2)) (wi (g2 + 1))) else none else some g1)
/-- plunder/plunderlaw8.length -/
def plunderlaw8_length (K : Nat) (p0 : List Int) : Option (Int) :=
  (plunderlaw8_length_l1 K p0 K 2 0)

set_option maxRecDepth 100000 in
set_option maxHeartbeats 4000000 in
theorem plunderlaw8_length_ok {z w : World} {L : List HProp} {K : Nat} {p0 : List Int} {va0 : Option Addr} {vc0 : Nat} {r0 : Int} (H : plunderlaw8_length K p0 = some r0) (h : Fit z (sepL (L)) w) (hv0 : RdRow L 1 encZ_i64 va0 p0) :
    Calls Try.prog 51 #[.slice va0 p0.length vc0] w fun e w => e = .returned (vI r0) ∧ Fit z (sepL (L)) w := by
 unfold plunderlaw8_length at H
 refine enter Try.func51 rfl 20 rfl rfl [(0, .slice va0 p0.length vc0)] ⟨rfl, trivial⟩ ?_
 intro j a hr
 refine sr ?_
 refine o1 hr (vI 0) fun a hr => ?_
 refine ln ?_
 refine sr ?_
 refine o1 hr (vI 2) fun a hr => ?_
 refine ln ?_
 refine wp_seq ?_
 refine sr ?_
 refine o1 hr (vI 0) fun a hr => ?_
 refine ln ?_
 refine wp_block ?_
 replace hr := hr.fold2 [(0, .slice va0 p0.length vc0), (3, vI 2), (4, vI 0)] (by kernel_rfl); obtain ⟨j, hr⟩ := hr
 refine loop_rule (β := Nat) id (fun m a w => ∃ g1 : Int, ∃ g2 : Int, (plunderlaw8_length_l1 K p0 m g1 g2) = some r0 ∧ ∃ j, Rep 20 (lk [(0, .slice va0 p0.length vc0), (3, vI g1), (4, vI g2)] j) a ∧ Fit z (sepL (L)) w) K ⟨2, 0, H, j, hr, h⟩ ?_
 clear h hr a H; rintro k1 a w ⟨g1, g2, H, j, hr, h⟩
 cases k1 with
 | zero => exact absurd H (by simp [plunderlaw8_length_l1])
 | succ k1 =>
  rw [plunderlaw8_length_l1] at H
  refine wp_seq ?_
  refine sr ?_
  refine oo [5, 6, 7, 8] [vI g2, .slice va0 p0.length vc0, vI ((p0.length : Nat) : Int), vB (decide (g2 < ((p0.length : Nat) : Int)))] hr fun a hr => ?_
  refine ln ?_
  by_cases c3 : g2 < ((p0.length : Nat) : Int)
  ·
   replace H := ifT c3 H
   refine cond_tt hr (decide_eq_true c3) ?_
   refine wp_skip ?_
   refine then_normal ?_
   refine wp_seq ?_
   refine wp_block ?_
   refine wp_region_lit ?_
   obtain ⟨c4, H⟩ := gd H
   refine oo [11, 12, 13] [vI g1, .slice va0 p0.length vc0, vI g2] hr fun a hr => ?_
   refine opv (wn rfl) hr (pA (blk va0) (offs va0 + g2.toNat * 1)) (ri_rd (k := .i64) (E := 3) (cc := vc0) rfl (by kernel_rfl) (by kernel_rfl) rfl (by kernel_rfl) (by kernel_rfl) hv0 c4) fun a hr => ?_
   refine ld (wn rfl) hr (vI (at_ p0 g2.toNat)) (hv0.cell c4 (h.dn 0) 0 rfl) fun a hr => ?_
   refine oo [16, 17, 18, 3] [vI (wi ((6 : Int) * (at_ p0 g2.toNat))), vI (wi (g1 + (wi ((6 : Int) * (at_ p0 g2.toNat))))), vI (wi ((wi (g1 + (wi ((6 : Int) * (at_ p0 g2.toNat))))) + 2)), vI (wi ((wi (g1 + (wi ((6 : Int) * (at_ p0 g2.toNat))))) + 2))] hr fun a hr => ?_
   refine wpList_nil ?_
   refine blk_normal ?_
   refine then_normal ?_
   refine wp_region_lit ?_
   refine oo [9, 10, 4] [vI g2, vI (wi (g2 + 1)), vI (wi (g2 + 1))] hr fun a hr => ?_
   refine ln ?_
   replace hr := hr.fold2 [(0, .slice va0 p0.length vc0), (3, vI (wi ((wi (g1 + (wi ((6 : Int) * (at_ p0 g2.toNat))))) + 2))), (4, vI (wi (g2 + 1)))] (by kernel_rfl); obtain ⟨j, hr⟩ := hr
   exact ⟨_, ⟨(wi ((wi (g1 + (wi ((6 : Int) * (at_ p0 g2.toNat))))) + 2)), (wi (g2 + 1)), H, j, hr, h⟩, Nat.lt_succ_self _⟩
  ·
   replace H := ifF c3 H
   refine cond_ff hr (decide_eq_false c3) ?_
   refine wp_exit ?_
   refine then_exit ?_
   refine then_exit ?_
   refine blk_here ?_
   refine then_normal ?_
   refine sr ?_
   refine oo [19, 2] [vI g1, vI g1] hr fun a hr => ?_
   refine ln ?_
   refine wp_ret ?_
   refine end_ret1 (v := vI g1) rfl hr (by kernel_rfl) ?_
   replace H := ej1 H; subst H
   exact ⟨rfl, h⟩

def plunderlaw8_FramesSync_l1 (K : Nat) (r1 : List Int) : Nat → Int → Int → Option (Int)
  | 0, _, _ => none
  | k1 + 1, g32, g33 => (if g33 < ((r1.length : Nat) : Int) then if inr_ g33 r1.length then (plunderlaw8_FramesSync_l1 K r1 k1 (wi (g32 + (at_ r1 g33.toNat))) (wi (g33 + 1))) else none else some g32)
def plunderlaw8_FramesSync_l3 (K : Nat) (r7 : T_api_JoinRun) (g43 : Int) (g50 : Bool) (g54 : Bool) : Nat → Int → Option ((Bool × Bool × Bool) ⊕ ((Unit) ⊕ (Bool)))
  | 0, _ => none
  | k3 + 1, g66 => if inr_ g43 r7.Reads.length then (if g66 < (((at_ r7.Reads g43.toNat).length : Nat) : Int) then if inr_ g66 (at_ r7.Reads g43.toNat).length then (if (at_ (at_ r7.Reads g43.toNat) g66.toNat) = (wi ((wi ((100 : Int) * g43)) + g66)) then (plunderlaw8_FramesSync_l3 K r7 g43 g50 g54 k3 (wi (g66 + 1))) else some (.inr (.inr false))) else none else some (.inl (g50, g50, g54))) else none
def plunderlaw8_FramesSync_l2 (K : Nat) (r1 : List Int) (r7 : T_api_JoinRun) : Nat → Int → Option ((Unit) ⊕ (Bool))
  | 0, _ => none
  | k2 + 1, g43 => (if g43 < ((r7.Reads.length : Nat) : Int) then jn3 (ob1 ((if r7.Done = true then some true else some (decide ((wi (g43 + 1)) < ((r7.Reads.length : Nat) : Int))))) (fun g50 => jn1 (if inr_ g43 r7.Reads.length then if inr_ g43 r1.length then (if (((at_ r7.Reads g43.toNat).length : Nat) : Int) > (at_ r1 g43.toNat) then some (.inr (.inr (.inr false))) else (if g50 = true then (if (((at_ r7.Reads g43.toNat).length : Nat) : Int) = (at_ r1 g43.toNat) then some (.inl ((((at_ r7.Reads g43.toNat).length : Nat) : Int) != (at_ r1 g43.toNat))) else some (.inr (.inr (.inr false)))) else some (.inl false))) else none else none) (fun g54 => (plunderlaw8_FramesSync_l3 K r7 g43 g50 g54 K 0)))) (fun g45 g46 g47 => (plunderlaw8_FramesSync_l2 K r1 r7 k2 (wi (g43 + 1)))) else some (.inl ()))
def plunderlaw8_FramesSync_l4 (K : Nat) (r7 : T_api_JoinRun) (g29 : Int) : Nat → Int → Option (Bool)
  | 0, _ => none
  | k4 + 1, g75 => (if g75 < g29 then if inr_ g75 r7.Marks.length then (if (at_ r7.Marks g75.toNat) < 0 then some false else (if (at_ r7.Marks g75.toNat) > 1 then some false else (if r7.Done = true then (if (at_ r7.Marks g75.toNat) = 1 then (plunderlaw8_FramesSync_l4 K r7 g29 k4 (wi (g75 + 1))) else some false) else (plunderlaw8_FramesSync_l4 K r7 g29 k4 (wi (g75 + 1)))))) else none else some true)
def plunderlaw8_FramesSync_l5 (K : Nat) (r1 : List Int) : Nat → Int → Int → Option (Int)
  | 0, _, _ => none
  | k5 + 1, g107, g108 => (if g108 < ((r1.length : Nat) : Int) then if inr_ g108 r1.length then (plunderlaw8_FramesSync_l5 K r1 k5 (wi (g107 + (at_ r1 g108.toNat))) (wi (g108 + 1))) else none else some g107)
def plunderlaw8_FramesSync_l7 (K : Nat) (r82 : T_api_JoinRun) (g118 : Int) (g125 : Bool) (g129 : Bool) : Nat → Int → Option ((Bool × Bool × Bool) ⊕ ((Unit) ⊕ (Bool)))
  | 0, _ => none
  | k7 + 1, g141 => if inr_ g118 r82.Reads.length then (if g141 < (((at_ r82.Reads g118.toNat).length : Nat) : Int) then if inr_ g141 (at_ r82.Reads g118.toNat).length then (if (at_ (at_ r82.Reads g118.toNat) g141.toNat) = (wi ((wi ((100 : Int) * g118)) + g141)) then (plunderlaw8_FramesSync_l7 K r82 g118 g125 g129 k7 (wi (g141 + 1))) else some (.inr (.inr false))) else none else some (.inl (g125, g125, g129))) else none
def plunderlaw8_FramesSync_l6 (K : Nat) (r1 : List Int) (r82 : T_api_JoinRun) : Nat → Int → Option ((Unit) ⊕ (Bool))
  | 0, _ => none
  | k6 + 1, g118 => (if g118 < ((r82.Reads.length : Nat) : Int) then jn3 (ob1 ((if r82.Done = true then some true else some (decide ((wi (g118 + 1)) < ((r82.Reads.length : Nat) : Int))))) (fun g125 => jn1 (if inr_ g118 r82.Reads.length then if inr_ g118 r1.length then (if (((at_ r82.Reads g118.toNat).length : Nat) : Int) > (at_ r1 g118.toNat) then some (.inr (.inr (.inr false))) else (if g125 = true then (if (((at_ r82.Reads g118.toNat).length : Nat) : Int) = (at_ r1 g118.toNat) then some (.inl ((((at_ r82.Reads g118.toNat).length : Nat) : Int) != (at_ r1 g118.toNat))) else some (.inr (.inr (.inr false)))) else some (.inl false))) else none else none) (fun g129 => (plunderlaw8_FramesSync_l7 K r82 g118 g125 g129 K 0)))) (fun g120 g121 g122 => (plunderlaw8_FramesSync_l6 K r1 r82 k6 (wi (g118 + 1)))) else some (.inl ()))
def plunderlaw8_FramesSync_l8 (K : Nat) (r82 : T_api_JoinRun) (g104 : Int) : Nat → Int → Option (Bool)
  | 0, _ => none
  | k8 + 1, g150 => (if g150 < g104 then if inr_ g150 r82.Marks.length then (if (at_ r82.Marks g150.toNat) < 0 then some false else (if (at_ r82.Marks g150.toNat) > 1 then some false else (if r82.Done = true then (if (at_ r82.Marks g150.toNat) = 1 then (plunderlaw8_FramesSync_l8 K r82 g104 k8 (wi (g150 + 1))) else some false) else (plunderlaw8_FramesSync_l8 K r82 g104 k8 (wi (g150 + 1)))))) else none else some true)
/-- plunder/plunderlaw8.FramesSync -/
def plunderlaw8_FramesSync (K : Nat) (p0 : List Int) (p1 : List Int) : Option (Bool) :=
  ob1 (plunderlaw8_tidy K p0) (fun r1 => (if ((p1.length : Nat) : Int) > 1048576 then if 0 ≤ (1048576 : Int) ∧ (1048576 : Int) ≤ ((p1.length : Nat) : Int) then ob2 (frames_Play K r1 (p1.take 1048576)) (fun r7 r8 => jn0 ((if r8 = 0 then (if ((r7.Reads.length : Nat) : Int) = ((r7.Holders.length : Nat) : Int) then (if ((r7.Reads.length : Nat) : Int) > ((r1.length : Nat) : Int) then some (.inr false) else some (.inl ())) else some (.inr false)) else some (.inr false))) (jn0 (ob1 (plunderlaw8_length K r1) (fun r25 => (if ((p1.length : Nat) : Int) ≥ r25 then (if r7.Done = true then some (.inl ()) else some (.inr false)) else some (.inl ())))) (ob1 ((plunderlaw8_FramesSync_l1 K r1 K 1 0)) (fun g29 => jn0 ((if ((r7.Marks.length : Nat) : Int) = g29 then (if r7.Done = true then (if ((r7.Holders.length : Nat) : Int) = ((r1.length : Nat) : Int) then some (.inl ()) else some (.inr false)) else some (.inl ())) else some (.inr false))) (jn0 ((plunderlaw8_FramesSync_l2 K r1 r7 K 0)) ((plunderlaw8_FramesSync_l4 K r7 g29 K 0))))))) else none else ob2 (frames_Play K r1 p1) (fun r82 r83 => jn0 ((if r83 = 0 then (if ((r82.Reads.length : Nat) : Int) = ((r82.Holders.length : Nat) : Int) then (if ((r82.Reads.length : Nat) : Int) > ((r1.length : Nat) : Int) then some (.inr false) else some (.inl ())) else some (.inr false)) else some (.inr false))) (jn0 (ob1 (plunderlaw8_length K r1) (fun r100 => (if ((p1.length : Nat) : Int) ≥ r100 then (if r82.Done = true then some (.inl ()) else some (.inr false)) else some (.inl ())))) (ob1 ((plunderlaw8_FramesSync_l5 K r1 K 1 0)) (fun g104 => jn0 ((if ((r82.Marks.length : Nat) : Int) = g104 then (if r82.Done = true then (if ((r82.Holders.length : Nat) : Int) = ((r1.length : Nat) : Int) then some (.inl ()) else some (.inr false)) else some (.inl ())) else some (.inr false))) (jn0 ((plunderlaw8_FramesSync_l6 K r1 r82 K 0)) ((plunderlaw8_FramesSync_l8 K r82 g104 K 0)))))))))


end Go.Proofs.Ytnghahgfcaolbaa.Mo
