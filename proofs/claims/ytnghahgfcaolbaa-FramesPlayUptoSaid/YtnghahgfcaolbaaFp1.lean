/- what the functions compute, as plain Lean functions, and that they do -/
import Derived.Test.YtnghahgfcaolbaaFp0
namespace Go.Proofs.Ytnghahgfcaolbaa.Mo
open Go Go.RowKit Go.Proofs.Ytnghahgfcaolbaa.SL Go.Proofs.Ytnghahgfcaolbaa.GX
set_option linter.unusedVariables false
set_option linter.unusedSimpArgs false
set_option maxRecDepth 100000
set_option maxHeartbeats 4000000

def plunderref8_Refuses_l1 (K : Nat) (p0 : List Int) : Nat → Int → Option (Int)
  | 0, _ => none
  | k1 + 1, g5 => (if g5 < ((p0.length : Nat) : Int) then if inr_ g5 p0.length then (if (at_ p0 g5.toNat) < 0 then some 80 else (if (at_ p0 g5.toNat) > 8 then some 80 else (plunderref8_Refuses_l1 K p0 k1 (wi (g5 + 1))))) else none else some 0)
/-- plunder/plunderref8.Refuses -/
def plunderref8_Refuses (K : Nat) (p0 : List Int) (p1 : List Int) : Option (Int) :=
  jn0 ((if ((p0.length : Nat) : Int) > 64 then some (.inr 2) else (if ((p1.length : Nat) : Int) > 1048576 then some (.inr 2) else some (.inl ())))) ((plunderref8_Refuses_l1 K p0 K 0))

theorem plunderref8_Refuses_ok {z w : World} {L : List HProp} {K : Nat} {p0 p1 : List Int} {va0 va1 : Option Addr} {vc0 vc1 : Nat} {r0 : Int} (H : plunderref8_Refuses K p0 p1 = some r0) (h : Fit z (sepL (L)) w) (hv0 : RdRow L 1 encZ_i64 va0 p0) (hv1 : RdRow L 1 encZ_i64 va1 p1) :
    Calls Try.prog 69 #[.slice va0 p0.length vc0, .slice va1 p1.length vc1] w fun e w => e = .returned (vI r0) ∧ Fit z (sepL (L)) w := by
 unfold plunderref8_Refuses at H
 refine enter Try.func69 rfl 32 rfl rfl [(0, .slice va0 p0.length vc0), (1, .slice va1 p1.length vc1)] ⟨rfl, rfl, trivial⟩ ?_
 intro j a hr
 refine sr ?_
 refine o1 hr (vI 0) fun a hr => ?_
 refine ln ?_
 obtain ⟨o2, H, hK1⟩ := jd0 H
 refine cut_rule (β := Unit) (fun _ a w => .inl () = o2 ∧ ∃ j, Rep 32 (lk [(0, .slice va0 p0.length vc0)] j) a ∧ Fit z (sepL (L)) w) ?_ ?_
 ·
  refine sr ?_
  refine oo [6, 7, 8, 9] [.slice va0 p0.length vc0, vI ((p0.length : Nat) : Int), vB (decide (((p0.length : Nat) : Int) > 64)), vB (decide (((p0.length : Nat) : Int) > 64))] hr fun a hr => ?_
  by_cases c3 : ((p0.length : Nat) : Int) > 64
  ·
   replace H := ifT c3 H
   refine offl (decide_eq_true c3) [10, 11, 12] hr fun a hr => ?_
   refine opv (wn rfl) hr (vB true) (rp_t (b := (decide (((p0.length : Nat) : Int) > 64))) rfl (by kernel_rfl) (decide_eq_true c3) (by kernel_rfl)) fun a hr => ?_
   refine ln ?_
   refine cond_tt hr (b := true) rfl ?_
   refine sr ?_
   refine o1 hr (vI 2) fun a hr => ?_
   refine ln ?_
   refine wp_ret ?_
   refine then_ret ?_
   refine end_ret1 (v := vI 2) rfl hr (by kernel_rfl) ?_
   replace H := jx0 H hK1
   replace H := ej1 H; subst H
   exact ⟨rfl, h⟩
  ·
   replace H := ifF c3 H
   refine onl (decide_eq_false c3) [10, 11, 12] [.slice va1 p1.length vc1, vI ((p1.length : Nat) : Int), vB (decide (((p1.length : Nat) : Int) > 1048576))] hr fun a hr => ?_
   refine opv (wn rfl) hr (vB (decide (((p1.length : Nat) : Int) > 1048576))) (rp_f (b := (decide (((p0.length : Nat) : Int) > 64))) rfl (by kernel_rfl) (decide_eq_false c3) (by kernel_rfl)) fun a hr => ?_
   refine ln ?_
   refine cD hr H (fun c4 H => ?_) fun c4 H => ?_
   ·
    refine sr ?_
    refine o1 hr (vI 2) fun a hr => ?_
    refine ln ?_
    refine wp_ret ?_
    refine then_ret ?_
    refine end_ret1 (v := vI 2) rfl hr (by kernel_rfl) ?_
    replace H := jx0 H hK1
    replace H := ej1 H; subst H
    exact ⟨rfl, h⟩
   ·
    refine wp_skip ?_
    refine then_normal ?_
    exact ⟨(), sinj H, hr.fj h⟩
 clear h hr a; rintro _ a w ⟨rfl, j, hr, h⟩
 replace H := jk0 hK1
 refine wp_seq ?_
 refine sr ?_
 refine o1 hr (vI 0) fun a hr => ?_
 refine ln ?_
 refine wp_block ?_
 refine loop_rule (β := Nat) id (fun m a w => ∃ g5 : Int, (plunderref8_Refuses_l1 K p0 m g5) = some r0 ∧ ∃ j, Rep 32 (lk [(0, .slice va0 p0.length vc0), (5, vI g5)] j) a ∧ Fit z (sepL (L)) w) K ⟨0, H, hr.fj h⟩ ?_
 clear h hr a H; rintro k1 a w ⟨g5, H, j, hr, h⟩
 cases k1 with
 | zero => exact absurd H (by simp [plunderref8_Refuses_l1])
 | succ k1 =>
  rw [plunderref8_Refuses_l1] at H
  refine wp_seq ?_
  refine sr ?_
  refine oo [14, 15, 16, 17] [vI g5, .slice va0 p0.length vc0, vI ((p0.length : Nat) : Int), vB (decide (g5 < ((p0.length : Nat) : Int)))] hr fun a hr => ?_
  refine ln ?_
  refine cD hr H (fun c6 H => ?_) fun c6 H => ?_
  ·
   refine wp_skip ?_
   refine then_normal ?_
   refine wp_seq ?_
   refine wp_block ?_
   refine sr ?_
   obtain ⟨c7, H⟩ := gd H
   refine oo [20, 21] [.slice va0 p0.length vc0, vI g5] hr fun a hr => ?_
   refine opv (wn rfl) hr (pA (blk va0) (offs va0 + g5.toNat * 1)) (ri_rd (k := .i64) (E := 3) (cc := vc0) rfl (by kernel_rfl) (by kernel_rfl) rfl (by kernel_rfl) (by kernel_rfl) hv0 c7) fun a hr => ?_
   refine ld (wn rfl) hr (vI (at_ p0 g5.toNat)) (hv0.cell c7 (h.dn 0) 0 rfl) fun a hr => ?_
   refine oo [24, 25] [vB (decide ((at_ p0 g5.toNat) < 0)), vB (decide ((at_ p0 g5.toNat) < 0))] hr fun a hr => ?_
   by_cases c8 : (at_ p0 g5.toNat) < 0
   ·
    replace H := ifT c8 H
    refine offl (decide_eq_true c8) [26, 27, 28, 29, 30] hr fun a hr => ?_
    refine opv (wn rfl) hr (vB true) (rp_t (b := (decide ((at_ p0 g5.toNat) < 0))) rfl (by kernel_rfl) (decide_eq_true c8) (by kernel_rfl)) fun a hr => ?_
    refine ln ?_
    refine cond_tt hr (b := true) rfl ?_
    refine sr ?_
    refine o1 hr (vI 80) fun a hr => ?_
    refine ln ?_
    refine wp_ret ?_
    refine blk_ret ?_
    refine then_ret ?_
    refine then_ret ?_
    refine blk_ret ?_
    refine then_ret ?_
    refine end_ret1 (v := vI 80) rfl hr (by kernel_rfl) ?_
    replace H := ej1 H; subst H
    exact ⟨rfl, h⟩
   ·
    replace H := ifF c8 H
    refine onl (decide_eq_false c8) [26, 27] [.slice va0 p0.length vc0, vI g5] hr fun a hr => ?_
    refine opv (wgt hr (decide_eq_false c8)) hr (pA (blk va0) (offs va0 + g5.toNat * 1)) (ri_rd (k := .i64) (E := 3) (cc := vc0) rfl (by kernel_rfl) (by kernel_rfl) rfl (by kernel_rfl) (by kernel_rfl) hv0 c7) fun a hr => ?_
    refine ld (wgt hr (decide_eq_false c8)) hr (vI (at_ p0 g5.toNat)) (hv0.cell c7 (h.dn 0) 0 rfl) fun a hr => ?_
    refine onl (decide_eq_false c8) [30] [vB (decide ((at_ p0 g5.toNat) > 8))] hr fun a hr => ?_
    refine opv (wn rfl) hr (vB (decide ((at_ p0 g5.toNat) > 8))) (rp_f (b := (decide ((at_ p0 g5.toNat) < 0))) rfl (by kernel_rfl) (decide_eq_false c8) (by kernel_rfl)) fun a hr => ?_
    refine ln ?_
    refine cD hr H (fun c9 H => ?_) fun c9 H => ?_
    ·
     refine sr ?_
     refine o1 hr (vI 80) fun a hr => ?_
     refine ln ?_
     refine wp_ret ?_
     refine blk_ret ?_
     refine then_ret ?_
     refine then_ret ?_
     refine blk_ret ?_
     refine then_ret ?_
     refine end_ret1 (v := vI 80) rfl hr (by kernel_rfl) ?_
     replace H := ej1 H; subst H
     exact ⟨rfl, h⟩
    ·
     refine wp_skip ?_
     refine blk_normal ?_
     refine then_normal ?_
     refine wp_region_lit ?_
     refine oo [18, 19, 5] [vI g5, vI (wi (g5 + 1)), vI (wi (g5 + 1))] hr fun a hr => ?_
     refine ln ?_
     exact ⟨_, ⟨(wi (g5 + 1)), H, hr.fj h⟩, Nat.lt_succ_self _⟩
  ·
   refine wp_exit ?_
   refine then_exit ?_
   refine then_exit ?_
   refine blk_here ?_
   refine then_normal ?_
   refine sr ?_
   refine o1 hr (vI 0) fun a hr => ?_
   refine ln ?_
   refine wp_ret ?_
   refine end_ret1 (v := vI 0) rfl hr (by kernel_rfl) ?_
   replace H := ej1 H; subst H
   exact ⟨rfl, h⟩

def plunderref8_Scene_count_l1 (K : Nat) (p0 : T_plunderref8_Scene) : Nat → Int → Int → Option (Int)
  | 0, _, _ => none
  | k1 + 1, g13, g14 => (if g14 < ((p0.Actors.length : Nat) : Int) then if inr_ g14 p0.Actors.length then (if (at_ p0.Actors g14.toNat).Does = 11 then (plunderref8_Scene_count_l1 K p0 k1 g13 (wi (g14 + 1))) else (plunderref8_Scene_count_l1 K p0 k1 (wi (g13 + 1)) (wi (g14 + 1)))) else none else some g13)
/-- (*plunder/plunderref8.Scene).count -/
def plunderref8_Scene_count (K : Nat) (p0 : T_plunderref8_Scene) (p0_Rounds : List Int) : Option (Int) :=
  (plunderref8_Scene_count_l1 K p0 K 0 0)

theorem plunderref8_Scene_count_ok {z w : World} {L : List HProp} {K : Nat} {p0 : T_plunderref8_Scene} {p0_Rounds : List Int} {B0 vc0_Rounds cc2 cc4 cc6 cc8 cc10 cc12 : Nat} {va0_Rounds ca1 ca3 ca5 ca7 ca9 ca11 : Option Addr} {r0 : Int} (H : plunderref8_Scene_count K p0 p0_Rounds = some r0) (h : Fit z (sepL (ob128 B0 p0 (.slice va0_Rounds p0_Rounds.length vc0_Rounds) ca1 cc2 ca3 cc4 ca5 cc6 ca7 cc8 ca9 cc10 ca11 cc12 :: ro2 ca1 cc2 p0.Marks :: ro125 ca3 cc4 p0.Actors :: ro3 ca5 cc6 p0.Run_Holders :: rn31 ca7 cc8 p0.Run_Reads :: ro2 ca9 cc10 p0.Run_Marks :: ro96 ca11 cc12 p0.Run_Log :: L)) w) (hv0_Rounds : RdRow L 1 encZ_i64 va0_Rounds p0_Rounds) :
    Calls Try.prog 70 #[pA B0 0] w fun e w => e = .returned (vI r0) ∧ Fit z (sepL (ob128 B0 p0 (.slice va0_Rounds p0_Rounds.length vc0_Rounds) ca1 cc2 ca3 cc4 ca5 cc6 ca7 cc8 ca9 cc10 ca11 cc12 :: ro2 ca1 cc2 p0.Marks :: ro125 ca3 cc4 p0.Actors :: ro3 ca5 cc6 p0.Run_Holders :: rn31 ca7 cc8 p0.Run_Reads :: ro2 ca9 cc10 p0.Run_Marks :: ro96 ca11 cc12 p0.Run_Log :: L)) w := by
 unfold plunderref8_Scene_count at H
 refine enter Try.func70 rfl 26 rfl rfl [(0, pA B0 0)] ⟨rfl, trivial⟩ ?_
 intro j a hr
 refine sr ?_
 refine o1 hr (vI 0) fun a hr => ?_
 refine ln ?_
 refine sr ?_
 refine o1 hr (vI 0) fun a hr => ?_
 refine ln ?_
 refine wp_seq ?_
 refine sr ?_
 refine o1 hr (vI 0) fun a hr => ?_
 refine ln ?_
 refine wp_block ?_
 refine loop_rule (β := Nat) id (fun m a w => ∃ g13 : Int, ∃ g14 : Int, (plunderref8_Scene_count_l1 K p0 m g13 g14) = some r0 ∧ ∃ j, Rep 26 (lk [(0, pA B0 0), (3, vI g13), (4, vI g14)] j) a ∧ Fit z (sepL (ob128 B0 p0 (.slice va0_Rounds p0_Rounds.length vc0_Rounds) ca1 cc2 ca3 cc4 ca5 cc6 ca7 cc8 ca9 cc10 ca11 cc12 :: ro2 ca1 cc2 p0.Marks :: ro125 ca3 cc4 p0.Actors :: ro3 ca5 cc6 p0.Run_Holders :: rn31 ca7 cc8 p0.Run_Reads :: ro2 ca9 cc10 p0.Run_Marks :: ro96 ca11 cc12 p0.Run_Log :: L)) w) K ⟨0, 0, H, hr.fj h⟩ ?_
 clear h hr a H; rintro k1 a w ⟨g13, g14, H, j, hr, h⟩
 cases k1 with
 | zero => exact absurd H (by simp [plunderref8_Scene_count_l1])
 | succ k1 =>
  rw [plunderref8_Scene_count_l1] at H
  refine wp_seq ?_
  refine sr ?_
  refine oo [5, 6, 7, 8] [vI g14, pA B0 0, pA B0 0, pA B0 15] hr fun a hr => ?_
  refine ld (wn rfl) hr (.slice ca3 p0.Actors.length cc4) (h.cell 15 rfl) fun a hr => ?_
  refine oo [10, 11] [vI ((p0.Actors.length : Nat) : Int), vB (decide (g14 < ((p0.Actors.length : Nat) : Int)))] hr fun a hr => ?_
  refine ln ?_
  refine cD hr H (fun c15 H => ?_) fun c15 H => ?_
  ·
   refine wp_skip ?_
   refine then_normal ?_
   refine wp_seq ?_
   refine wp_block ?_
   refine sr ?_
   refine oo [14, 15, 16] [pA B0 0, pA B0 0, pA B0 15] hr fun a hr => ?_
   refine ld (wn rfl) hr (.slice ca3 p0.Actors.length cc4) (h.cell 15 rfl) fun a hr => ?_
   obtain ⟨c16, H⟩ := gd H
   refine o1 hr (vI g14) fun a hr => ?_
   refine opv (wn rfl) hr (pA (blk ca3) (g14.toNat * 4)) (ri_row (k := .i64) (E := 125) rfl (by kernel_rfl) (by kernel_rfl) (by kernel_rfl) (by kernel_rfl) (h.pick 2) c16) fun a hr => ?_
   refine o1 hr (pA (blk ca3) (g14.toNat * 4)) fun a hr => ?_
   refine ld (wn rfl) hr (vI (at_ p0.Actors g14.toNat).Does) ((h.pick 2).row_cell enc_T_plunderref8_Actor_ok (f := 0) (at_ok c16) rfl) fun a hr => ?_
   refine o1 hr (vB ((at_ p0.Actors g14.toNat).Does != 11)) fun a hr => ?_
   refine ln ?_
   refine cN hr H (fun c17 H => ?_) fun c17 H => ?_
   ·
    refine wp_skip ?_
    refine blk_normal ?_
    refine then_normal ?_
    refine wp_region_lit ?_
    refine oo [12, 13, 4] [vI g14, vI (wi (g14 + 1)), vI (wi (g14 + 1))] hr fun a hr => ?_
    refine ln ?_
    exact ⟨_, ⟨g13, (wi (g14 + 1)), H, hr.fj h⟩, Nat.lt_succ_self _⟩
   ·
    refine wp_region_lit ?_
    refine oo [23, 24, 3] [vI g13, vI (wi (g13 + 1)), vI (wi (g13 + 1))] hr fun a hr => ?_
    refine wpList_nil ?_
    refine blk_normal ?_
    refine then_normal ?_
    refine wp_region_lit ?_
    refine oo [12, 13, 4] [vI g14, vI (wi (g14 + 1)), vI (wi (g14 + 1))] hr fun a hr => ?_
    refine ln ?_
    exact ⟨_, ⟨(wi (g13 + 1)), (wi (g14 + 1)), H, hr.fj h⟩, Nat.lt_succ_self _⟩
  ·
   refine wp_exit ?_
   refine then_exit ?_
   refine then_exit ?_
   refine blk_here ?_
   refine then_normal ?_
   refine sr ?_
   refine oo [25, 2] [vI g13, vI g13] hr fun a hr => ?_
   refine ln ?_
   refine wp_ret ?_
   refine end_ret1 (v := vI g13) rfl hr (by kernel_rfl) ?_
   replace H := ej1 H; subst H
   exact ⟨rfl, h⟩

/-- plunder/plunderref8.mod -/
def plunderref8_mod (p0 : Int) (p1 : Int) : Option (Int) :=
  if p1 ≠ 0 then (if (p0.tmod p1) < 0 then some (wi ((p0.tmod p1) + p1)) else some (p0.tmod p1)) else none

theorem plunderref8_mod_ok {z w : World} {L : List HProp} {p0 p1 r0 : Int} (H : plunderref8_mod p0 p1 = some r0) (h : Fit z (sepL (L)) w)  :
    Calls Try.prog 72 #[vI p0, vI p1] w fun e w => e = .returned (vI r0) ∧ Fit z (sepL (L)) w := by
 unfold plunderref8_mod at H
 refine enter Try.func72 rfl 15 rfl rfl [(0, vI p0), (1, vI p1)] ⟨rfl, rfl, trivial⟩ ?_
 intro j a hr
 refine sr ?_
 refine o1 hr (vI 0) fun a hr => ?_
 refine ln ?_
 refine sr ?_
 obtain ⟨c1, H⟩ := gd H
 refine oo [6, 7] [vI p0, vI p1] hr fun a hr => ?_
 refine opv (wn rfl) hr (vI (p0.tmod p1)) (rrem rfl (by kernel_rfl) (by kernel_rfl) c1) fun a hr => ?_
 refine o1 hr (vI (p0.tmod p1)) fun a hr => ?_
 refine ln ?_
 refine wp_seq ?_
 refine sr ?_
 refine oo [9, 10] [vI (p0.tmod p1), vB (decide ((p0.tmod p1) < 0))] hr fun a hr => ?_
 refine ln ?_
 refine cD hr H (fun c2 H => ?_) fun c2 H => ?_
 ·
  refine wp_region_lit ?_
  refine oo [11, 12, 13, 5] [vI (p0.tmod p1), vI p1, vI (wi ((p0.tmod p1) + p1)), vI (wi ((p0.tmod p1) + p1))] hr fun a hr => ?_
  refine ln ?_
  refine sr ?_
  refine oo [14, 4] [vI (wi ((p0.tmod p1) + p1)), vI (wi ((p0.tmod p1) + p1))] hr fun a hr => ?_
  refine ln ?_
  refine wp_ret ?_
  refine end_ret1 (v := vI (wi ((p0.tmod p1) + p1))) rfl hr (by kernel_rfl) ?_
  replace H := ej1 H; subst H
  exact ⟨rfl, h⟩
 ·
  refine wp_skip ?_
  refine then_normal ?_
  refine sr ?_
  refine oo [14, 4] [vI (p0.tmod p1), vI (p0.tmod p1)] hr fun a hr => ?_
  refine ln ?_
  refine wp_ret ?_
  refine end_ret1 (v := vI (p0.tmod p1)) rfl hr (by kernel_rfl) ?_
  replace H := ej1 H; subst H
  exact ⟨rfl, h⟩

def plunderref8_Scene_live_l1 (K : Nat) (p0 : T_plunderref8_Scene) : Nat → Int → Int → Option (Int)
  | 0, _, _ => none
  | k1 + 1, g13, g14 => (if g14 < ((p0.Actors.length : Nat) : Int) then if inr_ g14 p0.Actors.length then (if (at_ p0.Actors g14.toNat).Does = 11 then (plunderref8_Scene_live_l1 K p0 k1 g13 (wi (g14 + 1))) else (if g13 = 0 then some g14 else (plunderref8_Scene_live_l1 K p0 k1 (wi (g13 - 1)) (wi (g14 + 1))))) else none else some (-1))
/-- (*plunder/plunderref8.Scene).live -/
def plunderref8_Scene_live (K : Nat) (p0 : T_plunderref8_Scene) (p0_Rounds : List Int) (p1 : Int) : Option (Int) :=
  (plunderref8_Scene_live_l1 K p0 K p1 0)

theorem plunderref8_Scene_live_ok {z w : World} {L : List HProp} {K : Nat} {p0 : T_plunderref8_Scene} {p0_Rounds : List Int} {p1 r0 : Int} {B0 vc0_Rounds cc2 cc4 cc6 cc8 cc10 cc12 : Nat} {va0_Rounds ca1 ca3 ca5 ca7 ca9 ca11 : Option Addr} (H : plunderref8_Scene_live K p0 p0_Rounds p1 = some r0) (h : Fit z (sepL (ob128 B0 p0 (.slice va0_Rounds p0_Rounds.length vc0_Rounds) ca1 cc2 ca3 cc4 ca5 cc6 ca7 cc8 ca9 cc10 ca11 cc12 :: ro2 ca1 cc2 p0.Marks :: ro125 ca3 cc4 p0.Actors :: ro3 ca5 cc6 p0.Run_Holders :: rn31 ca7 cc8 p0.Run_Reads :: ro2 ca9 cc10 p0.Run_Marks :: ro96 ca11 cc12 p0.Run_Log :: L)) w) (hv0_Rounds : RdRow L 1 encZ_i64 va0_Rounds p0_Rounds) :
    Calls Try.prog 71 #[pA B0 0, vI p1] w fun e w => e = .returned (vI r0) ∧ Fit z (sepL (ob128 B0 p0 (.slice va0_Rounds p0_Rounds.length vc0_Rounds) ca1 cc2 ca3 cc4 ca5 cc6 ca7 cc8 ca9 cc10 ca11 cc12 :: ro2 ca1 cc2 p0.Marks :: ro125 ca3 cc4 p0.Actors :: ro3 ca5 cc6 p0.Run_Holders :: rn31 ca7 cc8 p0.Run_Reads :: ro2 ca9 cc10 p0.Run_Marks :: ro96 ca11 cc12 p0.Run_Log :: L)) w := by
 unfold plunderref8_Scene_live at H
 refine enter Try.func71 rfl 29 rfl rfl [(0, pA B0 0), (1, vI p1)] ⟨rfl, rfl, trivial⟩ ?_
 intro j a hr
 refine sr ?_
 refine o1 hr (vI 0) fun a hr => ?_
 refine ln ?_
 refine wp_seq ?_
 refine sr ?_
 refine o1 hr (vI 0) fun a hr => ?_
 refine ln ?_
 refine wp_block ?_
 refine loop_rule (β := Nat) id (fun m a w => ∃ g13 : Int, ∃ g14 : Int, (plunderref8_Scene_live_l1 K p0 m g13 g14) = some r0 ∧ ∃ j, Rep 29 (lk [(0, pA B0 0), (1, vI g13), (5, vI g14)] j) a ∧ Fit z (sepL (ob128 B0 p0 (.slice va0_Rounds p0_Rounds.length vc0_Rounds) ca1 cc2 ca3 cc4 ca5 cc6 ca7 cc8 ca9 cc10 ca11 cc12 :: ro2 ca1 cc2 p0.Marks :: ro125 ca3 cc4 p0.Actors :: ro3 ca5 cc6 p0.Run_Holders :: rn31 ca7 cc8 p0.Run_Reads :: ro2 ca9 cc10 p0.Run_Marks :: ro96 ca11 cc12 p0.Run_Log :: L)) w) K ⟨p1, 0, H, hr.fj h⟩ ?_
 clear h hr a H; rintro k1 a w ⟨g13, g14, H, j, hr, h⟩
 cases k1 with
 | zero => exact absurd H (by simp [plunderref8_Scene_live_l1])
 | succ k1 =>
  rw [plunderref8_Scene_live_l1] at H
  refine wp_seq ?_
  refine sr ?_
  refine oo [6, 7, 8, 9] [vI g14, pA B0 0, pA B0 0, pA B0 15] hr fun a hr => ?_
  refine ld (wn rfl) hr (.slice ca3 p0.Actors.length cc4) (h.cell 15 rfl) fun a hr => ?_
  refine oo [11, 12] [vI ((p0.Actors.length : Nat) : Int), vB (decide (g14 < ((p0.Actors.length : Nat) : Int)))] hr fun a hr => ?_
  refine ln ?_
  refine cD hr H (fun c15 H => ?_) fun c15 H => ?_
  ·
   refine wp_skip ?_
   refine then_normal ?_
   refine wp_seq ?_
   refine wp_block ?_
   refine sr ?_
   refine oo [15, 16, 17] [pA B0 0, pA B0 0, pA B0 15] hr fun a hr => ?_
   refine ld (wn rfl) hr (.slice ca3 p0.Actors.length cc4) (h.cell 15 rfl) fun a hr => ?_
   obtain ⟨c16, H⟩ := gd H
   refine o1 hr (vI g14) fun a hr => ?_
   refine opv (wn rfl) hr (pA (blk ca3) (g14.toNat * 4)) (ri_row (k := .i64) (E := 125) rfl (by kernel_rfl) (by kernel_rfl) (by kernel_rfl) (by kernel_rfl) (h.pick 2) c16) fun a hr => ?_
   refine o1 hr (pA (blk ca3) (g14.toNat * 4)) fun a hr => ?_
   refine ld (wn rfl) hr (vI (at_ p0.Actors g14.toNat).Does) ((h.pick 2).row_cell enc_T_plunderref8_Actor_ok (f := 0) (at_ok c16) rfl) fun a hr => ?_
   refine o1 hr (vB ((at_ p0.Actors g14.toNat).Does != 11)) fun a hr => ?_
   refine ln ?_
   refine cN hr H (fun c17 H => ?_) fun c17 H => ?_
   ·
    refine wp_skip ?_
    refine blk_normal ?_
    refine then_normal ?_
    refine wp_region_lit ?_
    refine oo [13, 14, 5] [vI g14, vI (wi (g14 + 1)), vI (wi (g14 + 1))] hr fun a hr => ?_
    refine ln ?_
    exact ⟨_, ⟨g13, (wi (g14 + 1)), H, hr.fj h⟩, Nat.lt_succ_self _⟩
   ·
    refine wp_seq ?_
    refine sr ?_
    refine oo [24, 25] [vI g13, vB (g13 == 0)] hr fun a hr => ?_
    refine ln ?_
    refine cD hr H (fun c18 H => ?_) fun c18 H => ?_
    ·
     refine sr ?_
     refine oo [26, 4] [vI g14, vI g14] hr fun a hr => ?_
     refine ln ?_
     refine wp_ret ?_
     refine then_ret ?_
     refine blk_ret ?_
     refine then_ret ?_
     refine then_ret ?_
     refine blk_ret ?_
     refine then_ret ?_
     refine end_ret1 (v := vI g14) rfl hr (by kernel_rfl) ?_
     replace H := ej1 H; subst H
     exact ⟨rfl, h⟩
    ·
     refine wp_skip ?_
     refine then_normal ?_
     refine wp_region_lit ?_
     refine oo [27, 28, 1] [vI g13, vI (wi (g13 - 1)), vI (wi (g13 - 1))] hr fun a hr => ?_
     refine wpList_nil ?_
     refine blk_normal ?_
     refine then_normal ?_
     refine wp_region_lit ?_
     refine oo [13, 14, 5] [vI g14, vI (wi (g14 + 1)), vI (wi (g14 + 1))] hr fun a hr => ?_
     refine ln ?_
     exact ⟨_, ⟨(wi (g13 - 1)), (wi (g14 + 1)), H, hr.fj h⟩, Nat.lt_succ_self _⟩
  ·
   refine wp_exit ?_
   refine then_exit ?_
   refine then_exit ?_
   refine blk_here ?_
   refine then_normal ?_
   refine sr ?_
   refine o1 hr (vI (-1)) fun a hr => ?_
   refine ln ?_
   refine wp_ret ?_
   refine end_ret1 (v := vI (-1)) rfl hr (by kernel_rfl) ?_
   replace H := ej1 H; subst H
   exact ⟨rfl, h⟩

/-- (*plunder/plunderref8.Scene).note -/
def plunderref8_Scene_note (p0 : T_plunderref8_Scene) (p0_Rounds : List Int) (p1 : Int) (p2 : Int) (p3 : Int) (p4 : Int) (p5 : Int) : Option (T_plunderref8_Scene) :=
  if (p0.Run_Log.length + 1) * 48 ≤ 140737488355328 then some ({ p0 with Run_Log := p0.Run_Log ++ [(⟨p1, p2, p3, p4, p5, true⟩ : T_api_Access)] }) else none

theorem plunderref8_Scene_note_ok {z w : World} {L : List HProp} {p0 q0 : T_plunderref8_Scene} {p0_Rounds : List Int} {p1 p2 p3 p4 p5 : Int} {B0 vc0_Rounds cc2 cc4 cc6 cc8 cc10 cc12 : Nat} {va0_Rounds ca1 ca3 ca5 ca7 ca9 ca11 : Option Addr} (H : plunderref8_Scene_note p0 p0_Rounds p1 p2 p3 p4 p5 = some q0) (h : Fit z (sepL (ob128 B0 p0 (.slice va0_Rounds p0_Rounds.length vc0_Rounds) ca1 cc2 ca3 cc4 ca5 cc6 ca7 cc8 ca9 cc10 ca11 cc12 :: ro2 ca1 cc2 p0.Marks :: ro125 ca3 cc4 p0.Actors :: ro3 ca5 cc6 p0.Run_Holders :: rn31 ca7 cc8 p0.Run_Reads :: ro2 ca9 cc10 p0.Run_Marks :: ro96 ca11 cc12 p0.Run_Log :: L)) w) (hv0_Rounds : RdRow L 1 encZ_i64 va0_Rounds p0_Rounds) :
    Calls Try.prog 93 #[pA B0 0, vI p1, vI p2, vI p3, vI p4, vI p5] w fun e w => ∃ caq0_11 ccq0_12, e = .returned (.tuple #[]) ∧ Fit z (sepL (pts B0 (.cells #[.slice va0_Rounds p0_Rounds.length vc0_Rounds, vI p0.Round, vI p0.Forked, vI p0.Fetched, vI p0.Join, vI p0.Slots_0, vI p0.Slots_1, vI p0.Slots_2, vI p0.Slots_3, vI p0.Slots_4, vI p0.Slots_5, vI p0.Slots_6, vI p0.Slots_7, .slice ca1 p0.Marks.length cc2, vI p0.Taken, .slice ca3 p0.Actors.length cc4, vB p0.Run_Done, vI p0.Run_Steps, .slice ca5 p0.Run_Holders.length cc6, .slice ca7 p0.Run_Reads.length cc8, .slice ca9 p0.Run_Marks.length cc10, .slice caq0_11 q0.Run_Log.length ccq0_12] 128) :: ro2 ca1 cc2 p0.Marks :: ro125 ca3 cc4 p0.Actors :: ro3 ca5 cc6 p0.Run_Holders :: rn31 ca7 cc8 p0.Run_Reads :: ro2 ca9 cc10 p0.Run_Marks :: ro96 caq0_11 ccq0_12 q0.Run_Log :: L)) w := by
 unfold plunderref8_Scene_note at H
 refine enter Try.func93 rfl 29 rfl rfl [(0, pA B0 0), (1, vI p1), (2, vI p2), (3, vI p3), (4, vI p4), (5, vI p5)] ⟨rfl, rfl, rfl, rfl, rfl, rfl, trivial⟩ ?_
 intro j a hr
 refine wp_region_lit ?_
 refine oo [12, 13, 14, 15, 16] [pA B0 0, pA B0 0, pA B0 0, pA B0 16, pA B0 21] hr fun a hr => ?_
 refine ld (wn rfl) hr (.slice ca11 p0.Run_Log.length cc12) (h.cell 21 rfl) fun a hr => ?_
 refine oo [18, 19, 20, 21, 22, 23] [vI p1, vI p2, vI p3, vI p4, vI p5, .agg #[vI p1, vI p2, vI p3, vI p4, vI p5, vB true]] hr fun a hr => ?_
 refine onew (wn rfl) hr h (fun b => .slice (some ⟨b, 0, none⟩) 1 1) (#[vI p1, vI p2, vI p3, vI p4, vI p5, vB true]) 96 fun b13 w a h hr => ?_
 replace h := h.m7
 obtain ⟨c16, H⟩ := gd H
 refine op_append (n0 := p0.Run_Log.length) (c := 1) (bytes := 48) (wn rfl) rfl rfl hr rfl (by kernel_rfl) (by kernel_rfl) enc_T_api_Access_ok (E := 96) (xs := p0.Run_Log) (by kernel_rfl) (by kernel_rfl) h (news := [(⟨p1, p2, p3, p4, p5, true⟩ : T_api_Access)]) (m := 1) rfl ((h.pick 1).news rfl) c16 rfl fun ca14 cc15 w a h hr => ?_
 refine oo [26, 27, 28] [pA B0 0, pA B0 16, pA B0 21] hr fun a hr => ?_
 replace h := h.m2
 refine st1 (wn rfl) hr h 21 (.slice ca14 (p0.Run_Log ++ [(⟨p1, p2, p3, p4, p5, true⟩ : T_api_Access)]).length cc15) (pts B0 (.cells #[.slice va0_Rounds p0_Rounds.length vc0_Rounds, vI p0.Round, vI p0.Forked, vI p0.Fetched, vI p0.Join, vI p0.Slots_0, vI p0.Slots_1, vI p0.Slots_2, vI p0.Slots_3, vI p0.Slots_4, vI p0.Slots_5, vI p0.Slots_6, vI p0.Slots_7, .slice ca1 p0.Marks.length cc2, vI p0.Taken, .slice ca3 p0.Actors.length cc4, vB p0.Run_Done, vI p0.Run_Steps, .slice ca5 p0.Run_Holders.length cc6, .slice ca7 p0.Run_Reads.length cc8, .slice ca9 p0.Run_Marks.length cc10, .slice ca14 (p0.Run_Log ++ [(⟨p1, p2, p3, p4, p5, true⟩ : T_api_Access)]).length cc15] 128)) fun w h => ?_
 refine wpList_nil ?_
 refine end_norm0 rfl hr ?_
 replace H := ej1 H; subst H
 exact ⟨ca14, cc15, rfl, h.se 8 [0, 3, 4, 5, 6, 7, 1]⟩

/-- (*plunder/plunderref8.Scene).take -/
def plunderref8_Scene_take (p0 : T_plunderref8_Scene) (p0_Rounds : List Int) (p1 : Int) : Option (Int × T_plunderref8_Scene) :=
  ob1 (plunderref8_Scene_note ({ p0 with Taken := wi (p0.Taken + 1) }) p0_Rounds p1 3 0 1 (wi (p0.Taken + 1))) (fun S13 => some (wi ((wi (p0.Taken + 1)) - 1), { p0 with Taken := wi (p0.Taken + 1), Run_Log := S13.Run_Log }))

theorem plunderref8_Scene_take_ok {z w : World} {L : List HProp} {p0 q0 : T_plunderref8_Scene} {p0_Rounds : List Int} {p1 r0 : Int} {B0 vc0_Rounds cc2 cc4 cc6 cc8 cc10 cc12 : Nat} {va0_Rounds ca1 ca3 ca5 ca7 ca9 ca11 : Option Addr} (H : plunderref8_Scene_take p0 p0_Rounds p1 = some (r0, q0)) (h : Fit z (sepL (ob128 B0 p0 (.slice va0_Rounds p0_Rounds.length vc0_Rounds) ca1 cc2 ca3 cc4 ca5 cc6 ca7 cc8 ca9 cc10 ca11 cc12 :: ro2 ca1 cc2 p0.Marks :: ro125 ca3 cc4 p0.Actors :: ro3 ca5 cc6 p0.Run_Holders :: rn31 ca7 cc8 p0.Run_Reads :: ro2 ca9 cc10 p0.Run_Marks :: ro96 ca11 cc12 p0.Run_Log :: L)) w) (hv0_Rounds : RdRow L 1 encZ_i64 va0_Rounds p0_Rounds) :
    Calls Try.prog 87 #[pA B0 0, vI p1] w fun e w => ∃ caq0_11 ccq0_12, e = .returned (vI r0) ∧ Fit z (sepL (pts B0 (.cells #[.slice va0_Rounds p0_Rounds.length vc0_Rounds, vI p0.Round, vI p0.Forked, vI p0.Fetched, vI p0.Join, vI p0.Slots_0, vI p0.Slots_1, vI p0.Slots_2, vI p0.Slots_3, vI p0.Slots_4, vI p0.Slots_5, vI p0.Slots_6, vI p0.Slots_7, .slice ca1 p0.Marks.length cc2, vI q0.Taken, .slice ca3 p0.Actors.length cc4, vB p0.Run_Done, vI p0.Run_Steps, .slice ca5 p0.Run_Holders.length cc6, .slice ca7 p0.Run_Reads.length cc8, .slice ca9 p0.Run_Marks.length cc10, .slice caq0_11 q0.Run_Log.length ccq0_12] 128) :: ro2 ca1 cc2 p0.Marks :: ro125 ca3 cc4 p0.Actors :: ro3 ca5 cc6 p0.Run_Holders :: rn31 ca7 cc8 p0.Run_Reads :: ro2 ca9 cc10 p0.Run_Marks :: ro96 caq0_11 ccq0_12 q0.Run_Log :: L)) w := by
 unfold plunderref8_Scene_take at H
 refine enter Try.func87 rfl 25 rfl rfl [(0, pA B0 0), (1, vI p1)] ⟨rfl, rfl, trivial⟩ ?_
 intro j a hr
 refine sr ?_
 refine o1 hr (vI 0) fun a hr => ?_
 refine ln ?_
 refine sr ?_
 refine oo [5, 6, 7, 8] [pA B0 0, pA B0 0, pA B0 0, pA B0 14] hr fun a hr => ?_
 refine ld (wn rfl) hr (vI p0.Taken) (h.cell 14 rfl) fun a hr => ?_
 refine oo [10, 11, 12] [vI (wi (p0.Taken + 1)), pA B0 0, pA B0 14] hr fun a hr => ?_
 refine st1 (wn rfl) hr h 14 (vI (wi (p0.Taken + 1))) (pts B0 (.cells #[.slice va0_Rounds p0_Rounds.length vc0_Rounds, vI p0.Round, vI p0.Forked, vI p0.Fetched, vI p0.Join, vI p0.Slots_0, vI p0.Slots_1, vI p0.Slots_2, vI p0.Slots_3, vI p0.Slots_4, vI p0.Slots_5, vI p0.Slots_6, vI p0.Slots_7, .slice ca1 p0.Marks.length cc2, vI (wi (p0.Taken + 1)), .slice ca3 p0.Actors.length cc4, vB p0.Run_Done, vI p0.Run_Steps, .slice ca5 p0.Run_Holders.length cc6, .slice ca7 p0.Run_Reads.length cc8, .slice ca9 p0.Run_Marks.length cc10, .slice ca11 p0.Run_Log.length cc12] 128)) fun w h => ?_
 refine ln ?_
 refine sr ?_
 refine oo [13, 14, 15, 16, 17] [pA B0 0, vI p1, pA B0 0, pA B0 0, pA B0 14] hr fun a hr => ?_
 refine ld (wn rfl) hr (vI (wi (p0.Taken + 1))) (h.cell 14 rfl) fun a hr => ?_
 obtain ⟨S13, e14, H⟩ := bd1 H
 have hc := plunderref8_Scene_note_ok (va0_Rounds := va0_Rounds) (vc0_Rounds := vc0_Rounds) (hv0_Rounds := (RdRow.up 0 hv0_Rounds)) (H := e14) (h := h)
 refine cl (wn rfl) hr hc ?_; clear hc h
 rintro _ w ⟨caq15, ccq16, rfl, h⟩; refine ⟨_, rfl, fun a hr => ?_⟩
 refine ln ?_
 refine sr ?_
 refine oo [20, 21, 22] [pA B0 0, pA B0 0, pA B0 14] hr fun a hr => ?_
 refine ld (wn rfl) hr (vI (wi (p0.Taken + 1))) (h.cell 14 rfl) fun a hr => ?_
 refine oo [24, 4] [vI (wi ((wi (p0.Taken + 1)) - 1)), vI (wi ((wi (p0.Taken + 1)) - 1))] hr fun a hr => ?_
 refine ln ?_
 refine wp_ret ?_
 refine end_ret1 (v := vI (wi ((wi (p0.Taken + 1)) - 1))) rfl hr (by kernel_rfl) ?_
 obtain ⟨rfl, rfl⟩ := ej2 H
 exact ⟨caq15, ccq16, rfl, h⟩

/-- plunder/plunderref8.frameAt -/
def plunderref8_frameAt (p0 : Int) : Option (Int) :=
  some (wi ((1 : Int) + (wi ((10 : Int) * p0))))

theorem plunderref8_frameAt_ok {z w : World} {L : List HProp} {p0 r0 : Int} (H : plunderref8_frameAt p0 = some r0) (h : Fit z (sepL (L)) w)  :
    Calls Try.prog 94 #[vI p0] w fun e w => e = .returned (vI r0) ∧ Fit z (sepL (L)) w := by
 unfold plunderref8_frameAt at H
 refine enter Try.func94 rfl 6 rfl rfl [(0, vI p0)] ⟨rfl, trivial⟩ ?_
 intro j a hr
 refine sr ?_
 refine o1 hr (vI 0) fun a hr => ?_
 refine ln ?_
 refine sr ?_
 refine oo [3, 4, 5, 2] [vI p0, vI (wi ((10 : Int) * p0)), vI (wi ((1 : Int) + (wi ((10 : Int) * p0)))), vI (wi ((1 : Int) + (wi ((10 : Int) * p0))))] hr fun a hr => ?_
 refine ln ?_
 refine wp_ret ?_
 refine end_ret1 (v := vI (wi ((1 : Int) + (wi ((10 : Int) * p0))))) rfl hr (by kernel_rfl) ?_
 replace H := ej1 H; subst H
 exact ⟨rfl, h⟩

/-- (*plunder/plunderref8.Scene).begins -/
def plunderref8_Scene_begins (p0 : T_plunderref8_Scene) (p0_Rounds : List Int) (p1 : Int) (p2 : Int) : Option (T_plunderref8_Scene) :=
  if inr_ p2 p0.Marks.length then ob1 (plunderref8_frameAt p2) (fun r15 => if inr_ p2 (p0.Marks.set p2.toNat (wi ((at_ p0.Marks p2.toNat) + 1))).length then ob1 (plunderref8_Scene_note ({ p0 with Marks := p0.Marks.set p2.toNat (wi ((at_ p0.Marks p2.toNat) + 1)) }) p0_Rounds p1 3 (wi (r15 + 1)) 1 (wi ((at_ p0.Marks p2.toNat) + 1))) (fun S18 => some ({ p0 with Marks := p0.Marks.set p2.toNat (wi ((at_ p0.Marks p2.toNat) + 1)), Run_Log := S18.Run_Log })) else none) else none

theorem plunderref8_Scene_begins_ok {z w : World} {L : List HProp} {p0 q0 : T_plunderref8_Scene} {p0_Rounds : List Int} {p1 p2 : Int} {B0 vc0_Rounds cc2 cc4 cc6 cc8 cc10 cc12 : Nat} {va0_Rounds ca1 ca3 ca5 ca7 ca9 ca11 : Option Addr} (H : plunderref8_Scene_begins p0 p0_Rounds p1 p2 = some q0) (h : Fit z (sepL (ob128 B0 p0 (.slice va0_Rounds p0_Rounds.length vc0_Rounds) ca1 cc2 ca3 cc4 ca5 cc6 ca7 cc8 ca9 cc10 ca11 cc12 :: ro2 ca1 cc2 p0.Marks :: ro125 ca3 cc4 p0.Actors :: ro3 ca5 cc6 p0.Run_Holders :: rn31 ca7 cc8 p0.Run_Reads :: ro2 ca9 cc10 p0.Run_Marks :: ro96 ca11 cc12 p0.Run_Log :: L)) w) (hv0_Rounds : RdRow L 1 encZ_i64 va0_Rounds p0_Rounds) :
    Calls Try.prog 88 #[pA B0 0, vI p1, vI p2] w fun e w => ∃ caq0_1 ccq0_2 caq0_11 ccq0_12, e = .returned (.tuple #[]) ∧ Fit z (sepL (pts B0 (.cells #[.slice va0_Rounds p0_Rounds.length vc0_Rounds, vI p0.Round, vI p0.Forked, vI p0.Fetched, vI p0.Join, vI p0.Slots_0, vI p0.Slots_1, vI p0.Slots_2, vI p0.Slots_3, vI p0.Slots_4, vI p0.Slots_5, vI p0.Slots_6, vI p0.Slots_7, .slice caq0_1 q0.Marks.length ccq0_2, vI p0.Taken, .slice ca3 p0.Actors.length cc4, vB p0.Run_Done, vI p0.Run_Steps, .slice ca5 p0.Run_Holders.length cc6, .slice ca7 p0.Run_Reads.length cc8, .slice ca9 p0.Run_Marks.length cc10, .slice caq0_11 q0.Run_Log.length ccq0_12] 128) :: ro2 caq0_1 ccq0_2 q0.Marks :: ro125 ca3 cc4 p0.Actors :: ro3 ca5 cc6 p0.Run_Holders :: rn31 ca7 cc8 p0.Run_Reads :: ro2 ca9 cc10 p0.Run_Marks :: ro96 caq0_11 ccq0_12 q0.Run_Log :: L)) w := by
 unfold plunderref8_Scene_begins at H
 refine enter Try.func88 rfl 33 rfl rfl [(0, pA B0 0), (1, vI p1), (2, vI p2)] ⟨rfl, rfl, rfl, trivial⟩ ?_
 intro j a hr
 refine wp_seq ?_
 obtain ⟨c13, H⟩ := gd H
 refine regL [(B0, 13, [.slice ca1 p0.Marks.length cc2]), (B0, 13, [.slice ca1 p0.Marks.length cc2]), (blk ca1, p2.toNat * 1, [vI (at_ p0.Marks p2.toNat)])] [1, 2, 6, 7, 10, 12] 15 h (fun h => ⟨⟨h.cell 13 rfl, trivial⟩, ⟨h.cell 13 rfl, trivial⟩, ⟨(h.pick 1).row_cell encZ_i64_ok (f := 0) (at_ok c13) rfl, trivial⟩, trivial⟩) fun w h hd => ?_
 refine evs' hd 7 [(0, 6, pA B0 0), (1, 7, pA B0 0), (2, 8, pA B0 13), (4, 10, vI p2), (5, 11, pA B0 0), (6, 12, pA B0 0), (7, 13, pA B0 13), (9, 15, vI p2)] hr fun a hr => ?_
 refine elx hd 0 6 3 hr (wn rfl) rfl rfl fun a hr => ?_
 refine elx hd 1 5 8 hr (wn rfl) rfl rfl fun a hr => ?_
 refine eon hd 4 10 rfl (wn rfl) hr (pA (blk ca1) (p2.toNat * 1)) (hrun := fun w => ri_row (k := .i64) (E := 2) rfl (by kernel_rfl) (by kernel_rfl) (by kernel_rfl) (by kernel_rfl) (h.pick 1) c13) fun a hr => ?_
 refine elx hd 2 3 11 hr (wn rfl) rfl rfl fun a hr => ?_
 refine evs' hd 2 [(12, 18, vI (wi ((at_ p0.Marks p2.toNat) + 1)))] hr fun a hr => ?_
 refine eon hd 1 13 rfl (wn rfl) hr (pA (blk ca1) (p2.toNat * 1)) (hrun := fun w => ri_row (k := .i64) (E := 2) rfl (by kernel_rfl) (by kernel_rfl) (by kernel_rfl) (by kernel_rfl) (h.pick 1) c13) fun a hr => ?_
 refine eo1 14 rfl ?_
 replace h := h.m1
 refine stor (wn rfl) hr encZ_i64_ok h p2.toNat 0 (vI (wi ((at_ p0.Marks p2.toNat) + 1))) (at_ p0.Marks p2.toNat) (wi ((at_ p0.Marks p2.toNat) + 1)) (at_ok c13) fun w h => ?_
 refine ln ?_
 refine xE ?_
 refine een ?_
 refine then_normal ?_
 have hn13 : p0.Marks.length = (p0.Marks.set p2.toNat (wi ((at_ p0.Marks p2.toNat) + 1))).length := h.row_n; replace h := Fit.ren1 hn13 (fun q_ => rowOf 2 1 encZ_i64 (.slice ca1 q_ cc2) (p0.Marks.set p2.toNat (wi ((at_ p0.Marks p2.toNat) + 1)))) (fun q_ => pts B0 (.cells #[.slice va0_Rounds p0_Rounds.length vc0_Rounds, vI p0.Round, vI p0.Forked, vI p0.Fetched, vI p0.Join, vI p0.Slots_0, vI p0.Slots_1, vI p0.Slots_2, vI p0.Slots_3, vI p0.Slots_4, vI p0.Slots_5, vI p0.Slots_6, vI p0.Slots_7, .slice ca1 q_ cc2, vI p0.Taken, .slice ca3 p0.Actors.length cc4, vB p0.Run_Done, vI p0.Run_Steps, .slice ca5 p0.Run_Holders.length cc6, .slice ca7 p0.Run_Reads.length cc8, .slice ca9 p0.Run_Marks.length cc10, .slice ca11 p0.Run_Log.length cc12] 128)) h
 replace hr := hr.re 9 (congrArg (fun q_ => Value.slice ca1 q_ cc2) hn13)
 replace hr := hr.re 14 (congrArg (fun q_ => Value.slice ca1 q_ cc2) hn13)
 obtain ⟨r15, e16, H⟩ := bd1 H
 obtain ⟨c17, H⟩ := gd H
 obtain ⟨S18, e19, H⟩ := bd1 H
 refine regL [(B0, 13, [.slice ca1 (p0.Marks.set p2.toNat (wi ((at_ p0.Marks p2.toNat) + 1))).length cc2]), (blk ca1, p2.toNat * 1, [vI (wi ((at_ p0.Marks p2.toNat) + 1))])] [3, 4, 6, 7, 10] 13 h (fun h => ⟨⟨(h.pick 1).cell 13 rfl, trivial⟩, ⟨h.row_cell encZ_i64_ok (f := 0) (get_set ((at_okL (by simpa [inr_] using c17)))) rfl, trivial⟩, trivial⟩) fun w h hd => ?_
 refine evs' hd 6 [(0, 20, pA B0 0), (1, 21, vI p1), (2, 22, vI p2), (5, 25, pA B0 0), (6, 26, pA B0 0), (7, 27, pA B0 13), (9, 29, vI p2)] hr fun a hr => ?_
 refine elx hd 0 5 8 hr (wn rfl) rfl rfl fun a hr => ?_
 refine eon hd 4 10 rfl (wn rfl) hr (pA (blk ca1) (p2.toNat * 1)) (hrun := fun w => ri_row (k := .i64) (E := 2) rfl (by kernel_rfl) (by kernel_rfl) (by kernel_rfl) (by kernel_rfl) h c17) fun a hr => ?_
 refine elx hd 1 3 11 hr (wn rfl) rfl rfl fun a hr => ?_
 refine eo1 3 rfl ?_
 have hc := plunderref8_frameAt_ok (H := e16) (h := h)
 refine cl (wn rfl) hr hc ?_; clear hc h
 rintro _ w ⟨rfl, h⟩; refine ⟨_, rfl, fun a hr => ?_⟩
 refine ln ?_
 refine eE ⟨⟨(h.pick 1).cell 13 rfl, trivial⟩, ⟨h.row_cell encZ_i64_ok (f := 0) (get_set ((at_okL (by simpa [inr_] using c17)))) rfl, trivial⟩, trivial⟩ fun hd => ?_
 refine evs' hd 1 [(4, 24, vI (wi (r15 + 1)))] hr fun a hr => ?_
 refine eo1 12 rfl ?_
 replace h := h.m6.m6.m6.m6.m6.m5.m6
 have hc := plunderref8_Scene_note_ok (va0_Rounds := va0_Rounds) (vc0_Rounds := vc0_Rounds) (hv0_Rounds := (RdRow.up 0 hv0_Rounds)) (H := e19) (h := h)
 refine cl (wn rfl) hr hc ?_; clear hc h
 rintro _ w ⟨caq20, ccq21, rfl, h⟩; refine ⟨_, rfl, fun a hr => ?_⟩
 refine ln ?_
 refine xE ?_
 refine een ?_
 refine end_norm0 rfl hr ?_
 replace H := ej1 H; subst H
 exact ⟨ca1, cc2, caq20, ccq21, rfl, h⟩

/-- (*plunder/plunderref8.Scene).goes -/
def plunderref8_Scene_goes (p0 : T_plunderref8_Scene) (p0_Rounds : List Int) (p1 : Int) : Option (T_plunderref8_Scene) :=
  (if p0.Round = ((p0_Rounds.length : Nat) : Int) then if inr_ p1 p0.Actors.length then some ({ p0 with Actors := p0.Actors.set p1.toNat ({ at_ p0.Actors p1.toNat with Does := 11 }), Run_Done := true }) else none else if inr_ p0.Round p0_Rounds.length then (if p0.Forked < (at_ p0_Rounds p0.Round.toNat) then if inr_ p1 p0.Actors.length then some ({ p0 with Actors := p0.Actors.set p1.toNat ({ at_ p0.Actors p1.toNat with Does := 2 }) }) else none else if inr_ p1 p0.Actors.length then some ({ p0 with Actors := p0.Actors.set p1.toNat ({ at_ p0.Actors p1.toNat with Does := 4 }) }) else none) else none)

theorem plunderref8_Scene_goes_ok {z w : World} {L : List HProp} {p0 q0 : T_plunderref8_Scene} {p0_Rounds : List Int} {p1 : Int} {B0 vc0_Rounds cc2 cc4 cc6 cc8 cc10 cc12 : Nat} {va0_Rounds ca1 ca3 ca5 ca7 ca9 ca11 : Option Addr} (H : plunderref8_Scene_goes p0 p0_Rounds p1 = some q0) (h : Fit z (sepL (ob128 B0 p0 (.slice va0_Rounds p0_Rounds.length vc0_Rounds) ca1 cc2 ca3 cc4 ca5 cc6 ca7 cc8 ca9 cc10 ca11 cc12 :: ro2 ca1 cc2 p0.Marks :: ro125 ca3 cc4 p0.Actors :: ro3 ca5 cc6 p0.Run_Holders :: rn31 ca7 cc8 p0.Run_Reads :: ro2 ca9 cc10 p0.Run_Marks :: ro96 ca11 cc12 p0.Run_Log :: L)) w) (hv0_Rounds : RdRow L 1 encZ_i64 va0_Rounds p0_Rounds) :
    Calls Try.prog 89 #[pA B0 0, vI p1] w fun e w => ∃ caq0_1 ccq0_2 caq0_3 ccq0_4 caq0_5 ccq0_6 caq0_7 ccq0_8 caq0_9 ccq0_10 caq0_11 ccq0_12, e = .returned (.tuple #[]) ∧ Fit z (sepL (ob128 B0 q0 (.slice va0_Rounds p0_Rounds.length vc0_Rounds) caq0_1 ccq0_2 caq0_3 ccq0_4 caq0_5 ccq0_6 caq0_7 ccq0_8 caq0_9 ccq0_10 caq0_11 ccq0_12 :: ro2 caq0_1 ccq0_2 q0.Marks :: ro125 caq0_3 ccq0_4 q0.Actors :: ro3 caq0_5 ccq0_6 q0.Run_Holders :: rn31 caq0_7 ccq0_8 q0.Run_Reads :: ro2 caq0_9 ccq0_10 q0.Run_Marks :: ro96 caq0_11 ccq0_12 q0.Run_Log :: L)) w := by
 unfold plunderref8_Scene_goes at H
 refine enter Try.func89 rfl 56 rfl rfl [(0, pA B0 0), (1, vI p1)] ⟨rfl, rfl, trivial⟩ ?_
 intro j a hr
 refine wp_block ?_
 refine wp_seq ?_
 refine regL [(B0, 1, [vI p0.Round]), (B0, 0, [.slice va0_Rounds p0_Rounds.length vc0_Rounds])] [1, 2, 5, 6, 8] 11 h (fun h => ⟨⟨h.cell 1 rfl, trivial⟩, ⟨h.cell 0 rfl, trivial⟩, trivial⟩) fun w h hd => ?_
 refine evs' hd 5 [(0, 12, pA B0 0), (1, 13, pA B0 0), (2, 14, pA B0 1), (4, 16, pA B0 0), (5, 17, pA B0 0), (6, 18, pA B0 0)] hr fun a hr => ?_
 refine elx hd 0 4 3 hr (wn rfl) rfl rfl fun a hr => ?_
 refine elx hd 1 3 7 hr (wn rfl) rfl rfl fun a hr => ?_
 refine evs' hd 0 [(8, 20, vI ((p0_Rounds.length : Nat) : Int)), (9, 21, vB (p0.Round == ((p0_Rounds.length : Nat) : Int))), (10, 11, vB (p0.Round == ((p0_Rounds.length : Nat) : Int)))] hr fun a hr => ?_
 refine een ?_
 refine then_normal ?_
 refine cD hr H (fun c13 H => ?_) fun c13 H => ?_
 ·
  refine sr ?_
  refine oo [22, 23, 24] [pA B0 0, pA B0 0, pA B0 15] hr fun a hr => ?_
  refine ld (wn rfl) hr (.slice ca3 p0.Actors.length cc4) (h.cell 15 rfl) fun a hr => ?_
  obtain ⟨c14, H⟩ := gd H
  refine o1 hr (vI p1) fun a hr => ?_
  refine opv (wn rfl) hr (pA (blk ca3) (p1.toNat * 4)) (ri_row (k := .i64) (E := 125) rfl (by kernel_rfl) (by kernel_rfl) (by kernel_rfl) (by kernel_rfl) (h.pick 2) c14) fun a hr => ?_
  refine o1 hr (pA (blk ca3) (p1.toNat * 4)) fun a hr => ?_
  replace h := h.m2
  refine stor (wn rfl) hr enc_T_plunderref8_Actor_ok h p1.toNat 0 (vI 11) (at_ p0.Actors p1.toNat) ({ at_ p0.Actors p1.toNat with Does := 11 }) (at_ok c14) fun w h => ?_
  refine ln ?_
  refine wp_region_lit ?_
  refine oo [29, 30, 31, 32] [pA B0 0, pA B0 0, pA B0 16, pA B0 16] hr fun a hr => ?_
  replace h := h.m1
  refine st1 (wn rfl) hr h 16 (vB true) (pts B0 (.cells #[.slice va0_Rounds p0_Rounds.length vc0_Rounds, vI p0.Round, vI p0.Forked, vI p0.Fetched, vI p0.Join, vI p0.Slots_0, vI p0.Slots_1, vI p0.Slots_2, vI p0.Slots_3, vI p0.Slots_4, vI p0.Slots_5, vI p0.Slots_6, vI p0.Slots_7, .slice ca1 p0.Marks.length cc2, vI p0.Taken, .slice ca3 p0.Actors.length cc4, vB true, vI p0.Run_Steps, .slice ca5 p0.Run_Holders.length cc6, .slice ca7 p0.Run_Reads.length cc8, .slice ca9 p0.Run_Marks.length cc10, .slice ca11 p0.Run_Log.length cc12] 128)) fun w h => ?_
  refine wpList_nil ?_
  refine blk_normal ?_
  refine end_norm0 rfl hr ?_
  replace h := h.m1
  have hn14 : p0.Actors.length = (p0.Actors.set p1.toNat ({ at_ p0.Actors p1.toNat with Does := 11 })).length := h.row_n; replace h := Fit.ren1 hn14 (fun q_ => rowOf 125 4 enc_T_plunderref8_Actor (.slice ca3 q_ cc4) (p0.Actors.set p1.toNat ({ at_ p0.Actors p1.toNat with Does := 11 }))) (fun q_ => pts B0 (.cells #[.slice va0_Rounds p0_Rounds.length vc0_Rounds, vI p0.Round, vI p0.Forked, vI p0.Fetched, vI p0.Join, vI p0.Slots_0, vI p0.Slots_1, vI p0.Slots_2, vI p0.Slots_3, vI p0.Slots_4, vI p0.Slots_5, vI p0.Slots_6, vI p0.Slots_7, .slice ca1 p0.Marks.length cc2, vI p0.Taken, .slice ca3 q_ cc4, vB true, vI p0.Run_Steps, .slice ca5 p0.Run_Holders.length cc6, .slice ca7 p0.Run_Reads.length cc8, .slice ca9 p0.Run_Marks.length cc10, .slice ca11 p0.Run_Log.length cc12] 128)) h
  replace H := ej1 H; subst H
  exact ⟨ca1, cc2, ca3, cc4, ca5, cc6, ca7, cc8, ca9, cc10, ca11, cc12, rfl, h.se 7 [1, 2, 0, 3, 4, 5, 6]⟩
 ·
  refine wp_seq ?_
  obtain ⟨c16, H⟩ := gd H
  refine regL [(B0, 2, [vI p0.Forked]), (B0, 0, [.slice va0_Rounds p0_Rounds.length vc0_Rounds]), (B0, 1, [vI p0.Round]), (blk va0_Rounds, offs va0_Rounds + p0.Round.toNat * 1, [vI (at_ p0_Rounds p0.Round.toNat)])] [1, 2, 5, 6, 9, 10, 12] 16 h (fun h => ⟨⟨h.cell 2 rfl, trivial⟩, ⟨h.cell 0 rfl, trivial⟩, ⟨h.cell 1 rfl, trivial⟩, ⟨hv0_Rounds.cell c16 (h.dn 7) 0 rfl, trivial⟩, trivial⟩) fun w h hd => ?_
  refine evs' hd 7 [(0, 34, pA B0 0), (1, 35, pA B0 0), (2, 36, pA B0 2), (4, 38, pA B0 0), (5, 39, pA B0 0), (6, 40, pA B0 0), (8, 42, pA B0 0), (9, 43, pA B0 0), (10, 44, pA B0 1)] hr fun a hr => ?_
  refine elx hd 0 6 3 hr (wn rfl) rfl rfl fun a hr => ?_
  refine elx hd 1 5 7 hr (wn rfl) rfl rfl fun a hr => ?_
  refine elx hd 2 4 11 hr (wn rfl) rfl rfl fun a hr => ?_
  refine eon hd 3 12 rfl (wn rfl) hr (pA (blk va0_Rounds) (offs va0_Rounds + p0.Round.toNat * 1)) (hrun := fun w => ri_rd (k := .i64) (E := 3) (cc := vc0_Rounds) rfl (by kernel_rfl) (by kernel_rfl) rfl (by kernel_rfl) (by kernel_rfl) hv0_Rounds c16) fun a hr => ?_
  refine elx hd 3 2 13 hr (wn rfl) rfl rfl fun a hr => ?_
  refine evs' hd 0 [(14, 48, vB (decide (p0.Forked < (at_ p0_Rounds p0.Round.toNat)))), (15, 33, vB (decide (p0.Forked < (at_ p0_Rounds p0.Round.toNat))))] hr fun a hr => ?_
  refine een ?_
  refine then_normal ?_
  refine cD hr H (fun c17 H => ?_) fun c17 H => ?_
  ·
   refine wp_region_lit ?_
   refine oo [49, 50, 51] [pA B0 0, pA B0 0, pA B0 15] hr fun a hr => ?_
   refine ld (wn rfl) hr (.slice ca3 p0.Actors.length cc4) (h.cell 15 rfl) fun a hr => ?_
   obtain ⟨c18, H⟩ := gd H
   refine o1 hr (vI p1) fun a hr => ?_
   refine opv (wn rfl) hr (pA (blk ca3) (p1.toNat * 4)) (ri_row (k := .i64) (E := 125) rfl (by kernel_rfl) (by kernel_rfl) (by kernel_rfl) (by kernel_rfl) (h.pick 2) c18) fun a hr => ?_
   refine o1 hr (pA (blk ca3) (p1.toNat * 4)) fun a hr => ?_
   replace h := h.m2
   refine stor (wn rfl) hr enc_T_plunderref8_Actor_ok h p1.toNat 0 (vI 2) (at_ p0.Actors p1.toNat) ({ at_ p0.Actors p1.toNat with Does := 2 }) (at_ok c18) fun w h => ?_
   refine wpList_nil ?_
   refine blk_normal ?_
   refine end_norm0 rfl hr ?_
   have hn18 : p0.Actors.length = (p0.Actors.set p1.toNat ({ at_ p0.Actors p1.toNat with Does := 2 })).length := h.row_n; replace h := Fit.ren1 hn18 (fun q_ => rowOf 125 4 enc_T_plunderref8_Actor (.slice ca3 q_ cc4) (p0.Actors.set p1.toNat ({ at_ p0.Actors p1.toNat with Does := 2 }))) (fun q_ => pts B0 (.cells #[.slice va0_Rounds p0_Rounds.length vc0_Rounds, vI p0.Round, vI p0.Forked, vI p0.Fetched, vI p0.Join, vI p0.Slots_0, vI p0.Slots_1, vI p0.Slots_2, vI p0.Slots_3, vI p0.Slots_4, vI p0.Slots_5, vI p0.Slots_6, vI p0.Slots_7, .slice ca1 p0.Marks.length cc2, vI p0.Taken, .slice ca3 q_ cc4, vB p0.Run_Done, vI p0.Run_Steps, .slice ca5 p0.Run_Holders.length cc6, .slice ca7 p0.Run_Reads.length cc8, .slice ca9 p0.Run_Marks.length cc10, .slice ca11 p0.Run_Log.length cc12] 128)) h
   replace H := ej1 H; subst H
   exact ⟨ca1, cc2, ca3, cc4, ca5, cc6, ca7, cc8, ca9, cc10, ca11, cc12, rfl, h.se 7 [1, 2, 0, 3, 4, 5, 6]⟩
  ·
   refine wp_region_lit ?_
   refine oo [4, 5, 6] [pA B0 0, pA B0 0, pA B0 15] hr fun a hr => ?_
   refine ld (wn rfl) hr (.slice ca3 p0.Actors.length cc4) (h.cell 15 rfl) fun a hr => ?_
   obtain ⟨c20, H⟩ := gd H
   refine o1 hr (vI p1) fun a hr => ?_
   refine opv (wn rfl) hr (pA (blk ca3) (p1.toNat * 4)) (ri_row (k := .i64) (E := 125) rfl (by kernel_rfl) (by kernel_rfl) (by kernel_rfl) (by kernel_rfl) (h.pick 2) c20) fun a hr => ?_
   refine o1 hr (pA (blk ca3) (p1.toNat * 4)) fun a hr => ?_
   replace h := h.m2
   refine stor (wn rfl) hr enc_T_plunderref8_Actor_ok h p1.toNat 0 (vI 4) (at_ p0.Actors p1.toNat) ({ at_ p0.Actors p1.toNat with Does := 4 }) (at_ok c20) fun w h => ?_
   refine wpList_nil ?_
   refine blk_normal ?_
   refine end_norm0 rfl hr ?_
   have hn20 : p0.Actors.length = (p0.Actors.set p1.toNat ({ at_ p0.Actors p1.toNat with Does := 4 })).length := h.row_n; replace h := Fit.ren1 hn20 (fun q_ => rowOf 125 4 enc_T_plunderref8_Actor (.slice ca3 q_ cc4) (p0.Actors.set p1.toNat ({ at_ p0.Actors p1.toNat with Does := 4 }))) (fun q_ => pts B0 (.cells #[.slice va0_Rounds p0_Rounds.length vc0_Rounds, vI p0.Round, vI p0.Forked, vI p0.Fetched, vI p0.Join, vI p0.Slots_0, vI p0.Slots_1, vI p0.Slots_2, vI p0.Slots_3, vI p0.Slots_4, vI p0.Slots_5, vI p0.Slots_6, vI p0.Slots_7, .slice ca1 p0.Marks.length cc2, vI p0.Taken, .slice ca3 q_ cc4, vB p0.Run_Done, vI p0.Run_Steps, .slice ca5 p0.Run_Holders.length cc6, .slice ca7 p0.Run_Reads.length cc8, .slice ca9 p0.Run_Marks.length cc10, .slice ca11 p0.Run_Log.length cc12] 128)) h
   replace H := ej1 H; subst H
   exact ⟨ca1, cc2, ca3, cc4, ca5, cc6, ca7, cc8, ca9, cc10, ca11, cc12, rfl, h.se 7 [1, 2, 0, 3, 4, 5, 6]⟩

/-- (*plunder/plunderref8.Scene).joins -/
def plunderref8_Scene_joins (p0 : T_plunderref8_Scene) (p0_Rounds : List Int) (p1 : Int) (p2 : Int) : Option (T_plunderref8_Scene) :=
  ob1 (plunderref8_frameAt 0) (fun r13 => ob1 (plunderref8_Scene_note ({ p0 with Join := wi (p0.Join + p2) }) p0_Rounds p1 3 r13 p2 (wi (p0.Join + p2))) (fun S15 => some ({ p0 with Join := wi (p0.Join + p2), Run_Log := S15.Run_Log })))

theorem plunderref8_Scene_joins_ok {z w : World} {L : List HProp} {p0 q0 : T_plunderref8_Scene} {p0_Rounds : List Int} {p1 p2 : Int} {B0 vc0_Rounds cc2 cc4 cc6 cc8 cc10 cc12 : Nat} {va0_Rounds ca1 ca3 ca5 ca7 ca9 ca11 : Option Addr} (H : plunderref8_Scene_joins p0 p0_Rounds p1 p2 = some q0) (h : Fit z (sepL (ob128 B0 p0 (.slice va0_Rounds p0_Rounds.length vc0_Rounds) ca1 cc2 ca3 cc4 ca5 cc6 ca7 cc8 ca9 cc10 ca11 cc12 :: ro2 ca1 cc2 p0.Marks :: ro125 ca3 cc4 p0.Actors :: ro3 ca5 cc6 p0.Run_Holders :: rn31 ca7 cc8 p0.Run_Reads :: ro2 ca9 cc10 p0.Run_Marks :: ro96 ca11 cc12 p0.Run_Log :: L)) w) (hv0_Rounds : RdRow L 1 encZ_i64 va0_Rounds p0_Rounds) :
    Calls Try.prog 91 #[pA B0 0, vI p1, vI p2] w fun e w => ∃ caq0_11 ccq0_12, e = .returned (.tuple #[]) ∧ Fit z (sepL (pts B0 (.cells #[.slice va0_Rounds p0_Rounds.length vc0_Rounds, vI p0.Round, vI p0.Forked, vI p0.Fetched, vI q0.Join, vI p0.Slots_0, vI p0.Slots_1, vI p0.Slots_2, vI p0.Slots_3, vI p0.Slots_4, vI p0.Slots_5, vI p0.Slots_6, vI p0.Slots_7, .slice ca1 p0.Marks.length cc2, vI p0.Taken, .slice ca3 p0.Actors.length cc4, vB p0.Run_Done, vI p0.Run_Steps, .slice ca5 p0.Run_Holders.length cc6, .slice ca7 p0.Run_Reads.length cc8, .slice ca9 p0.Run_Marks.length cc10, .slice caq0_11 q0.Run_Log.length ccq0_12] 128) :: ro2 ca1 cc2 p0.Marks :: ro125 ca3 cc4 p0.Actors :: ro3 ca5 cc6 p0.Run_Holders :: rn31 ca7 cc8 p0.Run_Reads :: ro2 ca9 cc10 p0.Run_Marks :: ro96 caq0_11 ccq0_12 q0.Run_Log :: L)) w := by
 unfold plunderref8_Scene_joins at H
 refine enter Try.func91 rfl 24 rfl rfl [(0, pA B0 0), (1, vI p1), (2, vI p2)] ⟨rfl, rfl, rfl, trivial⟩ ?_
 intro j a hr
 refine sr ?_
 refine oo [6, 7, 8, 9] [pA B0 0, pA B0 0, pA B0 0, pA B0 4] hr fun a hr => ?_
 refine ld (wn rfl) hr (vI p0.Join) (h.cell 4 rfl) fun a hr => ?_
 refine oo [11, 12, 13, 14] [vI p2, vI (wi (p0.Join + p2)), pA B0 0, pA B0 4] hr fun a hr => ?_
 refine st1 (wn rfl) hr h 4 (vI (wi (p0.Join + p2))) (pts B0 (.cells #[.slice va0_Rounds p0_Rounds.length vc0_Rounds, vI p0.Round, vI p0.Forked, vI p0.Fetched, vI (wi (p0.Join + p2)), vI p0.Slots_0, vI p0.Slots_1, vI p0.Slots_2, vI p0.Slots_3, vI p0.Slots_4, vI p0.Slots_5, vI p0.Slots_6, vI p0.Slots_7, .slice ca1 p0.Marks.length cc2, vI p0.Taken, .slice ca3 p0.Actors.length cc4, vB p0.Run_Done, vI p0.Run_Steps, .slice ca5 p0.Run_Holders.length cc6, .slice ca7 p0.Run_Reads.length cc8, .slice ca9 p0.Run_Marks.length cc10, .slice ca11 p0.Run_Log.length cc12] 128)) fun w h => ?_
 refine ln ?_
 obtain ⟨r13, e14, H⟩ := bd1 H
 obtain ⟨S15, e16, H⟩ := bd1 H
 refine regL [(B0, 4, [vI (wi (p0.Join + p2))])] [2, 5, 6] 9 h (fun h => ⟨⟨h.cell 4 rfl, trivial⟩, trivial⟩) fun w h hd => ?_
 refine evs' hd 3 [(0, 15, pA B0 0), (1, 16, vI p1), (3, 18, vI p2), (4, 19, pA B0 0), (5, 20, pA B0 0), (6, 21, pA B0 4)] hr fun a hr => ?_
 refine elx hd 0 2 7 hr (wn rfl) rfl rfl fun a hr => ?_
 refine eo1 2 rfl ?_
 have hc := plunderref8_frameAt_ok (H := e14) (h := h)
 refine cl (wn rfl) hr hc ?_; clear hc h
 rintro _ w ⟨rfl, h⟩; refine ⟨_, rfl, fun a hr => ?_⟩
 refine ln ?_
 refine eE ⟨⟨h.cell 4 rfl, trivial⟩, trivial⟩ fun hd => ?_
 refine eo1 8 rfl ?_
 have hc := plunderref8_Scene_note_ok (va0_Rounds := va0_Rounds) (vc0_Rounds := vc0_Rounds) (hv0_Rounds := (RdRow.up 0 hv0_Rounds)) (H := e16) (h := h)
 refine cl (wn rfl) hr hc ?_; clear hc h
 rintro _ w ⟨caq17, ccq18, rfl, h⟩; refine ⟨_, rfl, fun a hr => ?_⟩
 refine ln ?_
 refine xE ?_
 refine een ?_
 refine end_norm0 rfl hr ?_
 replace H := ej1 H; subst H
 exact ⟨caq17, ccq18, rfl, h⟩

/-- (*plunder/plunderref8.Scene).forks -/
def plunderref8_Scene_forks (p0 : T_plunderref8_Scene) (p0_Rounds : List Int) (p1 : Int) : Option (T_plunderref8_Scene) :=
  if inr_ p1 p0.Actors.length then ob1 (plunderref8_Scene_joins p0 p0_Rounds p1 1) (fun S15 => if (p0.Actors.length + 1) * 32 ≤ 140737488355328 then ob1 (plunderref8_Scene_goes ({ p0 with Forked := wi (p0.Forked + 1), Join := S15.Join, Actors := p0.Actors ++ [(⟨7, (at_ p0.Actors p1.toNat).Frame, p0.Forked, wi ((wi ((100 : Int) * p0.Round)) + p0.Forked)⟩ : T_plunderref8_Actor)], Run_Log := S15.Run_Log }) p0_Rounds p1) (fun S23 => some S23) else none) else none

theorem plunderref8_Scene_forks_ok {z w : World} {L : List HProp} {p0 q0 : T_plunderref8_Scene} {p0_Rounds : List Int} {p1 : Int} {B0 vc0_Rounds cc2 cc4 cc6 cc8 cc10 cc12 : Nat} {va0_Rounds ca1 ca3 ca5 ca7 ca9 ca11 : Option Addr} (H : plunderref8_Scene_forks p0 p0_Rounds p1 = some q0) (h : Fit z (sepL (ob128 B0 p0 (.slice va0_Rounds p0_Rounds.length vc0_Rounds) ca1 cc2 ca3 cc4 ca5 cc6 ca7 cc8 ca9 cc10 ca11 cc12 :: ro2 ca1 cc2 p0.Marks :: ro125 ca3 cc4 p0.Actors :: ro3 ca5 cc6 p0.Run_Holders :: rn31 ca7 cc8 p0.Run_Reads :: ro2 ca9 cc10 p0.Run_Marks :: ro96 ca11 cc12 p0.Run_Log :: L)) w) (hv0_Rounds : RdRow L 1 encZ_i64 va0_Rounds p0_Rounds) :
    Calls Try.prog 90 #[pA B0 0, vI p1] w fun e w => ∃ caq0_1 ccq0_2 caq0_3 ccq0_4 caq0_5 ccq0_6 caq0_7 ccq0_8 caq0_9 ccq0_10 caq0_11 ccq0_12, e = .returned (.tuple #[]) ∧ Fit z (sepL (ob128 B0 q0 (.slice va0_Rounds p0_Rounds.length vc0_Rounds) caq0_1 ccq0_2 caq0_3 ccq0_4 caq0_5 ccq0_6 caq0_7 ccq0_8 caq0_9 ccq0_10 caq0_11 ccq0_12 :: ro2 caq0_1 ccq0_2 q0.Marks :: ro125 caq0_3 ccq0_4 q0.Actors :: ro3 caq0_5 ccq0_6 q0.Run_Holders :: rn31 caq0_7 ccq0_8 q0.Run_Reads :: ro2 caq0_9 ccq0_10 q0.Run_Marks :: ro96 caq0_11 ccq0_12 q0.Run_Log :: L)) w := by
 unfold plunderref8_Scene_forks at H
 refine enter Try.func90 rfl 52 rfl rfl [(0, pA B0 0), (1, vI p1)] ⟨rfl, rfl, trivial⟩ ?_
 intro j a hr
 refine sr ?_
 refine oo [5, 6, 7] [pA B0 0, pA B0 0, pA B0 15] hr fun a hr => ?_
 refine ld (wn rfl) hr (.slice ca3 p0.Actors.length cc4) (h.cell 15 rfl) fun a hr => ?_
 obtain ⟨c13, H⟩ := gd H
 refine o1 hr (vI p1) fun a hr => ?_
 refine opv (wn rfl) hr (pA (blk ca3) (p1.toNat * 4)) (ri_row (k := .i64) (E := 125) rfl (by kernel_rfl) (by kernel_rfl) (by kernel_rfl) (by kernel_rfl) (h.pick 2) c13) fun a hr => ?_
 refine ldm (wn rfl) hr (ag_T_plunderref8_Actor (at_ p0.Actors p1.toNat)) (cs := cl_T_plunderref8_Actor (at_ p0.Actors p1.toNat)) ⟨(h.pick 2).row_cell enc_T_plunderref8_Actor_ok (f := 0) (at_ok c13) rfl, (h.pick 2).row_cell enc_T_plunderref8_Actor_ok (f := 1) (at_ok c13) rfl, (h.pick 2).row_cell enc_T_plunderref8_Actor_ok (f := 2) (at_ok c13) rfl, (h.pick 2).row_cell enc_T_plunderref8_Actor_ok (f := 3) (at_ok c13) rfl, trivial⟩ fun a hr => ?_
 refine onew (wn rfl) hr h nb (#[vI 0, vI 0, vI 0, vI 0]) 125 fun b14 w a h hr => ?_
 refine stm (wn rfl) hr h 0 (cl_T_plunderref8_Actor (at_ p0.Actors p1.toNat)) (ob125 b14 (at_ p0.Actors p1.toNat)) fun w h => ?_
 refine ln ?_
 refine sr ?_
 obtain ⟨S15, e16, H⟩ := bd1 H
 refine oo [12, 13] [pA B0 0, vI p1] hr fun a hr => ?_
 replace h := h.m7.m7.m7.m7.m7.m7.m7
 have hc := plunderref8_Scene_joins_ok (va0_Rounds := va0_Rounds) (vc0_Rounds := vc0_Rounds) (hv0_Rounds := (RdRow.up 1 hv0_Rounds)) (H := e16) (h := h)
 refine cl (wn rfl) hr hc ?_; clear hc h
 rintro _ w ⟨caq17, ccq18, rfl, h⟩; refine ⟨_, rfl, fun a hr => ?_⟩
 refine ln ?_
 refine wp_seq ?_
 obtain ⟨c22, H⟩ := gd H
 refine regL [(B0, 15, [.slice ca3 p0.Actors.length cc4]), (b14, 1, [vI (at_ p0.Actors p1.toNat).Frame]), (B0, 2, [vI p0.Forked]), (B0, 1, [vI p0.Round]), (B0, 2, [vI p0.Forked])] [2, 3, 5, 8, 9, 12, 13, 15, 17, 18, 20, 21] 27 h (fun h => ⟨⟨h.cell 15 rfl, trivial⟩, ⟨(h.pick 7).cell 1 rfl, trivial⟩, ⟨h.cell 2 rfl, trivial⟩, ⟨h.cell 1 rfl, trivial⟩, ⟨h.cell 2 rfl, trivial⟩, trivial⟩) fun w h hd => ?_
 refine evs' hd 13 [(0, 15, pA B0 0), (1, 16, pA B0 0), (2, 17, pA B0 0), (3, 18, pA B0 15), (5, 20, pA b14 1), (7, 22, pA B0 0), (8, 23, pA B0 0), (9, 24, pA B0 2), (11, 26, pA B0 0), (12, 27, pA B0 0), (13, 28, pA B0 1), (16, 31, pA B0 0), (17, 32, pA B0 0), (18, 33, pA B0 2)] hr fun a hr => ?_
 refine elx hd 0 12 4 hr (wn rfl) rfl rfl fun a hr => ?_
 refine elx hd 1 11 6 hr (wn rfl) rfl rfl fun a hr => ?_
 refine elx hd 2 10 10 hr (wn rfl) rfl rfl fun a hr => ?_
 refine elx hd 3 9 14 hr (wn rfl) rfl rfl fun a hr => ?_
 refine evs' hd 8 [(15, 30, vI (wi ((100 : Int) * p0.Round)))] hr fun a hr => ?_
 refine elx hd 4 7 19 hr (wn rfl) rfl rfl fun a hr => ?_
 refine evs' hd 5 [(20, 35, vI (wi ((wi ((100 : Int) * p0.Round)) + p0.Forked))), (21, 36, .agg #[vI 7, vI (at_ p0.Actors p1.toNat).Frame, vI p0.Forked, vI (wi ((wi ((100 : Int) * p0.Round)) + p0.Forked))])] hr fun a hr => ?_
 refine eo1 22 rfl ?_
 refine onew (wn rfl) hr h (fun b => .slice (some ⟨b, 0, none⟩) 1 1) (#[vI 7, vI (at_ p0.Actors p1.toNat).Frame, vI p0.Forked, vI (wi ((wi ((100 : Int) * p0.Round)) + p0.Forked))]) 125 fun b19 w a h hr => ?_
 refine ln ?_
 refine xE ?_
 refine eo1 23 rfl ?_
 replace h := h.m3
 refine op_append (n0 := p0.Actors.length) (c := 1) (bytes := 32) (wn rfl) rfl rfl hr rfl (by kernel_rfl) (by kernel_rfl) enc_T_plunderref8_Actor_ok (E := 125) (xs := p0.Actors) (by kernel_rfl) (by kernel_rfl) h (news := [(⟨7, (at_ p0.Actors p1.toNat).Frame, p0.Forked, wi ((wi ((100 : Int) * p0.Round)) + p0.Forked)⟩ : T_plunderref8_Actor)]) (m := 1) rfl ((h.pick 1).news rfl) c22 rfl fun ca20 cc21 w a h hr => ?_
 refine ln ?_
 refine xE ?_
 refine evs 2 24 rfl (wn rfl) hr (pA B0 0) fun a hr => ?_
 refine evs 1 25 rfl (wn rfl) hr (pA B0 15) fun a hr => ?_
 refine eo1 26 rfl ?_
 replace h := h.m2
 refine st1 (wn rfl) hr h 15 (.slice ca20 (p0.Actors ++ [(⟨7, (at_ p0.Actors p1.toNat).Frame, p0.Forked, wi ((wi ((100 : Int) * p0.Round)) + p0.Forked)⟩ : T_plunderref8_Actor)]).length cc21) (pts B0 (.cells #[.slice va0_Rounds p0_Rounds.length vc0_Rounds, vI p0.Round, vI p0.Forked, vI p0.Fetched, vI S15.Join, vI p0.Slots_0, vI p0.Slots_1, vI p0.Slots_2, vI p0.Slots_3, vI p0.Slots_4, vI p0.Slots_5, vI p0.Slots_6, vI p0.Slots_7, .slice ca1 p0.Marks.length cc2, vI p0.Taken, .slice ca20 (p0.Actors ++ [(⟨7, (at_ p0.Actors p1.toNat).Frame, p0.Forked, wi ((wi ((100 : Int) * p0.Round)) + p0.Forked)⟩ : T_plunderref8_Actor)]).length cc21, vB p0.Run_Done, vI p0.Run_Steps, .slice ca5 p0.Run_Holders.length cc6, .slice ca7 p0.Run_Reads.length cc8, .slice ca9 p0.Run_Marks.length cc10, .slice caq17 S15.Run_Log.length ccq18] 128)) fun w h => ?_
 refine ln ?_
 refine xE ?_
 refine een ?_
 refine then_normal ?_
 refine sr ?_
 refine oo [41, 42, 43, 44] [pA B0 0, pA B0 0, pA B0 0, pA B0 2] hr fun a hr => ?_
 refine ld (wn rfl) hr (vI p0.Forked) (h.cell 2 rfl) fun a hr => ?_
 refine oo [46, 47, 48] [vI (wi (p0.Forked + 1)), pA B0 0, pA B0 2] hr fun a hr => ?_
 refine st1 (wn rfl) hr h 2 (vI (wi (p0.Forked + 1))) (pts B0 (.cells #[.slice va0_Rounds p0_Rounds.length vc0_Rounds, vI p0.Round, vI (wi (p0.Forked + 1)), vI p0.Fetched, vI S15.Join, vI p0.Slots_0, vI p0.Slots_1, vI p0.Slots_2, vI p0.Slots_3, vI p0.Slots_4, vI p0.Slots_5, vI p0.Slots_6, vI p0.Slots_7, .slice ca1 p0.Marks.length cc2, vI p0.Taken, .slice ca20 (p0.Actors ++ [(⟨7, (at_ p0.Actors p1.toNat).Frame, p0.Forked, wi ((wi ((100 : Int) * p0.Round)) + p0.Forked)⟩ : T_plunderref8_Actor)]).length cc21, vB p0.Run_Done, vI p0.Run_Steps, .slice ca5 p0.Run_Holders.length cc6, .slice ca7 p0.Run_Reads.length cc8, .slice ca9 p0.Run_Marks.length cc10, .slice caq17 S15.Run_Log.length ccq18] 128)) fun w h => ?_
 refine ln ?_
 refine wp_region_lit ?_
 obtain ⟨S23, e24, H⟩ := bd1 H
 refine oo [49, 50] [pA B0 0, vI p1] hr fun a hr => ?_
 replace h := h.m7.m7.m7.m7.m5.m7.m6
 have hc := plunderref8_Scene_goes_ok (va0_Rounds := va0_Rounds) (vc0_Rounds := vc0_Rounds) (hv0_Rounds := (RdRow.up 2 hv0_Rounds)) (H := e24) (h := h)
 refine cl (wn rfl) hr hc ?_; clear hc h
 rintro _ w ⟨caq25, ccq26, caq27, ccq28, caq29, ccq30, caq31, ccq32, caq33, ccq34, caq35, ccq36, rfl, h⟩; refine ⟨_, rfl, fun a hr => ?_⟩
 refine wpList_nil ?_
 refine end_norm0 rfl hr ?_
 replace H := ej1 H; subst H
 exact ⟨caq25, ccq26, caq27, ccq28, caq29, ccq30, caq31, ccq32, caq33, ccq34, caq35, ccq36, rfl, h.se 9 [0, 1, 2, 3, 4, 5, 6]⟩

/-- (*plunder/plunderref8.Scene).fetches -/
def plunderref8_Scene_fetches (p0 : T_plunderref8_Scene) (p0_Rounds : List Int) (p1 : Int) : Option (T_plunderref8_Scene) :=
  if inr_ p0.Round p0_Rounds.length then (if p0.Fetched < (at_ p0_Rounds p0.Round.toNat) then if inr_ p1 p0.Actors.length then some ({ p0 with Actors := p0.Actors.set p1.toNat ({ at_ p0.Actors p1.toNat with Does := 6 }) }) else none else ob1 (plunderref8_Scene_goes ({ p0 with Round := wi (p0.Round + 1), Forked := 0 }) p0_Rounds p1) (fun S17 => some S17)) else none

theorem plunderref8_Scene_fetches_ok {z w : World} {L : List HProp} {p0 q0 : T_plunderref8_Scene} {p0_Rounds : List Int} {p1 : Int} {B0 vc0_Rounds cc2 cc4 cc6 cc8 cc10 cc12 : Nat} {va0_Rounds ca1 ca3 ca5 ca7 ca9 ca11 : Option Addr} (H : plunderref8_Scene_fetches p0 p0_Rounds p1 = some q0) (h : Fit z (sepL (ob128 B0 p0 (.slice va0_Rounds p0_Rounds.length vc0_Rounds) ca1 cc2 ca3 cc4 ca5 cc6 ca7 cc8 ca9 cc10 ca11 cc12 :: ro2 ca1 cc2 p0.Marks :: ro125 ca3 cc4 p0.Actors :: ro3 ca5 cc6 p0.Run_Holders :: rn31 ca7 cc8 p0.Run_Reads :: ro2 ca9 cc10 p0.Run_Marks :: ro96 ca11 cc12 p0.Run_Log :: L)) w) (hv0_Rounds : RdRow L 1 encZ_i64 va0_Rounds p0_Rounds) :
    Calls Try.prog 95 #[pA B0 0, vI p1] w fun e w => ∃ caq0_1 ccq0_2 caq0_3 ccq0_4 caq0_5 ccq0_6 caq0_7 ccq0_8 caq0_9 ccq0_10 caq0_11 ccq0_12, e = .returned (.tuple #[]) ∧ Fit z (sepL (ob128 B0 q0 (.slice va0_Rounds p0_Rounds.length vc0_Rounds) caq0_1 ccq0_2 caq0_3 ccq0_4 caq0_5 ccq0_6 caq0_7 ccq0_8 caq0_9 ccq0_10 caq0_11 ccq0_12 :: ro2 caq0_1 ccq0_2 q0.Marks :: ro125 caq0_3 ccq0_4 q0.Actors :: ro3 caq0_5 ccq0_6 q0.Run_Holders :: rn31 caq0_7 ccq0_8 q0.Run_Reads :: ro2 caq0_9 ccq0_10 q0.Run_Marks :: ro96 caq0_11 ccq0_12 q0.Run_Log :: L)) w := by
 unfold plunderref8_Scene_fetches at H
 refine enter Try.func95 rfl 40 rfl rfl [(0, pA B0 0), (1, vI p1)] ⟨rfl, rfl, trivial⟩ ?_
 intro j a hr
 refine wp_seq ?_
 refine wp_seq ?_
 obtain ⟨c13, H⟩ := gd H
 refine regL [(B0, 3, [vI p0.Fetched]), (B0, 0, [.slice va0_Rounds p0_Rounds.length vc0_Rounds]), (B0, 1, [vI p0.Round]), (blk va0_Rounds, offs va0_Rounds + p0.Round.toNat * 1, [vI (at_ p0_Rounds p0.Round.toNat)])] [1, 2, 5, 6, 9, 10, 12] 15 h (fun h => ⟨⟨h.cell 3 rfl, trivial⟩, ⟨h.cell 0 rfl, trivial⟩, ⟨h.cell 1 rfl, trivial⟩, ⟨hv0_Rounds.cell c13 (h.dn 7) 0 rfl, trivial⟩, trivial⟩) fun w h hd => ?_
 refine evs' hd 6 [(0, 4, pA B0 0), (1, 5, pA B0 0), (2, 6, pA B0 3), (4, 8, pA B0 0), (5, 9, pA B0 0), (6, 10, pA B0 0), (8, 12, pA B0 0), (9, 13, pA B0 0), (10, 14, pA B0 1)] hr fun a hr => ?_
 refine elx hd 0 5 3 hr (wn rfl) rfl rfl fun a hr => ?_
 refine elx hd 1 4 7 hr (wn rfl) rfl rfl fun a hr => ?_
 refine elx hd 2 3 11 hr (wn rfl) rfl rfl fun a hr => ?_
 refine eon hd 2 12 rfl (wn rfl) hr (pA (blk va0_Rounds) (offs va0_Rounds + p0.Round.toNat * 1)) (hrun := fun w => ri_rd (k := .i64) (E := 3) (cc := vc0_Rounds) rfl (by kernel_rfl) (by kernel_rfl) rfl (by kernel_rfl) (by kernel_rfl) hv0_Rounds c13) fun a hr => ?_
 refine elx hd 3 1 13 hr (wn rfl) rfl rfl fun a hr => ?_
 refine evs' hd 0 [(14, 18, vB (decide (p0.Fetched < (at_ p0_Rounds p0.Round.toNat))))] hr fun a hr => ?_
 refine een ?_
 refine then_normal ?_
 refine cD hr H (fun c14 H => ?_) fun c14 H => ?_
 ·
  refine sr ?_
  refine oo [19, 20, 21] [pA B0 0, pA B0 0, pA B0 15] hr fun a hr => ?_
  refine ld (wn rfl) hr (.slice ca3 p0.Actors.length cc4) (h.cell 15 rfl) fun a hr => ?_
  obtain ⟨c15, H⟩ := gd H
  refine o1 hr (vI p1) fun a hr => ?_
  refine opv (wn rfl) hr (pA (blk ca3) (p1.toNat * 4)) (ri_row (k := .i64) (E := 125) rfl (by kernel_rfl) (by kernel_rfl) (by kernel_rfl) (by kernel_rfl) (h.pick 2) c15) fun a hr => ?_
  refine o1 hr (pA (blk ca3) (p1.toNat * 4)) fun a hr => ?_
  replace h := h.m2
  refine stor (wn rfl) hr enc_T_plunderref8_Actor_ok h p1.toNat 0 (vI 6) (at_ p0.Actors p1.toNat) ({ at_ p0.Actors p1.toNat with Does := 6 }) (at_ok c15) fun w h => ?_
  refine ln ?_
  refine wp_ret ?_
  refine then_ret ?_
  refine end_ret0 rfl hr ?_
  have hn15 : p0.Actors.length = (p0.Actors.set p1.toNat ({ at_ p0.Actors p1.toNat with Does := 6 })).length := h.row_n; replace h := Fit.ren1 hn15 (fun q_ => rowOf 125 4 enc_T_plunderref8_Actor (.slice ca3 q_ cc4) (p0.Actors.set p1.toNat ({ at_ p0.Actors p1.toNat with Does := 6 }))) (fun q_ => pts B0 (.cells #[.slice va0_Rounds p0_Rounds.length vc0_Rounds, vI p0.Round, vI p0.Forked, vI p0.Fetched, vI p0.Join, vI p0.Slots_0, vI p0.Slots_1, vI p0.Slots_2, vI p0.Slots_3, vI p0.Slots_4, vI p0.Slots_5, vI p0.Slots_6, vI p0.Slots_7, .slice ca1 p0.Marks.length cc2, vI p0.Taken, .slice ca3 q_ cc4, vB p0.Run_Done, vI p0.Run_Steps, .slice ca5 p0.Run_Holders.length cc6, .slice ca7 p0.Run_Reads.length cc8, .slice ca9 p0.Run_Marks.length cc10, .slice ca11 p0.Run_Log.length cc12] 128)) h
  replace H := ej1 H; subst H
  exact ⟨ca1, cc2, ca3, cc4, ca5, cc6, ca7, cc8, ca9, cc10, ca11, cc12, rfl, h.se 7 [1, 2, 0, 3, 4, 5, 6]⟩
 ·
  refine wp_skip ?_
  refine then_normal ?_
  refine sr ?_
  refine oo [26, 27, 28, 29] [pA B0 0, pA B0 0, pA B0 0, pA B0 1] hr fun a hr => ?_
  refine ld (wn rfl) hr (vI p0.Round) (h.cell 1 rfl) fun a hr => ?_
  refine oo [31, 32, 33] [vI (wi (p0.Round + 1)), pA B0 0, pA B0 1] hr fun a hr => ?_
  refine st1 (wn rfl) hr h 1 (vI (wi (p0.Round + 1))) (pts B0 (.cells #[.slice va0_Rounds p0_Rounds.length vc0_Rounds, vI (wi (p0.Round + 1)), vI p0.Forked, vI p0.Fetched, vI p0.Join, vI p0.Slots_0, vI p0.Slots_1, vI p0.Slots_2, vI p0.Slots_3, vI p0.Slots_4, vI p0.Slots_5, vI p0.Slots_6, vI p0.Slots_7, .slice ca1 p0.Marks.length cc2, vI p0.Taken, .slice ca3 p0.Actors.length cc4, vB p0.Run_Done, vI p0.Run_Steps, .slice ca5 p0.Run_Holders.length cc6, .slice ca7 p0.Run_Reads.length cc8, .slice ca9 p0.Run_Marks.length cc10, .slice ca11 p0.Run_Log.length cc12] 128)) fun w h => ?_
  refine ln ?_
  refine sr ?_
  refine oo [34, 35, 36] [pA B0 0, pA B0 0, pA B0 2] hr fun a hr => ?_
  refine st1 (wn rfl) hr h 2 (vI 0) (pts B0 (.cells #[.slice va0_Rounds p0_Rounds.length vc0_Rounds, vI (wi (p0.Round + 1)), vI 0, vI p0.Fetched, vI p0.Join, vI p0.Slots_0, vI p0.Slots_1, vI p0.Slots_2, vI p0.Slots_3, vI p0.Slots_4, vI p0.Slots_5, vI p0.Slots_6, vI p0.Slots_7, .slice ca1 p0.Marks.length cc2, vI p0.Taken, .slice ca3 p0.Actors.length cc4, vB p0.Run_Done, vI p0.Run_Steps, .slice ca5 p0.Run_Holders.length cc6, .slice ca7 p0.Run_Reads.length cc8, .slice ca9 p0.Run_Marks.length cc10, .slice ca11 p0.Run_Log.length cc12] 128)) fun w h => ?_
  refine ln ?_
  refine wp_region_lit ?_
  obtain ⟨S17, e18, H⟩ := bd1 H
  refine oo [37, 38] [pA B0 0, vI p1] hr fun a hr => ?_
  have hc := plunderref8_Scene_goes_ok (va0_Rounds := va0_Rounds) (vc0_Rounds := vc0_Rounds) (hv0_Rounds := (RdRow.up 0 hv0_Rounds)) (H := e18) (h := h)
  refine cl (wn rfl) hr hc ?_; clear hc h
  rintro _ w ⟨caq19, ccq20, caq21, ccq22, caq23, ccq24, caq25, ccq26, caq27, ccq28, caq29, ccq30, rfl, h⟩; refine ⟨_, rfl, fun a hr => ?_⟩
  refine wpList_nil ?_
  refine end_norm0 rfl hr ?_
  replace H := ej1 H; subst H
  exact ⟨caq19, ccq20, caq21, ccq22, caq23, ccq24, caq25, ccq26, caq27, ccq28, caq29, ccq30, rfl, h⟩

/-- (*plunder/plunderref8.Scene).holds -/
def plunderref8_Scene_holds (p0 : T_plunderref8_Scene) (p0_Rounds : List Int) (p1 : Int) : Option (T_plunderref8_Scene) :=
  if (p0.Run_Holders.length + 1) * 8 ≤ 140737488355328 then if (p0.Run_Reads.length + 1) * 24 ≤ 140737488355328 then ob1 (plunderref8_Scene_fetches ({ p0 with Fetched := 0, Run_Holders := p0.Run_Holders ++ [p1], Run_Reads := p0.Run_Reads ++ [([] : List Int)] }) p0_Rounds p1) (fun S21 => some S21) else none else none

theorem plunderref8_Scene_holds_ok {z w : World} {L : List HProp} {p0 q0 : T_plunderref8_Scene} {p0_Rounds : List Int} {p1 : Int} {B0 vc0_Rounds cc2 cc4 cc6 cc8 cc10 cc12 : Nat} {va0_Rounds ca1 ca3 ca5 ca7 ca9 ca11 : Option Addr} (H : plunderref8_Scene_holds p0 p0_Rounds p1 = some q0) (h : Fit z (sepL (ob128 B0 p0 (.slice va0_Rounds p0_Rounds.length vc0_Rounds) ca1 cc2 ca3 cc4 ca5 cc6 ca7 cc8 ca9 cc10 ca11 cc12 :: ro2 ca1 cc2 p0.Marks :: ro125 ca3 cc4 p0.Actors :: ro3 ca5 cc6 p0.Run_Holders :: rn31 ca7 cc8 p0.Run_Reads :: ro2 ca9 cc10 p0.Run_Marks :: ro96 ca11 cc12 p0.Run_Log :: L)) w) (hv0_Rounds : RdRow L 1 encZ_i64 va0_Rounds p0_Rounds) :
    Calls Try.prog 102 #[pA B0 0, vI p1] w fun e w => ∃ caq0_1 ccq0_2 caq0_3 ccq0_4 caq0_5 ccq0_6 caq0_7 ccq0_8 caq0_9 ccq0_10 caq0_11 ccq0_12, e = .returned (.tuple #[]) ∧ Fit z (sepL (ob128 B0 q0 (.slice va0_Rounds p0_Rounds.length vc0_Rounds) caq0_1 ccq0_2 caq0_3 ccq0_4 caq0_5 ccq0_6 caq0_7 ccq0_8 caq0_9 ccq0_10 caq0_11 ccq0_12 :: ro2 caq0_1 ccq0_2 q0.Marks :: ro125 caq0_3 ccq0_4 q0.Actors :: ro3 caq0_5 ccq0_6 q0.Run_Holders :: rn31 caq0_7 ccq0_8 q0.Run_Reads :: ro2 caq0_9 ccq0_10 q0.Run_Marks :: ro96 caq0_11 ccq0_12 q0.Run_Log :: L)) w := by
 unfold plunderref8_Scene_holds at H
 refine enter Try.func102 rfl 33 rfl rfl [(0, pA B0 0), (1, vI p1)] ⟨rfl, rfl, trivial⟩ ?_
 intro j a hr
 refine sr ?_
 refine oo [4, 5, 6, 7, 8] [pA B0 0, pA B0 0, pA B0 0, pA B0 16, pA B0 18] hr fun a hr => ?_
 refine ld (wn rfl) hr (.slice ca5 p0.Run_Holders.length cc6) (h.cell 18 rfl) fun a hr => ?_
 refine o1 hr (vI p1) fun a hr => ?_
 refine onew (wn rfl) hr h (fun b => .slice (some ⟨b, 0, none⟩) 1 1) (#[vI p1]) 3 fun b13 w a h hr => ?_
 replace h := h.m4
 obtain ⟨c16, H⟩ := gd H
 refine op_append (n0 := p0.Run_Holders.length) (c := 1) (bytes := 8) (wn rfl) rfl rfl hr rfl (by kernel_rfl) (by kernel_rfl) encZ_i64_ok (E := 3) (xs := p0.Run_Holders) (by kernel_rfl) (by kernel_rfl) h (news := [p1]) (m := 1) rfl ((h.pick 1).news rfl) c16 rfl fun ca14 cc15 w a h hr => ?_
 refine oo [13, 14, 15] [pA B0 0, pA B0 16, pA B0 18] hr fun a hr => ?_
 replace h := h.m2
 refine st1 (wn rfl) hr h 18 (.slice ca14 (p0.Run_Holders ++ [p1]).length cc15) (pts B0 (.cells #[.slice va0_Rounds p0_Rounds.length vc0_Rounds, vI p0.Round, vI p0.Forked, vI p0.Fetched, vI p0.Join, vI p0.Slots_0, vI p0.Slots_1, vI p0.Slots_2, vI p0.Slots_3, vI p0.Slots_4, vI p0.Slots_5, vI p0.Slots_6, vI p0.Slots_7, .slice ca1 p0.Marks.length cc2, vI p0.Taken, .slice ca3 p0.Actors.length cc4, vB p0.Run_Done, vI p0.Run_Steps, .slice ca14 (p0.Run_Holders ++ [p1]).length cc15, .slice ca7 p0.Run_Reads.length cc8, .slice ca9 p0.Run_Marks.length cc10, .slice ca11 p0.Run_Log.length cc12] 128)) fun w h => ?_
 refine ln ?_
 refine sr ?_
 refine oo [16, 17, 18, 19, 20] [pA B0 0, pA B0 0, pA B0 0, pA B0 16, pA B0 19] hr fun a hr => ?_
 refine ld (wn rfl) hr (.slice ca7 p0.Run_Reads.length cc8) (h.cell 19 rfl) fun a hr => ?_
 refine onew (wn rfl) hr h (fun b => .slice (some ⟨b, 0, none⟩) 1 1) (#[.slice none 0 0]) 31 fun b17 w a h hr => ?_
 replace h := h.row_nil (e := 2) (sz := 1) (enc := encZ_i64)
 replace h := own_sl31_sh (x := ([] : List Int)) h
 obtain ⟨c18, H⟩ := gd H
 replace h := h.m7
 refine op_append_N (n0 := p0.Run_Reads.length) (c := 1) (bytes := 24) (sz := 1) (wn rfl) rfl rfl hr rfl (by kernel_rfl) (by kernel_rfl) (E := 31) (xs := p0.Run_Reads) (by kernel_rfl) (by kernel_rfl) rfl rfl rfl h ((h.pick 2).news rfl) c18 rfl fun ca19 cc20 w a h hr => ?_
 refine oo [24, 25, 26] [pA B0 0, pA B0 16, pA B0 19] hr fun a hr => ?_
 replace h := h.m2
 refine st1 (wn rfl) hr h 19 (.slice ca19 (p0.Run_Reads ++ [([] : List Int)]).length cc20) (pts B0 (.cells #[.slice va0_Rounds p0_Rounds.length vc0_Rounds, vI p0.Round, vI p0.Forked, vI p0.Fetched, vI p0.Join, vI p0.Slots_0, vI p0.Slots_1, vI p0.Slots_2, vI p0.Slots_3, vI p0.Slots_4, vI p0.Slots_5, vI p0.Slots_6, vI p0.Slots_7, .slice ca1 p0.Marks.length cc2, vI p0.Taken, .slice ca3 p0.Actors.length cc4, vB p0.Run_Done, vI p0.Run_Steps, .slice ca14 (p0.Run_Holders ++ [p1]).length cc15, .slice ca19 (p0.Run_Reads ++ [([] : List Int)]).length cc20, .slice ca9 p0.Run_Marks.length cc10, .slice ca11 p0.Run_Log.length cc12] 128)) fun w h => ?_
 refine ln ?_
 refine sr ?_
 refine oo [27, 28, 29] [pA B0 0, pA B0 0, pA B0 3] hr fun a hr => ?_
 refine st1 (wn rfl) hr h 3 (vI 0) (pts B0 (.cells #[.slice va0_Rounds p0_Rounds.length vc0_Rounds, vI p0.Round, vI p0.Forked, vI 0, vI p0.Join, vI p0.Slots_0, vI p0.Slots_1, vI p0.Slots_2, vI p0.Slots_3, vI p0.Slots_4, vI p0.Slots_5, vI p0.Slots_6, vI p0.Slots_7, .slice ca1 p0.Marks.length cc2, vI p0.Taken, .slice ca3 p0.Actors.length cc4, vB p0.Run_Done, vI p0.Run_Steps, .slice ca14 (p0.Run_Holders ++ [p1]).length cc15, .slice ca19 (p0.Run_Reads ++ [([] : List Int)]).length cc20, .slice ca9 p0.Run_Marks.length cc10, .slice ca11 p0.Run_Log.length cc12] 128)) fun w h => ?_
 refine ln ?_
 refine wp_region_lit ?_
 obtain ⟨S21, e22, H⟩ := bd1 H
 refine oo [30, 31] [pA B0 0, vI p1] hr fun a hr => ?_
 replace h := h.m8.m8.m3.m5.m8.m8.m6
 have hc := plunderref8_Scene_fetches_ok (va0_Rounds := va0_Rounds) (vc0_Rounds := vc0_Rounds) (hv0_Rounds := (RdRow.up 2 hv0_Rounds)) (H := e22) (h := h)
 refine cl (wn rfl) hr hc ?_; clear hc h
 rintro _ w ⟨caq23, ccq24, caq25, ccq26, caq27, ccq28, caq29, ccq30, caq31, ccq32, caq33, ccq34, rfl, h⟩; refine ⟨_, rfl, fun a hr => ?_⟩
 refine wpList_nil ?_
 refine end_norm0 rfl hr ?_
 replace H := ej1 H; subst H
 exact ⟨caq23, ccq24, caq25, ccq26, caq27, ccq28, caq29, ccq30, caq31, ccq32, caq33, ccq34, rfl, h.se 9 [0, 1, 2, 3, 4, 5, 6]⟩

/-- (*plunder/plunderref8.Scene).back -/
def plunderref8_Scene_back (p0 : T_plunderref8_Scene) (p0_Rounds : List Int) (p1 : Int) : Option (T_plunderref8_Scene) :=
  ob1 (plunderref8_frameAt 0) (fun r13 => ob1 (plunderref8_Scene_note ({ p0 with Join := 1 }) p0_Rounds p1 1 r13 1 0) (fun S15 => ob1 (plunderref8_Scene_holds ({ p0 with Join := 1, Run_Log := S15.Run_Log }) p0_Rounds p1) (fun S19 => some S19)))

theorem plunderref8_Scene_back_ok {z w : World} {L : List HProp} {p0 q0 : T_plunderref8_Scene} {p0_Rounds : List Int} {p1 : Int} {B0 vc0_Rounds cc2 cc4 cc6 cc8 cc10 cc12 : Nat} {va0_Rounds ca1 ca3 ca5 ca7 ca9 ca11 : Option Addr} (H : plunderref8_Scene_back p0 p0_Rounds p1 = some q0) (h : Fit z (sepL (ob128 B0 p0 (.slice va0_Rounds p0_Rounds.length vc0_Rounds) ca1 cc2 ca3 cc4 ca5 cc6 ca7 cc8 ca9 cc10 ca11 cc12 :: ro2 ca1 cc2 p0.Marks :: ro125 ca3 cc4 p0.Actors :: ro3 ca5 cc6 p0.Run_Holders :: rn31 ca7 cc8 p0.Run_Reads :: ro2 ca9 cc10 p0.Run_Marks :: ro96 ca11 cc12 p0.Run_Log :: L)) w) (hv0_Rounds : RdRow L 1 encZ_i64 va0_Rounds p0_Rounds) :
    Calls Try.prog 92 #[pA B0 0, vI p1] w fun e w => ∃ caq0_1 ccq0_2 caq0_3 ccq0_4 caq0_5 ccq0_6 caq0_7 ccq0_8 caq0_9 ccq0_10 caq0_11 ccq0_12, e = .returned (.tuple #[]) ∧ Fit z (sepL (ob128 B0 q0 (.slice va0_Rounds p0_Rounds.length vc0_Rounds) caq0_1 ccq0_2 caq0_3 ccq0_4 caq0_5 ccq0_6 caq0_7 ccq0_8 caq0_9 ccq0_10 caq0_11 ccq0_12 :: ro2 caq0_1 ccq0_2 q0.Marks :: ro125 caq0_3 ccq0_4 q0.Actors :: ro3 caq0_5 ccq0_6 q0.Run_Holders :: rn31 caq0_7 ccq0_8 q0.Run_Reads :: ro2 caq0_9 ccq0_10 q0.Run_Marks :: ro96 caq0_11 ccq0_12 q0.Run_Log :: L)) w := by
 unfold plunderref8_Scene_back at H
 refine enter Try.func92 rfl 14 rfl rfl [(0, pA B0 0), (1, vI p1)] ⟨rfl, rfl, trivial⟩ ?_
 intro j a hr
 refine sr ?_
 refine oo [4, 5, 6] [pA B0 0, pA B0 0, pA B0 4] hr fun a hr => ?_
 refine st1 (wn rfl) hr h 4 (vI 1) (pts B0 (.cells #[.slice va0_Rounds p0_Rounds.length vc0_Rounds, vI p0.Round, vI p0.Forked, vI p0.Fetched, vI 1, vI p0.Slots_0, vI p0.Slots_1, vI p0.Slots_2, vI p0.Slots_3, vI p0.Slots_4, vI p0.Slots_5, vI p0.Slots_6, vI p0.Slots_7, .slice ca1 p0.Marks.length cc2, vI p0.Taken, .slice ca3 p0.Actors.length cc4, vB p0.Run_Done, vI p0.Run_Steps, .slice ca5 p0.Run_Holders.length cc6, .slice ca7 p0.Run_Reads.length cc8, .slice ca9 p0.Run_Marks.length cc10, .slice ca11 p0.Run_Log.length cc12] 128)) fun w h => ?_
 refine ln ?_
 refine sr ?_
 obtain ⟨r13, e14, H⟩ := bd1 H
 refine oo [7, 8] [pA B0 0, vI p1] hr fun a hr => ?_
 have hc := plunderref8_frameAt_ok (H := e14) (h := h)
 refine cl (wn rfl) hr hc ?_; clear hc h
 rintro _ w ⟨rfl, h⟩; refine ⟨_, rfl, fun a hr => ?_⟩
 obtain ⟨S15, e16, H⟩ := bd1 H
 have hc := plunderref8_Scene_note_ok (va0_Rounds := va0_Rounds) (vc0_Rounds := vc0_Rounds) (hv0_Rounds := (RdRow.up 0 hv0_Rounds)) (H := e16) (h := h)
 refine cl (wn rfl) hr hc ?_; clear hc h
 rintro _ w ⟨caq17, ccq18, rfl, h⟩; refine ⟨_, rfl, fun a hr => ?_⟩
 refine ln ?_
 refine wp_region_lit ?_
 obtain ⟨S19, e20, H⟩ := bd1 H
 refine oo [11, 12] [pA B0 0, vI p1] hr fun a hr => ?_
 have hc := plunderref8_Scene_holds_ok (va0_Rounds := va0_Rounds) (vc0_Rounds := vc0_Rounds) (hv0_Rounds := (RdRow.up 0 hv0_Rounds)) (H := e20) (h := h)
 refine cl (wn rfl) hr hc ?_; clear hc h
 rintro _ w ⟨caq21, ccq22, caq23, ccq24, caq25, ccq26, caq27, ccq28, caq29, ccq30, caq31, ccq32, rfl, h⟩; refine ⟨_, rfl, fun a hr => ?_⟩
 refine wpList_nil ?_
 refine end_norm0 rfl hr ?_
 replace H := ej1 H; subst H
 exact ⟨caq21, ccq22, caq23, ccq24, caq25, ccq26, caq27, ccq28, caq29, ccq30, caq31, ccq32, rfl, h⟩

/-- (*plunder/plunderref8.Scene).step -/
def plunderref8_Scene_step (p0 : T_plunderref8_Scene) (p0_Rounds : List Int) (p1 : Int) : Option (T_plunderref8_Scene) :=
  if inr_ p1 p0.Actors.length then (if (at_ p0.Actors p1.toNat).Does = 0 then ob2 (plunderref8_Scene_take p0 p0_Rounds p1) (fun r16 S17 => some ({ p0 with Taken := S17.Taken, Actors := p0.Actors.set p1.toNat ({ at_ p0.Actors p1.toNat with Does := 1 }), Run_Log := S17.Run_Log })) else (if (at_ p0.Actors p1.toNat).Does = 1 then ob1 (plunderref8_Scene_begins p0 p0_Rounds p1 0) (fun S23 => ob1 (plunderref8_Scene_goes ({ p0 with Marks := S23.Marks, Run_Log := S23.Run_Log }) p0_Rounds p1) (fun S29 => some S29)) else (if (at_ p0.Actors p1.toNat).Does = 2 then ob2 (plunderref8_Scene_take p0 p0_Rounds p1) (fun r44 S45 => if inr_ p1 (p0.Actors.set p1.toNat ({ at_ p0.Actors p1.toNat with Frame := r44 })).length then some ({ p0 with Taken := S45.Taken, Actors := (p0.Actors.set p1.toNat ({ at_ p0.Actors p1.toNat with Frame := r44 })).set p1.toNat ({ { at_ p0.Actors p1.toNat with Frame := r44 } with Does := 3 }), Run_Log := S45.Run_Log }) else none) else (if (at_ p0.Actors p1.toNat).Does = 3 then ob1 (plunderref8_Scene_forks p0 p0_Rounds p1) (fun S52 => some S52) else (if (at_ p0.Actors p1.toNat).Does = 4 then ob1 (plunderref8_Scene_joins p0 p0_Rounds p1 (-1)) (fun S67 => (if S67.Join = 0 then if inr_ p1 (p0.Actors.set p1.toNat ({ at_ p0.Actors p1.toNat with Does := 11 })).length then some ({ p0 with Join := S67.Join, Actors := (p0.Actors.set p1.toNat ({ at_ p0.Actors p1.toNat with Does := 11 })).set p1.toNat ({ { at_ p0.Actors p1.toNat with Does := 11 } with Does := 5 }), Run_Log := S67.Run_Log }) else none else some ({ p0 with Join := S67.Join, Actors := p0.Actors.set p1.toNat ({ at_ p0.Actors p1.toNat with Does := 11 }), Run_Log := S67.Run_Log }))) else ob1 ((if (at_ p0.Actors p1.toNat).Does = 5 then some ((at_ p0.Actors p1.toNat).Does == 5) else some ((at_ p0.Actors p1.toNat).Does == 10))) (fun g75 => (if g75 = true then ob1 (plunderref8_Scene_back p0 p0_Rounds p1) (fun S80 => some S80) else (if (at_ p0.Actors p1.toNat).Does = 6 then if inr_ p0.Fetched 8 then ob1 (plunderref8_frameAt 0) (fun r96 => ob1 (plunderref8_Scene_note p0 p0_Rounds p1 0 (wi ((wi (r96 + 2)) + p0.Fetched)) (at_ [p0.Slots_0, p0.Slots_1, p0.Slots_2, p0.Slots_3, p0.Slots_4, p0.Slots_5, p0.Slots_6, p0.Slots_7] p0.Fetched.toNat) 0) (fun S98 => if inr_ p0.Round p0.Run_Reads.length then if ((at_ p0.Run_Reads p0.Round.toNat).length + 1) * 8 ≤ 140737488355328 then ob1 (plunderref8_Scene_fetches ({ p0 with Fetched := wi (p0.Fetched + 1), Run_Reads := p0.Run_Reads.set p0.Round.toNat ((at_ p0.Run_Reads p0.Round.toNat) ++ [at_ [p0.Slots_0, p0.Slots_1, p0.Slots_2, p0.Slots_3, p0.Slots_4, p0.Slots_5, p0.Slots_6, p0.Slots_7] p0.Fetched.toNat]), Run_Log := S98.Run_Log }) p0_Rounds p1) (fun S112 => some S112) else none else none)) else none else (if (at_ p0.Actors p1.toNat).Does = 7 then ob1 (plunderref8_Scene_begins p0 p0_Rounds p1 (at_ p0.Actors p1.toNat).Frame) (fun S127 => some ({ p0 with Marks := S127.Marks, Actors := p0.Actors.set p1.toNat ({ at_ p0.Actors p1.toNat with Does := 8 }), Run_Log := S127.Run_Log })) else (if (at_ p0.Actors p1.toNat).Does = 8 then if inr_ (at_ p0.Actors p1.toNat).Slot 8 then ob1 (plunderref8_frameAt 0) (fun r136 => ob1 (plunderref8_Scene_note ({ p0 with Slots_0 := if (at_ p0.Actors p1.toNat).Slot.toNat = 0 then (at_ p0.Actors p1.toNat).V else p0.Slots_0, Slots_1 := if (at_ p0.Actors p1.toNat).Slot.toNat = 1 then (at_ p0.Actors p1.toNat).V else p0.Slots_1, Slots_2 := if (at_ p0.Actors p1.toNat).Slot.toNat = 2 then (at_ p0.Actors p1.toNat).V else p0.Slots_2, Slots_3 := if (at_ p0.Actors p1.toNat).Slot.toNat = 3 then (at_ p0.Actors p1.toNat).V else p0.Slots_3, Slots_4 := if (at_ p0.Actors p1.toNat).Slot.toNat = 4 then (at_ p0.Actors p1.toNat).V else p0.Slots_4, Slots_5 := if (at_ p0.Actors p1.toNat).Slot.toNat = 5 then (at_ p0.Actors p1.toNat).V else p0.Slots_5, Slots_6 := if (at_ p0.Actors p1.toNat).Slot.toNat = 6 then (at_ p0.Actors p1.toNat).V else p0.Slots_6, Slots_7 := if (at_ p0.Actors p1.toNat).Slot.toNat = 7 then (at_ p0.Actors p1.toNat).V else p0.Slots_7 }) p0_Rounds p1 1 (wi ((wi (r136 + 2)) + (at_ p0.Actors p1.toNat).Slot)) (at_ p0.Actors p1.toNat).V 0) (fun S138 => some ({ p0 with Slots_0 := if (at_ p0.Actors p1.toNat).Slot.toNat = 0 then (at_ p0.Actors p1.toNat).V else p0.Slots_0, Slots_1 := if (at_ p0.Actors p1.toNat).Slot.toNat = 1 then (at_ p0.Actors p1.toNat).V else p0.Slots_1, Slots_2 := if (at_ p0.Actors p1.toNat).Slot.toNat = 2 then (at_ p0.Actors p1.toNat).V else p0.Slots_2, Slots_3 := if (at_ p0.Actors p1.toNat).Slot.toNat = 3 then (at_ p0.Actors p1.toNat).V else p0.Slots_3, Slots_4 := if (at_ p0.Actors p1.toNat).Slot.toNat = 4 then (at_ p0.Actors p1.toNat).V else p0.Slots_4, Slots_5 := if (at_ p0.Actors p1.toNat).Slot.toNat = 5 then (at_ p0.Actors p1.toNat).V else p0.Slots_5, Slots_6 := if (at_ p0.Actors p1.toNat).Slot.toNat = 6 then (at_ p0.Actors p1.toNat).V else p0.Slots_6, Slots_7 := if (at_ p0.Actors p1.toNat).Slot.toNat = 7 then (at_ p0.Actors p1.toNat).V else p0.Slots_7, Actors := p0.Actors.set p1.toNat ({ at_ p0.Actors p1.toNat with Does := 9 }), Run_Log := S138.Run_Log }))) else none else (if (at_ p0.Actors p1.toNat).Does = 9 then ob1 (plunderref8_Scene_joins p0 p0_Rounds p1 (-1)) (fun S144 => (if S144.Join = 0 then if inr_ p1 (p0.Actors.set p1.toNat ({ at_ p0.Actors p1.toNat with Does := 11 })).length then some ({ p0 with Join := S144.Join, Actors := (p0.Actors.set p1.toNat ({ at_ p0.Actors p1.toNat with Does := 11 })).set p1.toNat ({ { at_ p0.Actors p1.toNat with Does := 11 } with Does := 10 }), Run_Log := S144.Run_Log }) else none else some ({ p0 with Join := S144.Join, Actors := p0.Actors.set p1.toNat ({ at_ p0.Actors p1.toNat with Does := 11 }), Run_Log := S144.Run_Log }))) else some p0))))))))))) else none

theorem plunderref8_Scene_step_ok {z w : World} {L : List HProp} {p0 q0 : T_plunderref8_Scene} {p0_Rounds : List Int} {p1 : Int} {B0 vc0_Rounds cc2 cc4 cc6 cc8 cc10 cc12 : Nat} {va0_Rounds ca1 ca3 ca5 ca7 ca9 ca11 : Option Addr} (H : plunderref8_Scene_step p0 p0_Rounds p1 = some q0) (h : Fit z (sepL (ob128 B0 p0 (.slice va0_Rounds p0_Rounds.length vc0_Rounds) ca1 cc2 ca3 cc4 ca5 cc6 ca7 cc8 ca9 cc10 ca11 cc12 :: ro2 ca1 cc2 p0.Marks :: ro125 ca3 cc4 p0.Actors :: ro3 ca5 cc6 p0.Run_Holders :: rn31 ca7 cc8 p0.Run_Reads :: ro2 ca9 cc10 p0.Run_Marks :: ro96 ca11 cc12 p0.Run_Log :: L)) w) (hv0_Rounds : RdRow L 1 encZ_i64 va0_Rounds p0_Rounds) :
    Calls Try.prog 73 #[pA B0 0, vI p1] w fun e w => ∃ caq0_1 ccq0_2 caq0_3 ccq0_4 caq0_5 ccq0_6 caq0_7 ccq0_8 caq0_9 ccq0_10 caq0_11 ccq0_12, e = .returned (.tuple #[]) ∧ Fit z (sepL (ob128 B0 q0 (.slice va0_Rounds p0_Rounds.length vc0_Rounds) caq0_1 ccq0_2 caq0_3 ccq0_4 caq0_5 ccq0_6 caq0_7 ccq0_8 caq0_9 ccq0_10 caq0_11 ccq0_12 :: ro2 caq0_1 ccq0_2 q0.Marks :: ro125 caq0_3 ccq0_4 q0.Actors :: ro3 caq0_5 ccq0_6 q0.Run_Holders :: rn31 caq0_7 ccq0_8 q0.Run_Reads :: ro2 caq0_9 ccq0_10 q0.Run_Marks :: ro96 caq0_11 ccq0_12 q0.Run_Log :: L)) w := by
 unfold plunderref8_Scene_step at H
 refine enter Try.func73 rfl 211 rfl rfl [(0, pA B0 0), (1, vI p1)] ⟨rfl, rfl, trivial⟩ ?_
 intro j a hr
 refine sr ?_
 refine oo [6, 7, 8] [pA B0 0, pA B0 0, pA B0 15] hr fun a hr => ?_
 refine ld (wn rfl) hr (.slice ca3 p0.Actors.length cc4) (h.cell 15 rfl) fun a hr => ?_
 obtain ⟨c13, H⟩ := gd H
 refine o1 hr (vI p1) fun a hr => ?_
 refine opv (wn rfl) hr (pA (blk ca3) (p1.toNat * 4)) (ri_row (k := .i64) (E := 125) rfl (by kernel_rfl) (by kernel_rfl) (by kernel_rfl) (by kernel_rfl) (h.pick 2) c13) fun a hr => ?_
 refine ldm (wn rfl) hr (ag_T_plunderref8_Actor (at_ p0.Actors p1.toNat)) (cs := cl_T_plunderref8_Actor (at_ p0.Actors p1.toNat)) ⟨(h.pick 2).row_cell enc_T_plunderref8_Actor_ok (f := 0) (at_ok c13) rfl, (h.pick 2).row_cell enc_T_plunderref8_Actor_ok (f := 1) (at_ok c13) rfl, (h.pick 2).row_cell enc_T_plunderref8_Actor_ok (f := 2) (at_ok c13) rfl, (h.pick 2).row_cell enc_T_plunderref8_Actor_ok (f := 3) (at_ok c13) rfl, trivial⟩ fun a hr => ?_
 refine onew (wn rfl) hr h nb (#[vI 0, vI 0, vI 0, vI 0]) 125 fun b14 w a h hr => ?_
 refine stm (wn rfl) hr h 0 (cl_T_plunderref8_Actor (at_ p0.Actors p1.toNat)) (ob125 b14 (at_ p0.Actors p1.toNat)) fun w h => ?_
 refine ln ?_
 refine sr ?_
 refine o1 hr (pA b14 0) fun a hr => ?_
 refine ld (wn rfl) hr (vI (at_ p0.Actors p1.toNat).Does) (h.cell 0 rfl) fun a hr => ?_
 refine ln ?_
 refine wp_block ?_
 refine sr ?_
 refine oo [16, 15] [vB ((at_ p0.Actors p1.toNat).Does == 0), vB ((at_ p0.Actors p1.toNat).Does == 0)] hr fun a hr => ?_
 refine ln ?_
 refine cD hr H (fun c15 H => ?_) fun c15 H => ?_
 ·
  refine sr ?_
  obtain ⟨r16, S17, e18, H⟩ := bd2 H
  refine oo [17, 18] [pA B0 0, vI p1] hr fun a hr => ?_
  replace h := h.m7.m7.m7.m7.m7.m7.m7
  have hc := plunderref8_Scene_take_ok (va0_Rounds := va0_Rounds) (vc0_Rounds := vc0_Rounds) (hv0_Rounds := (RdRow.up 1 hv0_Rounds)) (H := e18) (h := h)
  refine cl (wn rfl) hr hc ?_; clear hc h
  rintro _ w ⟨caq19, ccq20, rfl, h⟩; refine ⟨_, rfl, fun a hr => ?_⟩
  refine ln ?_
  refine wp_region_lit ?_
  refine oo [20, 21, 22] [pA B0 0, pA B0 0, pA B0 15] hr fun a hr => ?_
  refine ld (wn rfl) hr (.slice ca3 p0.Actors.length cc4) (h.cell 15 rfl) fun a hr => ?_
  refine o1 hr (vI p1) fun a hr => ?_
  refine opv (wn rfl) hr (pA (blk ca3) (p1.toNat * 4)) (ri_row (k := .i64) (E := 125) rfl (by kernel_rfl) (by kernel_rfl) (by kernel_rfl) (by kernel_rfl) (h.pick 2) c13) fun a hr => ?_
  refine o1 hr (pA (blk ca3) (p1.toNat * 4)) fun a hr => ?_
  replace h := h.m2
  refine stor (wn rfl) hr enc_T_plunderref8_Actor_ok h p1.toNat 0 (vI 1) (at_ p0.Actors p1.toNat) ({ at_ p0.Actors p1.toNat with Does := 1 }) (at_ok c13) fun w h => ?_
  refine wpList_nil ?_
  refine blk_normal ?_
  refine end_norm0 rfl hr ?_
  have hn20 : p0.Actors.length = (p0.Actors.set p1.toNat ({ at_ p0.Actors p1.toNat with Does := 1 })).length := h.row_n; replace h := Fit.ren1 hn20 (fun q_ => rowOf 125 4 enc_T_plunderref8_Actor (.slice ca3 q_ cc4) (p0.Actors.set p1.toNat ({ at_ p0.Actors p1.toNat with Does := 1 }))) (fun q_ => pts B0 (.cells #[.slice va0_Rounds p0_Rounds.length vc0_Rounds, vI p0.Round, vI p0.Forked, vI p0.Fetched, vI p0.Join, vI p0.Slots_0, vI p0.Slots_1, vI p0.Slots_2, vI p0.Slots_3, vI p0.Slots_4, vI p0.Slots_5, vI p0.Slots_6, vI p0.Slots_7, .slice ca1 p0.Marks.length cc2, vI S17.Taken, .slice ca3 q_ cc4, vB p0.Run_Done, vI p0.Run_Steps, .slice ca5 p0.Run_Holders.length cc6, .slice ca7 p0.Run_Reads.length cc8, .slice ca9 p0.Run_Marks.length cc10, .slice caq19 S17.Run_Log.length ccq20] 128)) h
  replace H := ej1 H; subst H
  exact ⟨ca1, cc2, ca3, cc4, ca5, cc6, ca7, cc8, ca9, cc10, caq19, ccq20, rfl, h.se 8 [1, 2, 0, 3, 4, 5, 6]⟩
 ·
  refine sr ?_
  refine oo [28, 27] [vB ((at_ p0.Actors p1.toNat).Does == 1), vB ((at_ p0.Actors p1.toNat).Does == 1)] hr fun a hr => ?_
  refine ln ?_
  refine cD hr H (fun c22 H => ?_) fun c22 H => ?_
  ·
   refine sr ?_
   obtain ⟨S23, e24, H⟩ := bd1 H
   refine oo [29, 30] [pA B0 0, vI p1] hr fun a hr => ?_
   replace h := h.m7.m7.m7.m7.m7.m7.m7
   have hc := plunderref8_Scene_begins_ok (va0_Rounds := va0_Rounds) (vc0_Rounds := vc0_Rounds) (hv0_Rounds := (RdRow.up 1 hv0_Rounds)) (H := e24) (h := h)
   refine cl (wn rfl) hr hc ?_; clear hc h
   rintro _ w ⟨caq25, ccq26, caq27, ccq28, rfl, h⟩; refine ⟨_, rfl, fun a hr => ?_⟩
   refine ln ?_
   refine wp_region_lit ?_
   obtain ⟨S29, e30, H⟩ := bd1 H
   refine oo [32, 33] [pA B0 0, vI p1] hr fun a hr => ?_
   have hc := plunderref8_Scene_goes_ok (va0_Rounds := va0_Rounds) (vc0_Rounds := vc0_Rounds) (hv0_Rounds := (RdRow.up 1 hv0_Rounds)) (H := e30) (h := h)
   refine cl (wn rfl) hr hc ?_; clear hc h
   rintro _ w ⟨caq31, ccq32, caq33, ccq34, caq35, ccq36, caq37, ccq38, caq39, ccq40, caq41, ccq42, rfl, h⟩; refine ⟨_, rfl, fun a hr => ?_⟩
   refine wpList_nil ?_
   refine blk_normal ?_
   refine end_norm0 rfl hr ?_
   replace H := ej1 H; subst H
   exact ⟨caq31, ccq32, caq33, ccq34, caq35, ccq36, caq37, ccq38, caq39, ccq40, caq41, ccq42, rfl, h.se 8 [0, 1, 2, 3, 4, 5, 6]⟩
  ·
   refine sr ?_
   refine oo [36, 35] [vB ((at_ p0.Actors p1.toNat).Does == 2), vB ((at_ p0.Actors p1.toNat).Does == 2)] hr fun a hr => ?_
   refine ln ?_
   refine cD hr H (fun c43 H => ?_) fun c43 H => ?_
   ·
    refine wp_seq ?_
    obtain ⟨r44, S45, e46, H⟩ := bd2 H
    refine regL [(B0, 15, [.slice ca3 p0.Actors.length cc4])] [1, 2, 7] 11 h (fun h => ⟨⟨(h.pick 1).cell 15 rfl, trivial⟩, trivial⟩) fun w h hd => ?_
    refine evs' hd 5 [(0, 37, pA B0 0), (1, 38, pA B0 0), (2, 39, pA B0 15), (4, 41, vI p1), (5, 42, pA B0 0), (6, 43, vI p1)] hr fun a hr => ?_
    refine elx hd 0 4 3 hr (wn rfl) rfl rfl fun a hr => ?_
    refine eo1 7 rfl ?_
    replace h := h.m7.m7.m7.m7.m7.m7.m7
    have hc := plunderref8_Scene_take_ok (va0_Rounds := va0_Rounds) (vc0_Rounds := vc0_Rounds) (hv0_Rounds := (RdRow.up 1 hv0_Rounds)) (H := e46) (h := h)
    refine cl (wn rfl) hr hc ?_; clear hc h
    rintro _ w ⟨caq47, ccq48, rfl, h⟩; refine ⟨_, rfl, fun a hr => ?_⟩
    refine ln ?_
    refine eE ⟨⟨h.cell 15 rfl, trivial⟩, trivial⟩ fun hd => ?_
    refine eon hd 2 8 rfl (wn rfl) hr (pA (blk ca3) (p1.toNat * 4)) (hrun := fun w => ri_row (k := .i64) (E := 125) rfl (by kernel_rfl) (by kernel_rfl) (by kernel_rfl) (by kernel_rfl) (h.pick 2) c13) fun a hr => ?_
    refine evs' hd 1 [(9, 46, pA (blk ca3) (p1.toNat * 4 + 1))] hr fun a hr => ?_
    refine eo1 10 rfl ?_
    replace h := h.m2
    refine stor (wn rfl) hr enc_T_plunderref8_Actor_ok h p1.toNat 1 (vI r44) (at_ p0.Actors p1.toNat) ({ at_ p0.Actors p1.toNat with Frame := r44 }) (at_ok c13) fun w h => ?_
    refine ln ?_
    refine xE ?_
    refine een ?_
    refine then_normal ?_
    refine wp_region_lit ?_
    refine oo [47, 48, 49] [pA B0 0, pA B0 0, pA B0 15] hr fun a hr => ?_
    refine ld (wn rfl) hr (.slice ca3 p0.Actors.length cc4) ((h.pick 1).cell 15 rfl) fun a hr => ?_
    obtain ⟨c49, H⟩ := gd H
    refine o1 hr (vI p1) fun a hr => ?_
    refine opv (wn rfl) hr (pA (blk ca3) (p1.toNat * 4)) (ri_row (k := .i64) (E := 125) rfl (by kernel_rfl) (by kernel_rfl) (by kernel_rfl) (by kernel_rfl) h c49) fun a hr => ?_
    refine o1 hr (pA (blk ca3) (p1.toNat * 4)) fun a hr => ?_
    refine stor (wn rfl) hr enc_T_plunderref8_Actor_ok h p1.toNat 0 (vI 3) { at_ p0.Actors p1.toNat with Frame := r44 } ({ { at_ p0.Actors p1.toNat with Frame := r44 } with Does := 3 }) (get_set ((at_okL (by simpa [inr_] using c49)))) fun w h => ?_
    refine wpList_nil ?_
    refine blk_normal ?_
    refine end_norm0 rfl hr ?_
    have hn49 : p0.Actors.length = ((p0.Actors.set p1.toNat ({ at_ p0.Actors p1.toNat with Frame := r44 })).set p1.toNat ({ { at_ p0.Actors p1.toNat with Frame := r44 } with Does := 3 })).length := h.row_n; replace h := Fit.ren1 hn49 (fun q_ => rowOf 125 4 enc_T_plunderref8_Actor (.slice ca3 q_ cc4) ((p0.Actors.set p1.toNat ({ at_ p0.Actors p1.toNat with Frame := r44 })).set p1.toNat ({ { at_ p0.Actors p1.toNat with Frame := r44 } with Does := 3 }))) (fun q_ => pts B0 (.cells #[.slice va0_Rounds p0_Rounds.length vc0_Rounds, vI p0.Round, vI p0.Forked, vI p0.Fetched, vI p0.Join, vI p0.Slots_0, vI p0.Slots_1, vI p0.Slots_2, vI p0.Slots_3, vI p0.Slots_4, vI p0.Slots_5, vI p0.Slots_6, vI p0.Slots_7, .slice ca1 p0.Marks.length cc2, vI S45.Taken, .slice ca3 q_ cc4, vB p0.Run_Done, vI p0.Run_Steps, .slice ca5 p0.Run_Holders.length cc6, .slice ca7 p0.Run_Reads.length cc8, .slice ca9 p0.Run_Marks.length cc10, .slice caq47 S45.Run_Log.length ccq48] 128)) h
    replace H := ej1 H; subst H
    exact ⟨ca1, cc2, ca3, cc4, ca5, cc6, ca7, cc8, ca9, cc10, caq47, ccq48, rfl, h.se 8 [1, 2, 0, 3, 4, 5, 6]⟩
   ·
    refine sr ?_
    refine oo [55, 54] [vB ((at_ p0.Actors p1.toNat).Does == 3), vB ((at_ p0.Actors p1.toNat).Does == 3)] hr fun a hr => ?_
    refine ln ?_
    refine cD hr H (fun c51 H => ?_) fun c51 H => ?_
    ·
     refine wp_region_lit ?_
     obtain ⟨S52, e53, H⟩ := bd1 H
     refine oo [56, 57] [pA B0 0, vI p1] hr fun a hr => ?_
     replace h := h.m7.m7.m7.m7.m7.m7.m7
     have hc := plunderref8_Scene_forks_ok (va0_Rounds := va0_Rounds) (vc0_Rounds := vc0_Rounds) (hv0_Rounds := (RdRow.up 1 hv0_Rounds)) (H := e53) (h := h)
     refine cl (wn rfl) hr hc ?_; clear hc h
     rintro _ w ⟨caq54, ccq55, caq56, ccq57, caq58, ccq59, caq60, ccq61, caq62, ccq63, caq64, ccq65, rfl, h⟩; refine ⟨_, rfl, fun a hr => ?_⟩
     refine wpList_nil ?_
     refine blk_normal ?_
     refine end_norm0 rfl hr ?_
     replace H := ej1 H; subst H
     exact ⟨caq54, ccq55, caq56, ccq57, caq58, ccq59, caq60, ccq61, caq62, ccq63, caq64, ccq65, rfl, h.se 8 [0, 1, 2, 3, 4, 5, 6]⟩
    ·
     refine sr ?_
     refine oo [60, 59] [vB ((at_ p0.Actors p1.toNat).Does == 4), vB ((at_ p0.Actors p1.toNat).Does == 4)] hr fun a hr => ?_
     refine ln ?_
     refine cD hr H (fun c66 H => ?_) fun c66 H => ?_
     ·
      refine sr ?_
      obtain ⟨S67, e68, H⟩ := bd1 H
      refine oo [61, 62] [pA B0 0, vI p1] hr fun a hr => ?_
      replace h := h.m7.m7.m7.m7.m7.m7.m7
      have hc := plunderref8_Scene_joins_ok (va0_Rounds := va0_Rounds) (vc0_Rounds := vc0_Rounds) (hv0_Rounds := (RdRow.up 1 hv0_Rounds)) (H := e68) (h := h)
      refine cl (wn rfl) hr hc ?_; clear hc h
      rintro _ w ⟨caq69, ccq70, rfl, h⟩; refine ⟨_, rfl, fun a hr => ?_⟩
      refine ln ?_
      refine sr ?_
      refine oo [64, 65, 66] [pA B0 0, pA B0 0, pA B0 15] hr fun a hr => ?_
      refine ld (wn rfl) hr (.slice ca3 p0.Actors.length cc4) (h.cell 15 rfl) fun a hr => ?_
      refine o1 hr (vI p1) fun a hr => ?_
      refine opv (wn rfl) hr (pA (blk ca3) (p1.toNat * 4)) (ri_row (k := .i64) (E := 125) rfl (by kernel_rfl) (by kernel_rfl) (by kernel_rfl) (by kernel_rfl) (h.pick 2) c13) fun a hr => ?_
      refine o1 hr (pA (blk ca3) (p1.toNat * 4)) fun a hr => ?_
      replace h := h.m2
      refine stor (wn rfl) hr enc_T_plunderref8_Actor_ok h p1.toNat 0 (vI 11) (at_ p0.Actors p1.toNat) ({ at_ p0.Actors p1.toNat with Does := 11 }) (at_ok c13) fun w h => ?_
      refine ln ?_
      refine sr ?_
      refine oo [71, 72, 73] [pA B0 0, pA B0 0, pA B0 4] hr fun a hr => ?_
      refine ld (wn rfl) hr (vI S67.Join) ((h.pick 1).cell 4 rfl) fun a hr => ?_
      refine o1 hr (vB (S67.Join == 0)) fun a hr => ?_
      refine ln ?_
      refine cD hr H (fun c71 H => ?_) fun c71 H => ?_
      ·
       refine wp_region_lit ?_
       refine oo [76, 77, 78] [pA B0 0, pA B0 0, pA B0 15] hr fun a hr => ?_
       refine ld (wn rfl) hr (.slice ca3 p0.Actors.length cc4) ((h.pick 1).cell 15 rfl) fun a hr => ?_
       obtain ⟨c72, H⟩ := gd H
       refine o1 hr (vI p1) fun a hr => ?_
       refine opv (wn rfl) hr (pA (blk ca3) (p1.toNat * 4)) (ri_row (k := .i64) (E := 125) rfl (by kernel_rfl) (by kernel_rfl) (by kernel_rfl) (by kernel_rfl) h c72) fun a hr => ?_
       refine o1 hr (pA (blk ca3) (p1.toNat * 4)) fun a hr => ?_
       refine stor (wn rfl) hr enc_T_plunderref8_Actor_ok h p1.toNat 0 (vI 5) { at_ p0.Actors p1.toNat with Does := 11 } ({ { at_ p0.Actors p1.toNat with Does := 11 } with Does := 5 }) (get_set ((at_okL (by simpa [inr_] using c72)))) fun w h => ?_
       refine wpList_nil ?_
       refine blk_normal ?_
       refine end_norm0 rfl hr ?_
       have hn72 : p0.Actors.length = ((p0.Actors.set p1.toNat ({ at_ p0.Actors p1.toNat with Does := 11 })).set p1.toNat ({ { at_ p0.Actors p1.toNat with Does := 11 } with Does := 5 })).length := h.row_n; replace h := Fit.ren1 hn72 (fun q_ => rowOf 125 4 enc_T_plunderref8_Actor (.slice ca3 q_ cc4) ((p0.Actors.set p1.toNat ({ at_ p0.Actors p1.toNat with Does := 11 })).set p1.toNat ({ { at_ p0.Actors p1.toNat with Does := 11 } with Does := 5 }))) (fun q_ => pts B0 (.cells #[.slice va0_Rounds p0_Rounds.length vc0_Rounds, vI p0.Round, vI p0.Forked, vI p0.Fetched, vI S67.Join, vI p0.Slots_0, vI p0.Slots_1, vI p0.Slots_2, vI p0.Slots_3, vI p0.Slots_4, vI p0.Slots_5, vI p0.Slots_6, vI p0.Slots_7, .slice ca1 p0.Marks.length cc2, vI p0.Taken, .slice ca3 q_ cc4, vB p0.Run_Done, vI p0.Run_Steps, .slice ca5 p0.Run_Holders.length cc6, .slice ca7 p0.Run_Reads.length cc8, .slice ca9 p0.Run_Marks.length cc10, .slice caq69 S67.Run_Log.length ccq70] 128)) h
       replace H := ej1 H; subst H
       exact ⟨ca1, cc2, ca3, cc4, ca5, cc6, ca7, cc8, ca9, cc10, caq69, ccq70, rfl, h.se 8 [1, 2, 0, 3, 4, 5, 6]⟩
      ·
       refine wp_skip ?_
       refine blk_normal ?_
       refine end_norm0 rfl hr ?_
       have hn73 : p0.Actors.length = (p0.Actors.set p1.toNat ({ at_ p0.Actors p1.toNat with Does := 11 })).length := h.row_n; replace h := Fit.ren1 hn73 (fun q_ => rowOf 125 4 enc_T_plunderref8_Actor (.slice ca3 q_ cc4) (p0.Actors.set p1.toNat ({ at_ p0.Actors p1.toNat with Does := 11 }))) (fun q_ => pts B0 (.cells #[.slice va0_Rounds p0_Rounds.length vc0_Rounds, vI p0.Round, vI p0.Forked, vI p0.Fetched, vI S67.Join, vI p0.Slots_0, vI p0.Slots_1, vI p0.Slots_2, vI p0.Slots_3, vI p0.Slots_4, vI p0.Slots_5, vI p0.Slots_6, vI p0.Slots_7, .slice ca1 p0.Marks.length cc2, vI p0.Taken, .slice ca3 q_ cc4, vB p0.Run_Done, vI p0.Run_Steps, .slice ca5 p0.Run_Holders.length cc6, .slice ca7 p0.Run_Reads.length cc8, .slice ca9 p0.Run_Marks.length cc10, .slice caq69 S67.Run_Log.length ccq70] 128)) h
       replace H := ej1 H; subst H
       exact ⟨ca1, cc2, ca3, cc4, ca5, cc6, ca7, cc8, ca9, cc10, caq69, ccq70, rfl, h.se 8 [1, 2, 0, 3, 4, 5, 6]⟩
     ·
      obtain ⟨o77, H, hK76⟩ := kd1 H
      refine cut_rule (β := Unit) (fun _ a w => ∃ g75 : Bool, g75 = o77 ∧ ∃ j, Rep 211 (lk [(0, pA B0 0), (1, vI p1), (4, pA b14 0), (14, vI (at_ p0.Actors p1.toNat).Does), (83, vB g75)] j) a ∧ Fit z (sepL (ob128 B0 p0 (.slice va0_Rounds p0_Rounds.length vc0_Rounds) ca1 cc2 ca3 cc4 ca5 cc6 ca7 cc8 ca9 cc10 ca11 cc12 :: ro2 ca1 cc2 p0.Marks :: ro125 ca3 cc4 p0.Actors :: ro3 ca5 cc6 p0.Run_Holders :: rn31 ca7 cc8 p0.Run_Reads :: ro2 ca9 cc10 p0.Run_Marks :: ro96 ca11 cc12 p0.Run_Log :: ob125 b14 (at_ p0.Actors p1.toNat) :: L)) w) ?_ ?_
      ·
       refine sr ?_
       refine oo [84, 83] [vB ((at_ p0.Actors p1.toNat).Does == 5), vB ((at_ p0.Actors p1.toNat).Does == 5)] hr fun a hr => ?_
       refine ln ?_
       refine cD hr H (fun c78 H => ?_) fun c78 H => ?_
       ·
        refine wp_skip ?_
        refine then_normal ?_
        exact ⟨(), ((at_ p0.Actors p1.toNat).Does == 5), sinj H, hr.fj (h.se 8 [1, 2, 3, 4, 5, 6, 7, 0])⟩
       ·
        refine wp_region_lit ?_
        refine oo [85, 83] [vB ((at_ p0.Actors p1.toNat).Does == 10), vB ((at_ p0.Actors p1.toNat).Does == 10)] hr fun a hr => ?_
        refine ln ?_
        exact ⟨(), ((at_ p0.Actors p1.toNat).Does == 10), sinj H, hr.fj (h.se 8 [1, 2, 3, 4, 5, 6, 7, 0])⟩
      clear h hr a; rintro _ a w ⟨g75, rfl, j, hr, h⟩
      replace H := kk1 hK76
      refine cV hr H (fun c79 H => ?_) fun c79 H => ?_
      ·
       refine wp_region_lit ?_
       obtain ⟨S80, e81, H⟩ := bd1 H
       refine oo [86, 87] [pA B0 0, vI p1] hr fun a hr => ?_
       have hc := plunderref8_Scene_back_ok (va0_Rounds := va0_Rounds) (vc0_Rounds := vc0_Rounds) (hv0_Rounds := (RdRow.up 1 hv0_Rounds)) (H := e81) (h := h)
       refine cl (wn rfl) hr hc ?_; clear hc h
       rintro _ w ⟨caq82, ccq83, caq84, ccq85, caq86, ccq87, caq88, ccq89, caq90, ccq91, caq92, ccq93, rfl, h⟩; refine ⟨_, rfl, fun a hr => ?_⟩
       refine wpList_nil ?_
       refine blk_normal ?_
       refine end_norm0 rfl hr ?_
       replace H := ej1 H; subst H
       exact ⟨caq82, ccq83, caq84, ccq85, caq86, ccq87, caq88, ccq89, caq90, ccq91, caq92, ccq93, rfl, h.se 8 [0, 1, 2, 3, 4, 5, 6]⟩
      ·
       refine sr ?_
       refine oo [90, 89] [vB ((at_ p0.Actors p1.toNat).Does == 6), vB ((at_ p0.Actors p1.toNat).Does == 6)] hr fun a hr => ?_
       refine ln ?_
       refine cD hr H (fun c94 H => ?_) fun c94 H => ?_
       ·
        refine wp_seq ?_
        obtain ⟨c95, H⟩ := gd H
        refine regL [(B0, 3, [vI p0.Fetched]), (B0, (5 + p0.Fetched.toNat), [vI (at_ [p0.Slots_0, p0.Slots_1, p0.Slots_2, p0.Slots_3, p0.Slots_4, p0.Slots_5, p0.Slots_6, p0.Slots_7] p0.Fetched.toNat)])] [2, 3, 5, 6, 7] 10 h (fun h => ⟨⟨h.cell 3 rfl, trivial⟩, ⟨h.cell (5 + p0.Fetched.toNat) (off_cell (f := fun k_ => vI (at_ [p0.Slots_0, p0.Slots_1, p0.Slots_2, p0.Slots_3, p0.Slots_4, p0.Slots_5, p0.Slots_6, p0.Slots_7] k_)) (inr_lt c95) (by intro k hk; match k, hk with | 0, _ => exact rfl | 1, _ => exact rfl | 2, _ => exact rfl | 3, _ => exact rfl | 4, _ => exact rfl | 5, _ => exact rfl | 6, _ => exact rfl | 7, _ => exact rfl | k + 8, h => exact absurd h (by omega))), trivial⟩, trivial⟩) fun w h hd => ?_
        refine evs' hd 4 [(0, 91, pA B0 0), (1, 92, pA B0 0), (2, 93, pA B0 0), (3, 94, pA B0 3), (5, 96, pA B0 0), (6, 97, pA B0 5)] hr fun a hr => ?_
        refine elx hd 0 3 4 hr (wn rfl) rfl rfl fun a hr => ?_
        refine eon hd 2 7 rfl (wn rfl) hr (.pointer (some ⟨B0, 5 + p0.Fetched.toNat, none⟩)) (hrun := fun w => ri_off (k := .i64) (E := 2) (N := 8) rfl (by kernel_rfl) (by kernel_rfl) (by kernel_rfl) (by kernel_rfl) c95) fun a hr => ?_
        refine elx hd 1 1 8 hr (wn rfl) rfl rfl fun a hr => ?_
        refine evs' hd 0 [(9, 5, vI (at_ [p0.Slots_0, p0.Slots_1, p0.Slots_2, p0.Slots_3, p0.Slots_4, p0.Slots_5, p0.Slots_6, p0.Slots_7] p0.Fetched.toNat))] hr fun a hr => ?_
        refine een ?_
        refine then_normal ?_
        refine wp_seq ?_
        obtain ⟨r96, e97, H⟩ := bd1 H
        obtain ⟨S98, e99, H⟩ := bd1 H
        refine regL [(B0, 3, [vI p0.Fetched])] [2, 3, 5, 6] 11 h (fun h => ⟨⟨h.cell 3 rfl, trivial⟩, trivial⟩) fun w h hd => ?_
        refine evs' hd 5 [(0, 100, pA B0 0), (1, 101, vI p1), (4, 104, pA B0 0), (5, 105, pA B0 0), (6, 106, pA B0 3), (9, 109, vI (at_ [p0.Slots_0, p0.Slots_1, p0.Slots_2, p0.Slots_3, p0.Slots_4, p0.Slots_5, p0.Slots_6, p0.Slots_7] p0.Fetched.toNat))] hr fun a hr => ?_
        refine elx hd 0 4 7 hr (wn rfl) rfl rfl fun a hr => ?_
        refine eo1 2 rfl ?_
        have hc := plunderref8_frameAt_ok (H := e97) (h := h)
        refine cl (wn rfl) hr hc ?_; clear hc h
        rintro _ w ⟨rfl, h⟩; refine ⟨_, rfl, fun a hr => ?_⟩
        refine ln ?_
        refine eE ⟨⟨h.cell 3 rfl, trivial⟩, trivial⟩ fun hd => ?_
        refine evs' hd 1 [(3, 103, vI (wi (r96 + 2))), (8, 108, vI (wi ((wi (r96 + 2)) + p0.Fetched)))] hr fun a hr => ?_
        refine eo1 10 rfl ?_
        have hc := plunderref8_Scene_note_ok (va0_Rounds := va0_Rounds) (vc0_Rounds := vc0_Rounds) (hv0_Rounds := (RdRow.up 1 hv0_Rounds)) (H := e99) (h := h)
        refine cl (wn rfl) hr hc ?_; clear hc h
        rintro _ w ⟨caq100, ccq101, rfl, h⟩; refine ⟨_, rfl, fun a hr => ?_⟩
        refine ln ?_
        refine xE ?_
        refine een ?_
        refine then_normal ?_
        refine wp_seq ?_
        obtain ⟨c102, H⟩ := gd H
        obtain ⟨cs106, h⟩ := h.m4.rowN_take (at_ok c102)
        obtain ⟨ca103, cc104, e105, h⟩ := own_sl31_op (h.m1); subst e105
        obtain ⟨c110, H⟩ := gd H
        refine regL [(B0, 19, [.slice ca7 p0.Run_Reads.length cc8]), (B0, 1, [vI p0.Round]), (B0, 19, [.slice ca7 p0.Run_Reads.length cc8]), (B0, 1, [vI p0.Round]), (blk ca7, p0.Round.toNat * 1, [.slice ca103 (at_ p0.Run_Reads p0.Round.toNat).length cc104])] [1, 2, 3, 6, 7, 10, 11, 12, 15, 16, 18, 22] 25 h (fun h => ⟨⟨(h.pick 2).cell 19 rfl, trivial⟩, ⟨(h.pick 2).cell 1 rfl, trivial⟩, ⟨(h.pick 2).cell 19 rfl, trivial⟩, ⟨(h.pick 2).cell 1 rfl, trivial⟩, ⟨(h.pick 1).rowH_cell (by decide) (f := 0) rfl, trivial⟩, trivial⟩) fun w h hd => ?_
        refine evs' hd 10 [(0, 111, pA B0 0), (1, 112, pA B0 0), (2, 113, pA B0 16), (3, 114, pA B0 19), (5, 116, pA B0 0), (6, 117, pA B0 0), (7, 118, pA B0 1), (9, 120, pA B0 0), (10, 121, pA B0 0), (11, 122, pA B0 16), (12, 123, pA B0 19), (14, 125, pA B0 0), (15, 126, pA B0 0), (16, 127, pA B0 1), (20, 131, vI (at_ [p0.Slots_0, p0.Slots_1, p0.Slots_2, p0.Slots_3, p0.Slots_4, p0.Slots_5, p0.Slots_6, p0.Slots_7] p0.Fetched.toNat))] hr fun a hr => ?_
        refine elx hd 0 9 4 hr (wn rfl) rfl rfl fun a hr => ?_
        refine elx hd 1 8 8 hr (wn rfl) rfl rfl fun a hr => ?_
        refine elx hd 2 7 13 hr (wn rfl) rfl rfl fun a hr => ?_
        refine elx hd 3 6 17 hr (wn rfl) rfl rfl fun a hr => ?_
        refine eon hd 5 18 rfl (wn rfl) hr (pA (blk ca7) (p0.Round.toNat * 1)) (hrun := fun w => ri_rowH (k := .i64) (E := 31) rfl (by kernel_rfl) (by kernel_rfl) (by kernel_rfl) (by kernel_rfl) (h.pick 1) c102) fun a hr => ?_
        refine elx hd 4 4 19 hr (wn rfl) rfl rfl fun a hr => ?_
        refine eo1 21 rfl ?_
        refine onew (wn rfl) hr h (fun b => .slice (some ⟨b, 0, none⟩) 1 1) (#[vI (at_ [p0.Slots_0, p0.Slots_1, p0.Slots_2, p0.Slots_3, p0.Slots_4, p0.Slots_5, p0.Slots_6, p0.Slots_7] p0.Fetched.toNat)]) 2 fun b107 w a h hr => ?_
        refine ln ?_
        refine xE ?_
        refine eo1 22 rfl ?_
        replace h := h.m1
        refine op_append (n0 := (at_ p0.Run_Reads p0.Round.toNat).length) (c := 1) (bytes := 8) (wn rfl) rfl rfl hr rfl (by kernel_rfl) (by kernel_rfl) encZ_i64_ok (E := 2) (xs := (at_ p0.Run_Reads p0.Round.toNat)) (by kernel_rfl) (by kernel_rfl) h (news := [at_ [p0.Slots_0, p0.Slots_1, p0.Slots_2, p0.Slots_3, p0.Slots_4, p0.Slots_5, p0.Slots_6, p0.Slots_7] p0.Fetched.toNat]) (m := 1) rfl ((h.pick 1).news rfl) c110 rfl fun ca108 cc109 w a h hr => ?_
        refine ln ?_
        refine eE ⟨⟨(h.pick 3).cell 19 rfl, trivial⟩, ⟨(h.pick 3).cell 1 rfl, trivial⟩, ⟨(h.pick 3).cell 19 rfl, trivial⟩, ⟨(h.pick 3).cell 1 rfl, trivial⟩, ⟨(h.pick 2).rowH_cell (by decide) (f := 0) rfl, trivial⟩, trivial⟩ fun hd => ?_
        refine eon hd 1 23 rfl (wn rfl) hr (pA (blk ca7) (p0.Round.toNat * 1)) (hrun := fun w => ri_rowH (k := .i64) (E := 31) rfl (by kernel_rfl) (by kernel_rfl) (by kernel_rfl) (by kernel_rfl) (h.pick 2) c102) fun a hr => ?_
        refine eo1 24 rfl ?_
        replace h := h.m2
        refine op_store_rowH (wn rfl) rfl hr rfl (by kernel_rfl) (by kernel_rfl) (v := .slice ca108 ((at_ p0.Run_Reads p0.Round.toNat) ++ [at_ [p0.Slots_0, p0.Slots_1, p0.Slots_2, p0.Slots_3, p0.Slots_4, p0.Slots_5, p0.Slots_6, p0.Slots_7] p0.Fetched.toNat]).length cc109) rfl rfl (by kernel_rfl) (by kernel_rfl) h (i := p0.Round.toNat) (f := 0) (by decide) fun w h => ?_
        refine ln ?_
        refine xE ?_
        refine een ?_
        refine then_normal ?_
        refine sr ?_
        refine oo [135, 136, 137, 138] [pA B0 0, pA B0 0, pA B0 0, pA B0 3] hr fun a hr => ?_
        refine ld (wn rfl) hr (vI p0.Fetched) ((h.pick 3).cell 3 rfl) fun a hr => ?_
        refine oo [140, 141, 142] [vI (wi (p0.Fetched + 1)), pA B0 0, pA B0 3] hr fun a hr => ?_
        replace h := h.m3
        refine st1 (wn rfl) hr h 3 (vI (wi (p0.Fetched + 1))) (pts B0 (.cells #[.slice va0_Rounds p0_Rounds.length vc0_Rounds, vI p0.Round, vI p0.Forked, vI (wi (p0.Fetched + 1)), vI p0.Join, vI p0.Slots_0, vI p0.Slots_1, vI p0.Slots_2, vI p0.Slots_3, vI p0.Slots_4, vI p0.Slots_5, vI p0.Slots_6, vI p0.Slots_7, .slice ca1 p0.Marks.length cc2, vI p0.Taken, .slice ca3 p0.Actors.length cc4, vB p0.Run_Done, vI p0.Run_Steps, .slice ca5 p0.Run_Holders.length cc6, .slice ca7 p0.Run_Reads.length cc8, .slice ca9 p0.Run_Marks.length cc10, .slice caq100 S98.Run_Log.length ccq101] 128)) fun w h => ?_
        refine ln ?_
        refine wp_region_lit ?_
        refine oo [143, 144] [pA B0 0, vI p1] hr fun a hr => ?_
        replace h := h.m1.m2
        replace h := own_sl31_sh (x := ((at_ p0.Run_Reads p0.Round.toNat) ++ [at_ [p0.Slots_0, p0.Slots_1, p0.Slots_2, p0.Slots_3, p0.Slots_4, p0.Slots_5, p0.Slots_6, p0.Slots_7] p0.Fetched.toNat])) h
        replace h := (h.m1).rowH_back
        have hn110 : p0.Run_Reads.length = (p0.Run_Reads.set p0.Round.toNat ((at_ p0.Run_Reads p0.Round.toNat) ++ [at_ [p0.Slots_0, p0.Slots_1, p0.Slots_2, p0.Slots_3, p0.Slots_4, p0.Slots_5, p0.Slots_6, p0.Slots_7] p0.Fetched.toNat])).length := h.rowN_n; replace h := Fit.ren1 hn110 (fun q_ => rowN 31 1 own_sl31 (.slice ca7 q_ cc8) (p0.Run_Reads.set p0.Round.toNat ((at_ p0.Run_Reads p0.Round.toNat) ++ [at_ [p0.Slots_0, p0.Slots_1, p0.Slots_2, p0.Slots_3, p0.Slots_4, p0.Slots_5, p0.Slots_6, p0.Slots_7] p0.Fetched.toNat]))) (fun q_ => pts B0 (.cells #[.slice va0_Rounds p0_Rounds.length vc0_Rounds, vI p0.Round, vI p0.Forked, vI (wi (p0.Fetched + 1)), vI p0.Join, vI p0.Slots_0, vI p0.Slots_1, vI p0.Slots_2, vI p0.Slots_3, vI p0.Slots_4, vI p0.Slots_5, vI p0.Slots_6, vI p0.Slots_7, .slice ca1 p0.Marks.length cc2, vI p0.Taken, .slice ca3 p0.Actors.length cc4, vB p0.Run_Done, vI p0.Run_Steps, .slice ca5 p0.Run_Holders.length cc6, .slice ca7 q_ cc8, .slice ca9 p0.Run_Marks.length cc10, .slice caq100 S98.Run_Log.length ccq101] 128)) h
        obtain ⟨S112, e113, H⟩ := bd1 H
        replace h := h.m7.m7.m2.m7.m7.m7.m6
        have hc := plunderref8_Scene_fetches_ok (va0_Rounds := va0_Rounds) (vc0_Rounds := vc0_Rounds) (hv0_Rounds := (RdRow.up 2 hv0_Rounds)) (H := e113) (h := h)
        refine cl (wn rfl) hr hc ?_; clear hc h
        rintro _ w ⟨caq114, ccq115, caq116, ccq117, caq118, ccq119, caq120, ccq121, caq122, ccq123, caq124, ccq125, rfl, h⟩; refine ⟨_, rfl, fun a hr => ?_⟩
        refine wpList_nil ?_
        refine blk_normal ?_
        refine end_norm0 rfl hr ?_
        replace H := ej1 H; subst H
        exact ⟨caq114, ccq115, caq116, ccq117, caq118, ccq119, caq120, ccq121, caq122, ccq123, caq124, ccq125, rfl, h.se 9 [0, 1, 2, 3, 4, 5, 6]⟩
       ·
        refine sr ?_
        refine oo [147, 146] [vB ((at_ p0.Actors p1.toNat).Does == 7), vB ((at_ p0.Actors p1.toNat).Does == 7)] hr fun a hr => ?_
        refine ln ?_
        refine cD hr H (fun c126 H => ?_) fun c126 H => ?_
        ·
         refine sr ?_
         refine oo [148, 149, 150] [pA B0 0, vI p1, pA b14 1] hr fun a hr => ?_
         refine ld (wn rfl) hr (vI (at_ p0.Actors p1.toNat).Frame) ((h.pick 7).cell 1 rfl) fun a hr => ?_
         obtain ⟨S127, e128, H⟩ := bd1 H
         have hc := plunderref8_Scene_begins_ok (va0_Rounds := va0_Rounds) (vc0_Rounds := vc0_Rounds) (hv0_Rounds := (RdRow.up 1 hv0_Rounds)) (H := e128) (h := h)
         refine cl (wn rfl) hr hc ?_; clear hc h
         rintro _ w ⟨caq129, ccq130, caq131, ccq132, rfl, h⟩; refine ⟨_, rfl, fun a hr => ?_⟩
         refine ln ?_
         refine wp_region_lit ?_
         refine oo [153, 154, 155] [pA B0 0, pA B0 0, pA B0 15] hr fun a hr => ?_
         refine ld (wn rfl) hr (.slice ca3 p0.Actors.length cc4) (h.cell 15 rfl) fun a hr => ?_
         refine o1 hr (vI p1) fun a hr => ?_
         refine opv (wn rfl) hr (pA (blk ca3) (p1.toNat * 4)) (ri_row (k := .i64) (E := 125) rfl (by kernel_rfl) (by kernel_rfl) (by kernel_rfl) (by kernel_rfl) (h.pick 2) c13) fun a hr => ?_
         refine o1 hr (pA (blk ca3) (p1.toNat * 4)) fun a hr => ?_
         replace h := h.m2
         refine stor (wn rfl) hr enc_T_plunderref8_Actor_ok h p1.toNat 0 (vI 8) (at_ p0.Actors p1.toNat) ({ at_ p0.Actors p1.toNat with Does := 8 }) (at_ok c13) fun w h => ?_
         refine wpList_nil ?_
         refine blk_normal ?_
         refine end_norm0 rfl hr ?_
         have hn132 : p0.Actors.length = (p0.Actors.set p1.toNat ({ at_ p0.Actors p1.toNat with Does := 8 })).length := h.row_n; replace h := Fit.ren1 hn132 (fun q_ => rowOf 125 4 enc_T_plunderref8_Actor (.slice ca3 q_ cc4) (p0.Actors.set p1.toNat ({ at_ p0.Actors p1.toNat with Does := 8 }))) (fun q_ => pts B0 (.cells #[.slice va0_Rounds p0_Rounds.length vc0_Rounds, vI p0.Round, vI p0.Forked, vI p0.Fetched, vI p0.Join, vI p0.Slots_0, vI p0.Slots_1, vI p0.Slots_2, vI p0.Slots_3, vI p0.Slots_4, vI p0.Slots_5, vI p0.Slots_6, vI p0.Slots_7, .slice caq129 S127.Marks.length ccq130, vI p0.Taken, .slice ca3 q_ cc4, vB p0.Run_Done, vI p0.Run_Steps, .slice ca5 p0.Run_Holders.length cc6, .slice ca7 p0.Run_Reads.length cc8, .slice ca9 p0.Run_Marks.length cc10, .slice caq131 S127.Run_Log.length ccq132] 128)) h
         replace H := ej1 H; subst H
         exact ⟨caq129, ccq130, ca3, cc4, ca5, cc6, ca7, cc8, ca9, cc10, caq131, ccq132, rfl, h.se 8 [1, 2, 0, 3, 4, 5, 6]⟩
        ·
         refine sr ?_
         refine oo [161, 160] [vB ((at_ p0.Actors p1.toNat).Does == 8), vB ((at_ p0.Actors p1.toNat).Does == 8)] hr fun a hr => ?_
         refine ln ?_
         refine cD hr H (fun c134 H => ?_) fun c134 H => ?_
         ·
          refine wp_seq ?_
          obtain ⟨c135, H⟩ := gd H
          refine regL [(b14, 2, [vI (at_ p0.Actors p1.toNat).Slot]), (b14, 3, [vI (at_ p0.Actors p1.toNat).V])] [1, 3, 5, 6] 9 h (fun h => ⟨⟨(h.pick 7).cell 2 rfl, trivial⟩, ⟨(h.pick 7).cell 3 rfl, trivial⟩, trivial⟩) fun w h hd => ?_
          refine evs' hd 4 [(0, 162, pA B0 0), (1, 163, pA b14 2), (3, 165, pA b14 3), (5, 167, pA B0 0), (6, 168, pA B0 5)] hr fun a hr => ?_
          refine elx hd 0 3 2 hr (wn rfl) rfl rfl fun a hr => ?_
          refine elx hd 1 2 4 hr (wn rfl) rfl rfl fun a hr => ?_
          refine eon hd 1 7 rfl (wn rfl) hr (.pointer (some ⟨B0, 5 + (at_ p0.Actors p1.toNat).Slot.toNat, none⟩)) (hrun := fun w => ri_off (k := .i64) (E := 2) (N := 8) rfl (by kernel_rfl) (by kernel_rfl) (by kernel_rfl) (by kernel_rfl) c135) fun a hr => ?_
          refine eo1 8 rfl ?_
          refine op_store_off (N := 8) (off := 5) (m := (at_ p0.Actors p1.toNat).Slot.toNat) (f := fun k_ => vI (at_ [p0.Slots_0, p0.Slots_1, p0.Slots_2, p0.Slots_3, p0.Slots_4, p0.Slots_5, p0.Slots_6, p0.Slots_7] k_)) (g := fun k_ => #[.slice va0_Rounds p0_Rounds.length vc0_Rounds, vI p0.Round, vI p0.Forked, vI p0.Fetched, vI p0.Join, vI (if k_ = 0 then (at_ p0.Actors p1.toNat).V else p0.Slots_0), vI (if k_ = 1 then (at_ p0.Actors p1.toNat).V else p0.Slots_1), vI (if k_ = 2 then (at_ p0.Actors p1.toNat).V else p0.Slots_2), vI (if k_ = 3 then (at_ p0.Actors p1.toNat).V else p0.Slots_3), vI (if k_ = 4 then (at_ p0.Actors p1.toNat).V else p0.Slots_4), vI (if k_ = 5 then (at_ p0.Actors p1.toNat).V else p0.Slots_5), vI (if k_ = 6 then (at_ p0.Actors p1.toNat).V else p0.Slots_6), vI (if k_ = 7 then (at_ p0.Actors p1.toNat).V else p0.Slots_7), .slice ca1 p0.Marks.length cc2, vI p0.Taken, .slice ca3 p0.Actors.length cc4, vB p0.Run_Done, vI p0.Run_Steps, .slice ca5 p0.Run_Holders.length cc6, .slice ca7 p0.Run_Reads.length cc8, .slice ca9 p0.Run_Marks.length cc10, .slice ca11 p0.Run_Log.length cc12]) (wn rfl) rfl hr rfl (by kernel_rfl) (by kernel_rfl) (v := vI (at_ p0.Actors p1.toNat).V) rfl rfl (by kernel_rfl) h (inr_lt c135) (by intro k hk; match k, hk with | 0, _ => exact rfl | 1, _ => exact rfl | 2, _ => exact rfl | 3, _ => exact rfl | 4, _ => exact rfl | 5, _ => exact rfl | 6, _ => exact rfl | 7, _ => exact rfl | k + 8, h => exact absurd h (by omega)) (by intro k hk; match k, hk with | 0, _ => exact rfl | 1, _ => exact rfl | 2, _ => exact rfl | 3, _ => exact rfl | 4, _ => exact rfl | 5, _ => exact rfl | 6, _ => exact rfl | 7, _ => exact rfl | k + 8, h => exact absurd h (by omega)) fun w h => ?_
          refine ln ?_
          refine xE ?_
          refine een ?_
          refine then_normal ?_
          refine wp_seq ?_
          obtain ⟨r136, e137, H⟩ := bd1 H
          obtain ⟨S138, e139, H⟩ := bd1 H
          refine regL [(b14, 2, [vI (at_ p0.Actors p1.toNat).Slot]), (b14, 3, [vI (at_ p0.Actors p1.toNat).V])] [2, 3, 4, 6, 7] 10 h (fun h => ⟨⟨(h.pick 7).cell 2 rfl, trivial⟩, ⟨(h.pick 7).cell 3 rfl, trivial⟩, trivial⟩) fun w h hd => ?_
          refine evs' hd 6 [(0, 170, pA B0 0), (1, 171, vI p1), (4, 174, pA b14 2), (7, 177, pA b14 3)] hr fun a hr => ?_
          refine elx hd 0 5 5 hr (wn rfl) rfl rfl fun a hr => ?_
          refine elx hd 1 4 8 hr (wn rfl) rfl rfl fun a hr => ?_
          refine eo1 2 rfl ?_
          have hc := plunderref8_frameAt_ok (H := e137) (h := h)
          refine cl (wn rfl) hr hc ?_; clear hc h
          rintro _ w ⟨rfl, h⟩; refine ⟨_, rfl, fun a hr => ?_⟩
          refine ln ?_
          refine eE ⟨⟨(h.pick 7).cell 2 rfl, trivial⟩, ⟨(h.pick 7).cell 3 rfl, trivial⟩, trivial⟩ fun hd => ?_
          refine evs' hd 1 [(3, 173, vI (wi (r136 + 2))), (6, 176, vI (wi ((wi (r136 + 2)) + (at_ p0.Actors p1.toNat).Slot)))] hr fun a hr => ?_
          refine eo1 9 rfl ?_
          have hc := plunderref8_Scene_note_ok (va0_Rounds := va0_Rounds) (vc0_Rounds := vc0_Rounds) (hv0_Rounds := (RdRow.up 1 hv0_Rounds)) (H := e139) (h := h)
          refine cl (wn rfl) hr hc ?_; clear hc h
          rintro _ w ⟨caq140, ccq141, rfl, h⟩; refine ⟨_, rfl, fun a hr => ?_⟩
          refine ln ?_
          refine xE ?_
          refine een ?_
          refine then_normal ?_
          refine wp_region_lit ?_
          refine oo [180, 181, 182] [pA B0 0, pA B0 0, pA B0 15] hr fun a hr => ?_
          refine ld (wn rfl) hr (.slice ca3 p0.Actors.length cc4) (h.cell 15 rfl) fun a hr => ?_
          refine o1 hr (vI p1) fun a hr => ?_
          refine opv (wn rfl) hr (pA (blk ca3) (p1.toNat * 4)) (ri_row (k := .i64) (E := 125) rfl (by kernel_rfl) (by kernel_rfl) (by kernel_rfl) (by kernel_rfl) (h.pick 2) c13) fun a hr => ?_
          refine o1 hr (pA (blk ca3) (p1.toNat * 4)) fun a hr => ?_
          replace h := h.m2
          refine stor (wn rfl) hr enc_T_plunderref8_Actor_ok h p1.toNat 0 (vI 9) (at_ p0.Actors p1.toNat) ({ at_ p0.Actors p1.toNat with Does := 9 }) (at_ok c13) fun w h => ?_
          refine wpList_nil ?_
          refine blk_normal ?_
          refine end_norm0 rfl hr ?_
          have hn141 : p0.Actors.length = (p0.Actors.set p1.toNat ({ at_ p0.Actors p1.toNat with Does := 9 })).length := h.row_n; replace h := Fit.ren1 hn141 (fun q_ => rowOf 125 4 enc_T_plunderref8_Actor (.slice ca3 q_ cc4) (p0.Actors.set p1.toNat ({ at_ p0.Actors p1.toNat with Does := 9 }))) (fun q_ => pts B0 (.cells #[.slice va0_Rounds p0_Rounds.length vc0_Rounds, vI p0.Round, vI p0.Forked, vI p0.Fetched, vI p0.Join, vI (if (at_ p0.Actors p1.toNat).Slot.toNat = 0 then (at_ p0.Actors p1.toNat).V else p0.Slots_0), vI (if (at_ p0.Actors p1.toNat).Slot.toNat = 1 then (at_ p0.Actors p1.toNat).V else p0.Slots_1), vI (if (at_ p0.Actors p1.toNat).Slot.toNat = 2 then (at_ p0.Actors p1.toNat).V else p0.Slots_2), vI (if (at_ p0.Actors p1.toNat).Slot.toNat = 3 then (at_ p0.Actors p1.toNat).V else p0.Slots_3), vI (if (at_ p0.Actors p1.toNat).Slot.toNat = 4 then (at_ p0.Actors p1.toNat).V else p0.Slots_4), vI (if (at_ p0.Actors p1.toNat).Slot.toNat = 5 then (at_ p0.Actors p1.toNat).V else p0.Slots_5), vI (if (at_ p0.Actors p1.toNat).Slot.toNat = 6 then (at_ p0.Actors p1.toNat).V else p0.Slots_6), vI (if (at_ p0.Actors p1.toNat).Slot.toNat = 7 then (at_ p0.Actors p1.toNat).V else p0.Slots_7), .slice ca1 p0.Marks.length cc2, vI p0.Taken, .slice ca3 q_ cc4, vB p0.Run_Done, vI p0.Run_Steps, .slice ca5 p0.Run_Holders.length cc6, .slice ca7 p0.Run_Reads.length cc8, .slice ca9 p0.Run_Marks.length cc10, .slice caq140 S138.Run_Log.length ccq141] 128)) h
          replace H := ej1 H; subst H
          exact ⟨ca1, cc2, ca3, cc4, ca5, cc6, ca7, cc8, ca9, cc10, caq140, ccq141, rfl, h.se 8 [1, 2, 0, 3, 4, 5, 6]⟩
         ·
          refine sr ?_
          refine oo [188, 187] [vB ((at_ p0.Actors p1.toNat).Does == 9), vB ((at_ p0.Actors p1.toNat).Does == 9)] hr fun a hr => ?_
          refine ln ?_
          refine cD hr H (fun c143 H => ?_) fun c143 H => ?_
          ·
           refine sr ?_
           obtain ⟨S144, e145, H⟩ := bd1 H
           refine oo [189, 190] [pA B0 0, vI p1] hr fun a hr => ?_
           have hc := plunderref8_Scene_joins_ok (va0_Rounds := va0_Rounds) (vc0_Rounds := vc0_Rounds) (hv0_Rounds := (RdRow.up 1 hv0_Rounds)) (H := e145) (h := h)
           refine cl (wn rfl) hr hc ?_; clear hc h
           rintro _ w ⟨caq146, ccq147, rfl, h⟩; refine ⟨_, rfl, fun a hr => ?_⟩
           refine ln ?_
           refine sr ?_
           refine oo [192, 193, 194] [pA B0 0, pA B0 0, pA B0 15] hr fun a hr => ?_
           refine ld (wn rfl) hr (.slice ca3 p0.Actors.length cc4) (h.cell 15 rfl) fun a hr => ?_
           refine o1 hr (vI p1) fun a hr => ?_
           refine opv (wn rfl) hr (pA (blk ca3) (p1.toNat * 4)) (ri_row (k := .i64) (E := 125) rfl (by kernel_rfl) (by kernel_rfl) (by kernel_rfl) (by kernel_rfl) (h.pick 2) c13) fun a hr => ?_
           refine o1 hr (pA (blk ca3) (p1.toNat * 4)) fun a hr => ?_
           replace h := h.m2
           refine stor (wn rfl) hr enc_T_plunderref8_Actor_ok h p1.toNat 0 (vI 11) (at_ p0.Actors p1.toNat) ({ at_ p0.Actors p1.toNat with Does := 11 }) (at_ok c13) fun w h => ?_
           refine ln ?_
           refine sr ?_
           refine oo [199, 200, 201] [pA B0 0, pA B0 0, pA B0 4] hr fun a hr => ?_
           refine ld (wn rfl) hr (vI S144.Join) ((h.pick 1).cell 4 rfl) fun a hr => ?_
           refine o1 hr (vB (S144.Join == 0)) fun a hr => ?_
           refine ln ?_
           refine cD hr H (fun c148 H => ?_) fun c148 H => ?_
           ·
            refine wp_region_lit ?_
            refine oo [204, 205, 206] [pA B0 0, pA B0 0, pA B0 15] hr fun a hr => ?_
            refine ld (wn rfl) hr (.slice ca3 p0.Actors.length cc4) ((h.pick 1).cell 15 rfl) fun a hr => ?_
            obtain ⟨c149, H⟩ := gd H
            refine o1 hr (vI p1) fun a hr => ?_
            refine opv (wn rfl) hr (pA (blk ca3) (p1.toNat * 4)) (ri_row (k := .i64) (E := 125) rfl (by kernel_rfl) (by kernel_rfl) (by kernel_rfl) (by kernel_rfl) h c149) fun a hr => ?_
            refine o1 hr (pA (blk ca3) (p1.toNat * 4)) fun a hr => ?_
            refine stor (wn rfl) hr enc_T_plunderref8_Actor_ok h p1.toNat 0 (vI 10) { at_ p0.Actors p1.toNat with Does := 11 } ({ { at_ p0.Actors p1.toNat with Does := 11 } with Does := 10 }) (get_set ((at_okL (by simpa [inr_] using c149)))) fun w h => ?_
            refine wpList_nil ?_
            refine blk_normal ?_
            refine end_norm0 rfl hr ?_
            have hn149 : p0.Actors.length = ((p0.Actors.set p1.toNat ({ at_ p0.Actors p1.toNat with Does := 11 })).set p1.toNat ({ { at_ p0.Actors p1.toNat with Does := 11 } with Does := 10 })).length := h.row_n; replace h := Fit.ren1 hn149 (fun q_ => rowOf 125 4 enc_T_plunderref8_Actor (.slice ca3 q_ cc4) ((p0.Actors.set p1.toNat ({ at_ p0.Actors p1.toNat with Does := 11 })).set p1.toNat ({ { at_ p0.Actors p1.toNat with Does := 11 } with Does := 10 }))) (fun q_ => pts B0 (.cells #[.slice va0_Rounds p0_Rounds.length vc0_Rounds, vI p0.Round, vI p0.Forked, vI p0.Fetched, vI S144.Join, vI p0.Slots_0, vI p0.Slots_1, vI p0.Slots_2, vI p0.Slots_3, vI p0.Slots_4, vI p0.Slots_5, vI p0.Slots_6, vI p0.Slots_7, .slice ca1 p0.Marks.length cc2, vI p0.Taken, .slice ca3 q_ cc4, vB p0.Run_Done, vI p0.Run_Steps, .slice ca5 p0.Run_Holders.length cc6, .slice ca7 p0.Run_Reads.length cc8, .slice ca9 p0.Run_Marks.length cc10, .slice caq146 S144.Run_Log.length ccq147] 128)) h
            replace H := ej1 H; subst H
            exact ⟨ca1, cc2, ca3, cc4, ca5, cc6, ca7, cc8, ca9, cc10, caq146, ccq147, rfl, h.se 8 [1, 2, 0, 3, 4, 5, 6]⟩
           ·
            refine wp_skip ?_
            refine blk_normal ?_
            refine end_norm0 rfl hr ?_
            have hn150 : p0.Actors.length = (p0.Actors.set p1.toNat ({ at_ p0.Actors p1.toNat with Does := 11 })).length := h.row_n; replace h := Fit.ren1 hn150 (fun q_ => rowOf 125 4 enc_T_plunderref8_Actor (.slice ca3 q_ cc4) (p0.Actors.set p1.toNat ({ at_ p0.Actors p1.toNat with Does := 11 }))) (fun q_ => pts B0 (.cells #[.slice va0_Rounds p0_Rounds.length vc0_Rounds, vI p0.Round, vI p0.Forked, vI p0.Fetched, vI S144.Join, vI p0.Slots_0, vI p0.Slots_1, vI p0.Slots_2, vI p0.Slots_3, vI p0.Slots_4, vI p0.Slots_5, vI p0.Slots_6, vI p0.Slots_7, .slice ca1 p0.Marks.length cc2, vI p0.Taken, .slice ca3 q_ cc4, vB p0.Run_Done, vI p0.Run_Steps, .slice ca5 p0.Run_Holders.length cc6, .slice ca7 p0.Run_Reads.length cc8, .slice ca9 p0.Run_Marks.length cc10, .slice caq146 S144.Run_Log.length ccq147] 128)) h
            replace H := ej1 H; subst H
            exact ⟨ca1, cc2, ca3, cc4, ca5, cc6, ca7, cc8, ca9, cc10, caq146, ccq147, rfl, h.se 8 [1, 2, 0, 3, 4, 5, 6]⟩
          ·
           refine wp_skip ?_
           refine blk_normal ?_
           refine end_norm0 rfl hr ?_
           replace H := ej1 H; subst H
           exact ⟨ca1, cc2, ca3, cc4, ca5, cc6, ca7, cc8, ca9, cc10, ca11, cc12, rfl, h.se 8 [0, 1, 2, 3, 4, 5, 6]⟩

def plunderref8_Play_l1 (K : Nat) (p0 : List Int) : Nat → Int → Int → Option (Int)
  | 0, _, _ => none
  | k1 + 1, g8, g9 => (if g9 < ((p0.length : Nat) : Int) then if inr_ g9 p0.length then (plunderref8_Play_l1 K p0 k1 (wi (g8 + (at_ p0 g9.toNat))) (wi (g9 + 1))) else none else some g8)
def plunderref8_Play_l2 (K : Nat) (p0 : List Int) (p1 : List Int) : Nat → T_api_JoinRun → T_plunderref8_Scene → Int → Option (T_api_JoinRun × T_plunderref8_Scene)
  | 0, _, _, _ => none
  | k2 + 1, S40, S49, g62 => (if g62 < ((p1.length : Nat) : Int) then (if S49.Run_Done = true then some (S40, S49) else ob1 (plunderref8_Scene_count K S49 p0) (fun r66 => if inr_ g62 p1.length then ob1 (plunderref8_mod (at_ p1 g62.toNat) r66) (fun r69 => ob1 (plunderref8_Scene_live K S49 p0 r69) (fun r71 => ob1 (plunderref8_Scene_step S49 p0 r71) (fun S73 => (plunderref8_Play_l2 K p0 p1 k2 S40 ({ S73 with Run_Steps := wi (S73.Run_Steps + 1) }) (wi (g62 + 1)))))) else none)) else some (S40, S49))
/-- plunder/plunderref8.Play -/
def plunderref8_Play (K : Nat) (p0 : List Int) (p1 : List Int) : Option (T_api_JoinRun × Int) :=
  ob1 (plunderref8_Refuses K p0 p1) (fun r2 => (if r2 = 0 then ob1 ((plunderref8_Play_l1 K p0 K 1 0)) (fun g5 => if 0 ≤ g5 ∧ g5 * 8 ≤ 140737488355328 then ob2 ((plunderref8_Play_l2 K p0 p1 K (⟨false, 0, ([] : List Int), ([] : List (List Int)), ([] : List Int), ([] : List T_api_Access)⟩ : T_api_JoinRun) (⟨0, 0, 0, 1, 0, 0, 0, 0, 0, 0, 0, 0, List.replicate g5.toNat (0 : Int), 0, [(⟨0, 0, 0, 0⟩ : T_plunderref8_Actor)], false, 0, ([] : List Int), ([] : List (List Int)), ([] : List Int), ([] : List T_api_Access)⟩ : T_plunderref8_Scene) 0)) (fun S16 S25 => some ((⟨S25.Run_Done, S25.Run_Steps, S25.Run_Holders, S25.Run_Reads, S25.Marks, S25.Run_Log⟩ : T_api_JoinRun), 0)) else none) else some ((⟨false, 0, ([] : List Int), ([] : List (List Int)), ([] : List Int), ([] : List T_api_Access)⟩ : T_api_JoinRun), r2)))

theorem plunderref8_Play_ok {z w : World} {L : List HProp} {K : Nat} {p0 p1 : List Int} {va0 va1 : Option Addr} {vc0 vc1 : Nat} {r0 : T_api_JoinRun} {r1 : Int} (H : plunderref8_Play K p0 p1 = some (r0, r1)) (h : Fit z (sepL (L)) w) (hv0 : RdRow L 1 encZ_i64 va0 p0) (hv1 : RdRow L 1 encZ_i64 va1 p1) :
    Calls Try.prog 41 #[.slice va0 p0.length vc0, .slice va1 p1.length vc1] w fun e w => ∃ car0_1 ccr0_2 car0_3 ccr0_4 car0_5 ccr0_6 car0_7 ccr0_8, e = .returned (.tuple #[.agg #[vB r0.Done, vI r0.Steps, .slice car0_1 r0.Holders.length ccr0_2, .slice car0_3 r0.Reads.length ccr0_4, .slice car0_5 r0.Marks.length ccr0_6, .slice car0_7 r0.Log.length ccr0_8], vI r1]) ∧ Fit z (sepL (ro3 car0_1 ccr0_2 r0.Holders :: rn31 car0_3 ccr0_4 r0.Reads :: ro2 car0_5 ccr0_6 r0.Marks :: ro96 car0_7 ccr0_8 r0.Log :: L)) w := by
 unfold plunderref8_Play at H
 refine enter Try.func41 rfl 88 rfl rfl [(0, .slice va0 p0.length vc0), (1, .slice va1 p1.length vc1)] ⟨rfl, rfl, trivial⟩ ?_
 intro j a hr
 refine sr ?_
 refine onew (wn rfl) hr h nb (#[vB false, vI 0, .slice none 0 0, .slice none 0 0, .slice none 0 0, .slice none 0 0]) 86 fun b1 w a h hr => ?_
 refine o1 hr (vI 0) fun a hr => ?_
 refine ln ?_
 refine sr ?_
 obtain ⟨r2, e3, H⟩ := bd1 H
 refine oo [13, 14] [.slice va0 p0.length vc0, .slice va1 p1.length vc1] hr fun a hr => ?_
 have hc := plunderref8_Refuses_ok (va0 := va0) (vc0 := vc0) (va1 := va1) (vc1 := vc1) (hv0 := (RdRow.up 1 hv0)) (hv1 := (RdRow.up 1 hv1)) (H := e3) (h := h)
 refine cl (wn rfl) hr hc ?_; clear hc h
 rintro _ w ⟨rfl, h⟩; refine ⟨_, rfl, fun a hr => ?_⟩
 refine o1 hr (vI r2) fun a hr => ?_
 refine ln ?_
 refine wp_seq ?_
 refine sr ?_
 refine oo [16, 17] [vI r2, vB (r2 != 0)] hr fun a hr => ?_
 refine ln ?_
 refine cN hr H (fun c4 H => ?_) fun c4 H => ?_
 ·
  refine wp_skip ?_
  refine then_normal ?_
  refine sr ?_
  refine o1 hr (vI 1) fun a hr => ?_
  refine ln ?_
  obtain ⟨o7, H, hK6⟩ := kd1 H
  refine cut_rule (β := Unit) (fun _ a w => ∃ g5 : Int, g5 = o7 ∧ ∃ j, Rep 88 (lk [(0, .slice va0 p0.length vc0), (1, .slice va1 p1.length vc1), (4, pA b1 0), (7, vI g5)] j) a ∧ Fit z (sepL (pts b1 (.cells #[vB false, vI 0, .slice none 0 0, .slice none 0 0, .slice none 0 0, .slice none 0 0] 86) :: L)) w) ?_ ?_
  ·
   refine sr ?_
   refine o1 hr (vI 0) fun a hr => ?_
   refine ln ?_
   refine wp_block ?_
   refine loop_rule (β := Nat) id (fun m a w => ∃ g8 : Int, ∃ g9 : Int, (plunderref8_Play_l1 K p0 m g8 g9) = some o7 ∧ ∃ j, Rep 88 (lk [(0, .slice va0 p0.length vc0), (1, .slice va1 p1.length vc1), (4, pA b1 0), (7, vI g8), (8, vI g9)] j) a ∧ Fit z (sepL (pts b1 (.cells #[vB false, vI 0, .slice none 0 0, .slice none 0 0, .slice none 0 0, .slice none 0 0] 86) :: L)) w) K ⟨1, 0, H, hr.fj h⟩ ?_
   clear h hr a H; rintro k1 a w ⟨g8, g9, H, j, hr, h⟩
   cases k1 with
   | zero => exact absurd H (by simp [plunderref8_Play_l1])
   | succ k1 =>
    rw [plunderref8_Play_l1] at H
    refine wp_seq ?_
    refine sr ?_
    refine oo [20, 21, 22, 23] [vI g9, .slice va0 p0.length vc0, vI ((p0.length : Nat) : Int), vB (decide (g9 < ((p0.length : Nat) : Int)))] hr fun a hr => ?_
    refine ln ?_
    refine cD hr H (fun c10 H => ?_) fun c10 H => ?_
    ·
     refine wp_skip ?_
     refine then_normal ?_
     refine wp_seq ?_
     refine wp_block ?_
     refine wp_region_lit ?_
     obtain ⟨c11, H⟩ := gd H
     refine oo [26, 27, 28] [vI g8, .slice va0 p0.length vc0, vI g9] hr fun a hr => ?_
     refine opv (wn rfl) hr (pA (blk va0) (offs va0 + g9.toNat * 1)) (ri_rd (k := .i64) (E := 3) (cc := vc0) rfl (by kernel_rfl) (by kernel_rfl) rfl (by kernel_rfl) (by kernel_rfl) hv0 c11) fun a hr => ?_
     refine ld (wn rfl) hr (vI (at_ p0 g9.toNat)) (hv0.cell c11 (h.dn 1) 0 rfl) fun a hr => ?_
     refine oo [31, 7] [vI (wi (g8 + (at_ p0 g9.toNat))), vI (wi (g8 + (at_ p0 g9.toNat)))] hr fun a hr => ?_
     refine wpList_nil ?_
     refine blk_normal ?_
     refine then_normal ?_
     refine wp_region_lit ?_
     refine oo [24, 25, 8] [vI g9, vI (wi (g9 + 1)), vI (wi (g9 + 1))] hr fun a hr => ?_
     refine ln ?_
     exact ⟨_, ⟨(wi (g8 + (at_ p0 g9.toNat))), (wi (g9 + 1)), H, hr.fj h⟩, Nat.lt_succ_self _⟩
    ·
     refine wp_exit ?_
     refine then_exit ?_
     refine then_exit ?_
     refine blk_here ?_
     refine then_normal ?_
     exact ⟨(), g8, sinj H, hr.fj h⟩
  clear h hr a; rintro _ a w ⟨g5, rfl, j, hr, h⟩
  replace H := kk1 hK6
  refine sr ?_
  obtain ⟨c12, H⟩ := gd H
  refine oo [32, 33] [.slice va0 p0.length vc0, vI g5] hr fun a hr => ?_
  refine op_make_row (i := g5) (bytes := 8) (zc := #[vI 0]) (0 : Int) (wn rfl) rfl rfl hr rfl (by kernel_rfl) (by kernel_rfl) c12 encZ_i64_ok (E := 2) (by kernel_rfl) (by kernel_rfl) rfl rfl h fun ca13 w a h hr => ?_
  refine o1 hr (.agg #[vI 0, vI 0, vI 0, vI 0]) fun a hr => ?_
  refine onew (wn rfl) hr h (fun b => .slice (some ⟨b, 0, none⟩) 1 1) (#[vI 0, vI 0, vI 0, vI 0]) 125 fun b14 w a h hr => ?_
  replace h := Fit.pts_row (n := 1) (l := [(⟨0, 0, 0, 0⟩ : T_plunderref8_Actor)]) (by rfl) (by rfl) enc_T_plunderref8_Actor_ok (by decide) h
  refine o1 hr (.agg #[.slice va0 p0.length vc0, vI 0, vI 0, vI 0, vI 1, vI 0, vI 0, vI 0, vI 0, vI 0, vI 0, vI 0, vI 0, .slice ca13 (List.replicate g5.toNat (0 : Int)).length g5.toNat, vI 0, .slice (some ⟨b14, 0, none⟩) 1 1, vB false, vI 0, .slice none 0 0, .slice none 0 0, .slice none 0 0, .slice none 0 0]) fun a hr => ?_
  refine onew (wn rfl) hr h nb (#[.slice va0 p0.length vc0, vI 0, vI 0, vI 0, vI 1, vI 0, vI 0, vI 0, vI 0, vI 0, vI 0, vI 0, vI 0, .slice ca13 (List.replicate g5.toNat (0 : Int)).length g5.toNat, vI 0, .slice (some ⟨b14, 0, none⟩) 1 1, vB false, vI 0, .slice none 0 0, .slice none 0 0, .slice none 0 0, .slice none 0 0]) 128 fun b15 w a h hr => ?_
  refine o1 hr (pA b15 0) fun a hr => ?_
  refine ln ?_
  obtain ⟨o39, H, hK38⟩ := kd2 H
  refine cut_rule (β := Unit) (fun _ a w => ∃ ca17 : Option Addr, ∃ cc18 : Nat, ∃ ca19 : Option Addr, ∃ cc20 : Nat, ∃ ca21 : Option Addr, ∃ cc22 : Nat, ∃ ca23 : Option Addr, ∃ cc24 : Nat, ∃ ca26 : Option Addr, ∃ cc27 : Nat, ∃ ca28 : Option Addr, ∃ cc29 : Nat, ∃ ca30 : Option Addr, ∃ cc31 : Nat, ∃ ca32 : Option Addr, ∃ cc33 : Nat, ∃ ca34 : Option Addr, ∃ cc35 : Nat, ∃ ca36 : Option Addr, ∃ cc37 : Nat, ∃ S16 : T_api_JoinRun, ∃ S25 : T_plunderref8_Scene, (S16, S25) = o39 ∧ ∃ j, Rep 88 (lk [(4, pA b1 0), (9, pA b15 0)] j) a ∧ Fit z (sepL (ob86 b1 S16 ca17 cc18 ca19 cc20 ca21 cc22 ca23 cc24 :: ro3 ca17 cc18 S16.Holders :: rn31 ca19 cc20 S16.Reads :: ro2 ca21 cc22 S16.Marks :: ro96 ca23 cc24 S16.Log :: ob128 b15 S25 (.slice va0 p0.length vc0) ca26 cc27 ca28 cc29 ca30 cc31 ca32 cc33 ca34 cc35 ca36 cc37 :: ro2 ca26 cc27 S25.Marks :: ro125 ca28 cc29 S25.Actors :: ro3 ca30 cc31 S25.Run_Holders :: rn31 ca32 cc33 S25.Run_Reads :: ro2 ca34 cc35 S25.Run_Marks :: ro96 ca36 cc37 S25.Run_Log :: L)) w) ?_ ?_
  ·
   refine sr ?_
   refine o1 hr (vI 0) fun a hr => ?_
   refine ln ?_
   refine wp_block ?_
   replace h := h.m1
   have hn62 : 1 = ([(⟨0, 0, 0, 0⟩ : T_plunderref8_Actor)]).length := h.row_n; replace h := Fit.ren1 hn62 (fun q_ => rowOf 125 4 enc_T_plunderref8_Actor (.slice (some ⟨b14, 0, none⟩) q_ 1) ([(⟨0, 0, 0, 0⟩ : T_plunderref8_Actor)])) (fun q_ => pts b15 (.cells #[.slice va0 p0.length vc0, vI 0, vI 0, vI 0, vI 1, vI 0, vI 0, vI 0, vI 0, vI 0, vI 0, vI 0, vI 0, .slice ca13 (List.replicate g5.toNat (0 : Int)).length g5.toNat, vI 0, .slice (some ⟨b14, 0, none⟩) q_ 1, vB false, vI 0, .slice none 0 0, .slice none 0 0, .slice none 0 0, .slice none 0 0] 128)) h
   replace h := h.row_nil (e := 3) (sz := 1) (enc := encZ_i64)
   replace h := h.rowN_nil (e := 31) (sz := 1) (own := own_sl31)
   replace h := h.row_nil (e := 2) (sz := 1) (enc := encZ_i64)
   replace h := h.row_nil (e := 96) (sz := 6) (enc := enc_T_api_Access)
   replace h := h.row_nil (e := 3) (sz := 1) (enc := encZ_i64)
   replace h := h.rowN_nil (e := 31) (sz := 1) (own := own_sl31)
   replace h := h.row_nil (e := 2) (sz := 1) (enc := encZ_i64)
   replace h := h.row_nil (e := 96) (sz := 6) (enc := enc_T_api_Access)
   refine loop_rule (β := Nat) id (fun m a w => ∃ ca41 : Option Addr, ∃ cc42 : Nat, ∃ ca43 : Option Addr, ∃ cc44 : Nat, ∃ ca45 : Option Addr, ∃ cc46 : Nat, ∃ ca47 : Option Addr, ∃ cc48 : Nat, ∃ ca50 : Option Addr, ∃ cc51 : Nat, ∃ ca52 : Option Addr, ∃ cc53 : Nat, ∃ ca54 : Option Addr, ∃ cc55 : Nat, ∃ ca56 : Option Addr, ∃ cc57 : Nat, ∃ ca58 : Option Addr, ∃ cc59 : Nat, ∃ ca60 : Option Addr, ∃ cc61 : Nat, ∃ S40 : T_api_JoinRun, ∃ S49 : T_plunderref8_Scene, ∃ g62 : Int, (plunderref8_Play_l2 K p0 p1 m S40 S49 g62) = some o39 ∧ ∃ j, Rep 88 (lk [(1, .slice va1 p1.length vc1), (4, pA b1 0), (9, pA b15 0), (10, vI g62)] j) a ∧ Fit z (sepL (ob86 b1 S40 ca41 cc42 ca43 cc44 ca45 cc46 ca47 cc48 :: ro3 ca41 cc42 S40.Holders :: rn31 ca43 cc44 S40.Reads :: ro2 ca45 cc46 S40.Marks :: ro96 ca47 cc48 S40.Log :: ob128 b15 S49 (.slice va0 p0.length vc0) ca50 cc51 ca52 cc53 ca54 cc55 ca56 cc57 ca58 cc59 ca60 cc61 :: ro2 ca50 cc51 S49.Marks :: ro125 ca52 cc53 S49.Actors :: ro3 ca54 cc55 S49.Run_Holders :: rn31 ca56 cc57 S49.Run_Reads :: ro2 ca58 cc59 S49.Run_Marks :: ro96 ca60 cc61 S49.Run_Log :: L)) w) K ⟨none, 0, none, 0, none, 0, none, 0, ca13, g5.toNat, (some ⟨b14, 0, none⟩), 1, none, 0, none, 0, none, 0, none, 0, (⟨false, 0, ([] : List Int), ([] : List (List Int)), ([] : List Int), ([] : List T_api_Access)⟩ : T_api_JoinRun), (⟨0, 0, 0, 1, 0, 0, 0, 0, 0, 0, 0, 0, List.replicate g5.toNat (0 : Int), 0, [(⟨0, 0, 0, 0⟩ : T_plunderref8_Actor)], false, 0, ([] : List Int), ([] : List (List Int)), ([] : List Int), ([] : List T_api_Access)⟩ : T_plunderref8_Scene), 0, H, hr.fj (h.se 12 [11, 7, 6, 5, 4, 9, 10, 8, 3, 2, 1, 0])⟩ ?_
   clear h hr a H; rintro k2 a w ⟨ca41, cc42, ca43, cc44, ca45, cc46, ca47, cc48, ca50, cc51, ca52, cc53, ca54, cc55, ca56, cc57, ca58, cc59, ca60, cc61, S40, S49, g62, H, j, hr, h⟩
   cases k2 with
   | zero => exact absurd H (by simp [plunderref8_Play_l2])
   | succ k2 =>
    rw [plunderref8_Play_l2] at H
    refine wp_seq ?_
    refine sr ?_
    refine oo [39, 40, 41, 42, 43] [vI g62, .slice va1 p1.length vc1, vI ((p1.length : Nat) : Int), vB (decide (g62 < ((p1.length : Nat) : Int))), vB (decide (g62 < ((p1.length : Nat) : Int)))] hr fun a hr => ?_
    by_cases c64 : g62 < ((p1.length : Nat) : Int)
    ·
     replace H := ifT c64 H
     refine onl (decide_eq_true c64) [44, 45, 46, 47] [pA b15 0, pA b15 0, pA b15 16, pA b15 16] hr fun a hr => ?_
     refine ld (wgt hr (decide_eq_true c64)) hr (vB S49.Run_Done) ((h.pick 5).cell 16 rfl) fun a hr => ?_
     refine onl (decide_eq_true c64) [49] [vB (!S49.Run_Done)] hr fun a hr => ?_
     refine opv (wn rfl) hr (vB (!S49.Run_Done)) (rp_t (b := (decide (g62 < ((p1.length : Nat) : Int)))) rfl (by kernel_rfl) (decide_eq_true c64) (by kernel_rfl)) fun a hr => ?_
     refine ln ?_
     refine cM hr H (fun c65 H => ?_) fun c65 H => ?_
     ·
      refine wp_exit ?_
      refine then_exit ?_
      refine then_exit ?_
      refine blk_here ?_
      refine then_normal ?_
      exact ⟨(), ca41, cc42, ca43, cc44, ca45, cc46, ca47, cc48, ca50, cc51, ca52, cc53, ca54, cc55, ca56, cc57, ca58, cc59, ca60, cc61, S40, S49, sinj H, hr.fj h⟩
     ·
      refine wp_skip ?_
      refine then_normal ?_
      refine wp_seq ?_
      refine wp_block ?_
      refine sr ?_
      obtain ⟨r66, e67, H⟩ := bd1 H
      refine o1 hr (pA b15 0) fun a hr => ?_
      replace h := h.m11.m11.m11.m11.m11.m11.m11
      have hc := plunderref8_Scene_count_ok (va0_Rounds := va0) (vc0_Rounds := vc0) (hv0_Rounds := (RdRow.up 5 hv0)) (H := e67) (h := h)
      refine cl (wn rfl) hr hc ?_; clear hc h
      rintro _ w ⟨rfl, h⟩; refine ⟨_, rfl, fun a hr => ?_⟩
      refine o1 hr (vI r66) fun a hr => ?_
      refine ln ?_
      refine sr ?_
      obtain ⟨c68, H⟩ := gd H
      refine oo [55, 56, 57] [pA b15 0, .slice va1 p1.length vc1, vI g62] hr fun a hr => ?_
      refine opv (wn rfl) hr (pA (blk va1) (offs va1 + g62.toNat * 1)) (ri_rd (k := .i64) (E := 3) (cc := vc1) rfl (by kernel_rfl) (by kernel_rfl) rfl (by kernel_rfl) (by kernel_rfl) hv1 c68) fun a hr => ?_
      refine ld (wn rfl) hr (vI (at_ p1 g62.toNat)) (hv1.cell c68 (h.dn 12) 0 rfl) fun a hr => ?_
      obtain ⟨r69, e70, H⟩ := bd1 H
      refine o1 hr (vI r66) fun a hr => ?_
      have hc := plunderref8_mod_ok (H := e70) (h := h)
      refine cl (wn rfl) hr hc ?_; clear hc h
      rintro _ w ⟨rfl, h⟩; refine ⟨_, rfl, fun a hr => ?_⟩
      obtain ⟨r71, e72, H⟩ := bd1 H
      have hc := plunderref8_Scene_live_ok (va0_Rounds := va0) (vc0_Rounds := vc0) (hv0_Rounds := (RdRow.up 5 hv0)) (H := e72) (h := h)
      refine cl (wn rfl) hr hc ?_; clear hc h
      rintro _ w ⟨rfl, h⟩; refine ⟨_, rfl, fun a hr => ?_⟩
      refine o1 hr (vI r71) fun a hr => ?_
      refine ln ?_
      refine sr ?_
      obtain ⟨S73, e74, H⟩ := bd1 H
      refine oo [63, 64] [pA b15 0, vI r71] hr fun a hr => ?_
      have hc := plunderref8_Scene_step_ok (va0_Rounds := va0) (vc0_Rounds := vc0) (hv0_Rounds := (RdRow.up 5 hv0)) (H := e74) (h := h)
      refine cl (wn rfl) hr hc ?_; clear hc h
      rintro _ w ⟨caq75, ccq76, caq77, ccq78, caq79, ccq80, caq81, ccq82, caq83, ccq84, caq85, ccq86, rfl, h⟩; refine ⟨_, rfl, fun a hr => ?_⟩
      refine ln ?_
      refine wp_region_lit ?_
      refine oo [66, 67, 68, 69, 70] [pA b15 0, pA b15 0, pA b15 0, pA b15 16, pA b15 17] hr fun a hr => ?_
      refine ld (wn rfl) hr (vI S73.Run_Steps) (h.cell 17 rfl) fun a hr => ?_
      refine oo [72, 73, 74, 75] [vI (wi (S73.Run_Steps + 1)), pA b15 0, pA b15 16, pA b15 17] hr fun a hr => ?_
      refine st1 (wn rfl) hr h 17 (vI (wi (S73.Run_Steps + 1))) (pts b15 (.cells #[.slice va0 p0.length vc0, vI S73.Round, vI S73.Forked, vI S73.Fetched, vI S73.Join, vI S73.Slots_0, vI S73.Slots_1, vI S73.Slots_2, vI S73.Slots_3, vI S73.Slots_4, vI S73.Slots_5, vI S73.Slots_6, vI S73.Slots_7, .slice caq75 S73.Marks.length ccq76, vI S73.Taken, .slice caq77 S73.Actors.length ccq78, vB S73.Run_Done, vI (wi (S73.Run_Steps + 1)), .slice caq79 S73.Run_Holders.length ccq80, .slice caq81 S73.Run_Reads.length ccq82, .slice caq83 S73.Run_Marks.length ccq84, .slice caq85 S73.Run_Log.length ccq86] 128)) fun w h => ?_
      refine wpList_nil ?_
      refine blk_normal ?_
      refine then_normal ?_
      refine wp_region_lit ?_
      refine oo [51, 52, 10] [vI g62, vI (wi (g62 + 1)), vI (wi (g62 + 1))] hr fun a hr => ?_
      refine ln ?_
      exact ⟨_, ⟨ca41, cc42, ca43, cc44, ca45, cc46, ca47, cc48, caq75, ccq76, caq77, ccq78, caq79, ccq80, caq81, ccq82, caq83, ccq84, caq85, ccq86, S40, ({ S73 with Run_Steps := wi (S73.Run_Steps + 1) }), (wi (g62 + 1)), H, hr.fj (h.se 12 [7, 8, 9, 10, 11, 0, 1, 2, 3, 4, 5, 6])⟩, Nat.lt_succ_self _⟩
    ·
     replace H := ifF c64 H
     refine offl (decide_eq_false c64) [44, 45, 46, 47, 48, 49] hr fun a hr => ?_
     refine opv (wn rfl) hr (vB false) (rp_f (b := (decide (g62 < ((p1.length : Nat) : Int)))) rfl (by kernel_rfl) (decide_eq_false c64) (by kernel_rfl)) fun a hr => ?_
     refine ln ?_
     refine cond_ff hr (b := false) rfl ?_
     refine wp_exit ?_
     refine then_exit ?_
     refine then_exit ?_
     refine blk_here ?_
     refine then_normal ?_
     exact ⟨(), ca41, cc42, ca43, cc44, ca45, cc46, ca47, cc48, ca50, cc51, ca52, cc53, ca54, cc55, ca56, cc57, ca58, cc59, ca60, cc61, S40, S49, sinj H, hr.fj h⟩
  clear h hr a; rintro _ a w ⟨ca17, cc18, ca19, cc20, ca21, cc22, ca23, cc24, ca26, cc27, ca28, cc29, ca30, cc31, ca32, cc33, ca34, cc35, ca36, cc37, S16, S25, rfl, j, hr, h⟩
  replace H := kk2 hK38
  refine sr ?_
  refine oo [76, 77, 78, 79] [pA b15 0, pA b15 0, pA b15 0, pA b15 13] hr fun a hr => ?_
  refine ld (wn rfl) hr (.slice ca26 S25.Marks.length cc27) ((h.pick 5).cell 13 rfl) fun a hr => ?_
  refine oo [81, 82, 83] [pA b15 0, pA b15 16, pA b15 20] hr fun a hr => ?_
  replace h := h.m5
  refine st1 (wn rfl) hr h 20 (.slice ca26 S25.Marks.length cc27) (pts b15 (.cells #[.slice va0 p0.length vc0, vI S25.Round, vI S25.Forked, vI S25.Fetched, vI S25.Join, vI S25.Slots_0, vI S25.Slots_1, vI S25.Slots_2, vI S25.Slots_3, vI S25.Slots_4, vI S25.Slots_5, vI S25.Slots_6, vI S25.Slots_7, .slice ca26 S25.Marks.length cc27, vI S25.Taken, .slice ca28 S25.Actors.length cc29, vB S25.Run_Done, vI S25.Run_Steps, .slice ca30 S25.Run_Holders.length cc31, .slice ca32 S25.Run_Reads.length cc33, .slice ca26 S25.Marks.length cc27, .slice ca36 S25.Run_Log.length cc37] 128)) fun w h => ?_
  refine ln ?_
  refine sr ?_
  refine oo [84, 85, 86] [pA b15 0, pA b15 0, pA b15 16] hr fun a hr => ?_
  refine ldm (wn rfl) hr (.agg #[vB S25.Run_Done, vI S25.Run_Steps, .slice ca30 S25.Run_Holders.length cc31, .slice ca32 S25.Run_Reads.length cc33, .slice ca26 S25.Marks.length cc27, .slice ca36 S25.Run_Log.length cc37]) (cs := [vB S25.Run_Done, vI S25.Run_Steps, .slice ca30 S25.Run_Holders.length cc31, .slice ca32 S25.Run_Reads.length cc33, .slice ca26 S25.Marks.length cc27, .slice ca36 S25.Run_Log.length cc37]) (h.held 16 rfl) fun a hr => ?_
  replace h := h.m1
  refine stm (wn rfl) hr h 0 ([vB S25.Run_Done, vI S25.Run_Steps, .slice ca30 S25.Run_Holders.length cc31, .slice ca32 S25.Run_Reads.length cc33, .slice ca26 S25.Marks.length cc27, .slice ca36 S25.Run_Log.length cc37]) (pts b1 (.cells #[vB S25.Run_Done, vI S25.Run_Steps, .slice ca30 S25.Run_Holders.length cc31, .slice ca32 S25.Run_Reads.length cc33, .slice ca26 S25.Marks.length cc27, .slice ca36 S25.Run_Log.length cc37] 86)) fun w h => ?_
  refine o1 hr (vI 0) fun a hr => ?_
  refine ln ?_
  refine wp_ret ?_
  refine end_retCT (cs := [vB S25.Run_Done, vI S25.Run_Steps, .slice ca30 S25.Run_Holders.length cc31, .slice ca32 S25.Run_Reads.length cc33, .slice ca26 S25.Marks.length cc27, .slice ca36 S25.Run_Log.length cc37]) (v := vI 0) rfl hr (by kernel_rfl) (by kernel_rfl) (by kernel_rfl) (by kernel_rfl) (h.held 0 rfl) ?_
  obtain ⟨rfl, rfl⟩ := ej2 H
  exact ⟨ca30, cc31, ca32, cc33, ca26, cc27, ca36, cc37, rfl, h.se 12 [8, 9, 6, 11]⟩
 ·
  refine sr ?_
  refine oo [18, 19] [.agg #[vB false, vI 0, .slice none 0 0, .slice none 0 0, .slice none 0 0, .slice none 0 0], vI r2] hr fun a hr => ?_
  refine stm (wn rfl) hr h 0 ([vB false, vI 0, .slice none 0 0, .slice none 0 0, .slice none 0 0, .slice none 0 0]) (pts b1 (.cells #[vB false, vI 0, .slice none 0 0, .slice none 0 0, .slice none 0 0, .slice none 0 0] 86)) fun w h => ?_
  refine o1 hr (vI r2) fun a hr => ?_
  refine ln ?_
  refine wp_ret ?_
  refine then_ret ?_
  refine end_retCT (cs := [vB false, vI 0, .slice none 0 0, .slice none 0 0, .slice none 0 0, .slice none 0 0]) (v := vI r2) rfl hr (by kernel_rfl) (by kernel_rfl) (by kernel_rfl) (by kernel_rfl) (h.held 0 rfl) ?_
  replace h := h.row_nil (e := 3) (sz := 1) (enc := encZ_i64)
  replace h := h.rowN_nil (e := 31) (sz := 1) (own := own_sl31)
  replace h := h.row_nil (e := 2) (sz := 1) (enc := encZ_i64)
  replace h := h.row_nil (e := 96) (sz := 6) (enc := enc_T_api_Access)
  obtain ⟨rfl, rfl⟩ := ej2 H
  exact ⟨none, 0, none, 0, none, 0, none, 0, rfl, h.se 5 [3, 2, 1, 0]⟩

def plunderlaw8_spare_l1 (K : Nat) (p0 : List Int) : Nat → (List Int) → Int → Option ((List Int))
  | 0, _, _ => none
  | k1 + 1, l6, g7 => (if g7 < ((p0.length : Nat) : Int) then if inr_ g7 p0.length then if inr_ g7 l6.length then (plunderlaw8_spare_l1 K p0 k1 (l6.set g7.toNat (at_ p0 g7.toNat)) (wi (g7 + 1))) else none else none else some l6)
/-- plunder/plunderlaw8.spare -/
def plunderlaw8_spare (K : Nat) (p0 : List Int) : Option ((List Int)) :=
  if 0 ≤ (wi (((p0.length : Nat) : Int) + 2)) ∧ (wi (((p0.length : Nat) : Int) + 2)) * 8 ≤ 140737488355328 then ob1 ((plunderlaw8_spare_l1 K p0 K (List.replicate (wi (((p0.length : Nat) : Int) + 2)).toNat (0 : Int)) 0)) (fun l3 => if inr_ ((p0.length : Nat) : Int) l3.length then if inr_ (wi (((p0.length : Nat) : Int) + 1)) (l3.set ((p0.length : Nat) : Int).toNat (-77)).length then some ((l3.set ((p0.length : Nat) : Int).toNat (-77)).set (wi (((p0.length : Nat) : Int) + 1)).toNat (-78)) else none else none) else none

theorem plunderlaw8_spare_ok {z w : World} {L : List HProp} {K : Nat} {p0 r0 : List Int} {va0 : Option Addr} {vc0 : Nat} (H : plunderlaw8_spare K p0 = some r0) (h : Fit z (sepL (L)) w) (hv0 : RdRow L 1 encZ_i64 va0 p0) :
    Calls Try.prog 42 #[.slice va0 p0.length vc0] w fun e w => ∃ car0_1 ccr0_2, e = .returned (.slice car0_1 r0.length ccr0_2) ∧ Fit z (sepL (ro3 car0_1 ccr0_2 r0 :: L)) w := by
 unfold plunderlaw8_spare at H
 refine enter Try.func42 rfl 31 rfl rfl [(0, .slice va0 p0.length vc0)] ⟨rfl, trivial⟩ ?_
 intro j a hr
 refine sr ?_
 refine o1 hr (.slice none 0 0) fun a hr => ?_
 refine ln ?_
 refine sr ?_
 refine oo [6, 7, 3] [.slice va0 p0.length vc0, vI ((p0.length : Nat) : Int), vI ((p0.length : Nat) : Int)] hr fun a hr => ?_
 refine ln ?_
 refine sr ?_
 obtain ⟨c1, H⟩ := gd H
 refine oo [8, 9] [vI ((p0.length : Nat) : Int), vI (wi (((p0.length : Nat) : Int) + 2))] hr fun a hr => ?_
 refine op_make_row (i := (wi (((p0.length : Nat) : Int) + 2))) (bytes := 8) (zc := #[vI 0]) (0 : Int) (wn rfl) rfl rfl hr rfl (by kernel_rfl) (by kernel_rfl) c1 encZ_i64_ok (E := 3) (by kernel_rfl) (by kernel_rfl) rfl rfl h fun ca2 w a h hr => ?_
 refine o1 hr (.slice ca2 (List.replicate (wi (((p0.length : Nat) : Int) + 2)).toNat (0 : Int)).length (wi (((p0.length : Nat) : Int) + 2)).toNat) fun a hr => ?_
 refine ln ?_
 obtain ⟨o5, H, hK4⟩ := kd1 H
 refine cut_rule (β := Unit) (fun _ a w => ∃ l3 : List Int, l3 = o5 ∧ ∃ j, Rep 31 (lk [(3, vI ((p0.length : Nat) : Int)), (4, .slice ca2 (List.replicate (wi (((p0.length : Nat) : Int) + 2)).toNat (0 : Int)).length (wi (((p0.length : Nat) : Int) + 2)).toNat)] j) a ∧ Fit z (sepL (rowOf 3 1 encZ_i64 (.slice ca2 (List.replicate (wi (((p0.length : Nat) : Int) + 2)).toNat (0 : Int)).length (wi (((p0.length : Nat) : Int) + 2)).toNat) l3 :: L)) w) ?_ ?_
 ·
  refine sr ?_
  refine o1 hr (vI 0) fun a hr => ?_
  refine ln ?_
  refine wp_block ?_
  refine loop_rule (β := Nat) id (fun m a w => ∃ l6 : List Int, ∃ g7 : Int, (plunderlaw8_spare_l1 K p0 m l6 g7) = some o5 ∧ ∃ j, Rep 31 (lk [(0, .slice va0 p0.length vc0), (3, vI ((p0.length : Nat) : Int)), (4, .slice ca2 (List.replicate (wi (((p0.length : Nat) : Int) + 2)).toNat (0 : Int)).length (wi (((p0.length : Nat) : Int) + 2)).toNat), (5, vI g7)] j) a ∧ Fit z (sepL (rowOf 3 1 encZ_i64 (.slice ca2 (List.replicate (wi (((p0.length : Nat) : Int) + 2)).toNat (0 : Int)).length (wi (((p0.length : Nat) : Int) + 2)).toNat) l6 :: L)) w) K ⟨(List.replicate (wi (((p0.length : Nat) : Int) + 2)).toNat (0 : Int)), 0, H, hr.fj h⟩ ?_
  clear h hr a H; rintro k1 a w ⟨l6, g7, H, j, hr, h⟩
  cases k1 with
  | zero => exact absurd H (by simp [plunderlaw8_spare_l1])
  | succ k1 =>
   rw [plunderlaw8_spare_l1] at H
   refine wp_seq ?_
   refine sr ?_
   refine oo [11, 12, 13] [vI g7, vI ((p0.length : Nat) : Int), vB (decide (g7 < ((p0.length : Nat) : Int)))] hr fun a hr => ?_
   refine ln ?_
   refine cD hr H (fun c8 H => ?_) fun c8 H => ?_
   ·
    refine wp_skip ?_
    refine then_normal ?_
    refine wp_seq ?_
    refine wp_block ?_
    refine wp_region_lit ?_
    obtain ⟨c9, H⟩ := gd H
    refine oo [16, 17, 18, 19] [.slice ca2 (List.replicate (wi (((p0.length : Nat) : Int) + 2)).toNat (0 : Int)).length (wi (((p0.length : Nat) : Int) + 2)).toNat, vI g7, .slice va0 p0.length vc0, vI g7] hr fun a hr => ?_
    refine opv (wn rfl) hr (pA (blk va0) (offs va0 + g7.toNat * 1)) (ri_rd (k := .i64) (E := 3) (cc := vc0) rfl (by kernel_rfl) (by kernel_rfl) rfl (by kernel_rfl) (by kernel_rfl) hv0 c9) fun a hr => ?_
    refine ld (wn rfl) hr (vI (at_ p0 g7.toNat)) (hv0.cell c9 (h.dn 1) 0 rfl) fun a hr => ?_
    obtain ⟨c10, H⟩ := gd H
    refine opv (wn rfl) hr (pA (blk ca2) (g7.toNat * 1)) (ri_row (k := .i64) (E := 3) rfl (by kernel_rfl) (by kernel_rfl) (by kernel_rfl) (by kernel_rfl) h c10) fun a hr => ?_
    refine stor (wn rfl) hr encZ_i64_ok h g7.toNat 0 (vI (at_ p0 g7.toNat)) (at_ l6 g7.toNat) (at_ p0 g7.toNat) (at_ok c10) fun w h => ?_
    refine wpList_nil ?_
    refine blk_normal ?_
    refine then_normal ?_
    refine wp_region_lit ?_
    refine oo [14, 15, 5] [vI g7, vI (wi (g7 + 1)), vI (wi (g7 + 1))] hr fun a hr => ?_
    refine ln ?_
    exact ⟨_, ⟨(l6.set g7.toNat (at_ p0 g7.toNat)), (wi (g7 + 1)), H, hr.fj h⟩, Nat.lt_succ_self _⟩
   ·
    refine wp_exit ?_
    refine then_exit ?_
    refine then_exit ?_
    refine blk_here ?_
    refine then_normal ?_
    exact ⟨(), l6, sinj H, hr.fj h⟩
 clear h hr a; rintro _ a w ⟨l3, rfl, j, hr, h⟩
 replace H := kk1 hK4
 refine sr ?_
 obtain ⟨c11, H⟩ := gd H
 refine oo [23, 24] [.slice ca2 (List.replicate (wi (((p0.length : Nat) : Int) + 2)).toNat (0 : Int)).length (wi (((p0.length : Nat) : Int) + 2)).toNat, vI ((p0.length : Nat) : Int)] hr fun a hr => ?_
 refine opv (wn rfl) hr (pA (blk ca2) (((p0.length : Nat) : Int).toNat * 1)) (ri_row (k := .i64) (E := 3) rfl (by kernel_rfl) (by kernel_rfl) (by kernel_rfl) (by kernel_rfl) h c11) fun a hr => ?_
 refine stor (wn rfl) hr encZ_i64_ok h ((p0.length : Nat) : Int).toNat 0 (vI (-77)) (at_ l3 ((p0.length : Nat) : Int).toNat) (-77) (at_ok c11) fun w h => ?_
 refine ln ?_
 refine sr ?_
 obtain ⟨c12, H⟩ := gd H
 refine oo [26, 27, 28] [.slice ca2 (List.replicate (wi (((p0.length : Nat) : Int) + 2)).toNat (0 : Int)).length (wi (((p0.length : Nat) : Int) + 2)).toNat, vI ((p0.length : Nat) : Int), vI (wi (((p0.length : Nat) : Int) + 1))] hr fun a hr => ?_
 refine opv (wn rfl) hr (pA (blk ca2) ((wi (((p0.length : Nat) : Int) + 1)).toNat * 1)) (ri_row (k := .i64) (E := 3) rfl (by kernel_rfl) (by kernel_rfl) (by kernel_rfl) (by kernel_rfl) h c12) fun a hr => ?_
 refine stor (wn rfl) hr encZ_i64_ok h (wi (((p0.length : Nat) : Int) + 1)).toNat 0 (vI (-78)) (at_ (l3.set ((p0.length : Nat) : Int).toNat (-77)) (wi (((p0.length : Nat) : Int) + 1)).toNat) (-78) (at_ok c12) fun w h => ?_
 refine ln ?_
 refine sr ?_
 refine oo [30, 2] [.slice ca2 (List.replicate (wi (((p0.length : Nat) : Int) + 2)).toNat (0 : Int)).length (wi (((p0.length : Nat) : Int) + 2)).toNat, .slice ca2 (List.replicate (wi (((p0.length : Nat) : Int) + 2)).toNat (0 : Int)).length (wi (((p0.length : Nat) : Int) + 2)).toNat] hr fun a hr => ?_
 refine ln ?_
 refine wp_ret ?_
 refine end_ret1 (v := .slice ca2 (List.replicate (wi (((p0.length : Nat) : Int) + 2)).toNat (0 : Int)).length (wi (((p0.length : Nat) : Int) + 2)).toNat) rfl hr (by kernel_rfl) ?_
 have hn12 : (List.replicate (wi (((p0.length : Nat) : Int) + 2)).toNat (0 : Int)).length = ((l3.set ((p0.length : Nat) : Int).toNat (-77)).set (wi (((p0.length : Nat) : Int) + 1)).toNat (-78)).length := h.row_n; replace h := Fit.ren0 hn12 (fun q_ => rowOf 3 1 encZ_i64 (.slice ca2 q_ (wi (((p0.length : Nat) : Int) + 2)).toNat) ((l3.set ((p0.length : Nat) : Int).toNat (-77)).set (wi (((p0.length : Nat) : Int) + 1)).toNat (-78))) h
 replace H := ej1 H; subst H
 exact ⟨ca2, (wi (((p0.length : Nat) : Int) + 2)).toNat, (by first | rfl | simp only [hn12]), h⟩

/-- plunder/frames.Cells -/
def frames_Cells (p0 : Int) : Option (Int) :=
  (if p0 < 1 then some 0 else (if p0 > 4096 then some 0 else some (wi ((1 : Int) + (wi (p0 * 10))))))

theorem frames_Cells_ok {z w : World} {L : List HProp} {p0 r0 : Int} (H : frames_Cells p0 = some r0) (h : Fit z (sepL (L)) w)  :
    Calls Try.prog 15 #[vI p0] w fun e w => e = .returned (vI r0) ∧ Fit z (sepL (L)) w := by
 unfold frames_Cells at H
 refine enter Try.func15 rfl 12 rfl rfl [(0, vI p0)] ⟨rfl, trivial⟩ ?_
 intro j a hr
 refine sr ?_
 refine o1 hr (vI 0) fun a hr => ?_
 refine ln ?_
 refine wp_seq ?_
 refine sr ?_
 refine oo [3, 4, 5] [vI p0, vB (decide (p0 < 1)), vB (decide (p0 < 1))] hr fun a hr => ?_
 by_cases c1 : p0 < 1
 ·
  replace H := ifT c1 H
  refine offl (decide_eq_true c1) [6, 7] hr fun a hr => ?_
  refine opv (wn rfl) hr (vB true) (rp_t (b := (decide (p0 < 1))) rfl (by kernel_rfl) (decide_eq_true c1) (by kernel_rfl)) fun a hr => ?_
  refine ln ?_
  refine cond_tt hr (b := true) rfl ?_
  refine sr ?_
  refine o1 hr (vI 0) fun a hr => ?_
  refine ln ?_
  refine wp_ret ?_
  refine then_ret ?_
  refine end_ret1 (v := vI 0) rfl hr (by kernel_rfl) ?_
  replace H := ej1 H; subst H
  exact ⟨rfl, h⟩
 ·
  replace H := ifF c1 H
  refine onl (decide_eq_false c1) [6, 7] [vI p0, vB (decide (p0 > 4096))] hr fun a hr => ?_
  refine opv (wn rfl) hr (vB (decide (p0 > 4096))) (rp_f (b := (decide (p0 < 1))) rfl (by kernel_rfl) (decide_eq_false c1) (by kernel_rfl)) fun a hr => ?_
  refine ln ?_
  refine cD hr H (fun c2 H => ?_) fun c2 H => ?_
  ·
   refine sr ?_
   refine o1 hr (vI 0) fun a hr => ?_
   refine ln ?_
   refine wp_ret ?_
   refine then_ret ?_
   refine end_ret1 (v := vI 0) rfl hr (by kernel_rfl) ?_
   replace H := ej1 H; subst H
   exact ⟨rfl, h⟩
  ·
   refine wp_skip ?_
   refine then_normal ?_
   refine sr ?_
   refine oo [9, 10, 11, 2] [vI p0, vI (wi (p0 * 10)), vI (wi ((1 : Int) + (wi (p0 * 10)))), vI (wi ((1 : Int) + (wi (p0 * 10))))] hr fun a hr => ?_
   refine ln ?_
   refine wp_ret ?_
   refine end_ret1 (v := vI (wi ((1 : Int) + (wi (p0 * 10))))) rfl hr (by kernel_rfl) ?_
   replace H := ej1 H; subst H
   exact ⟨rfl, h⟩

/-- plunder/cells.good -/
def cells_good (p0 : Int) : Option (Bool) :=
  (if p0 ≥ 0 then some (decide (p0 ≤ 1048576)) else some false)

theorem cells_good_ok {z w : World} {L : List HProp} {p0 : Int} {r0 : Bool} (H : cells_good p0 = some r0) (h : Fit z (sepL (L)) w)  :
    Calls Try.prog 53 #[vI p0] w fun e w => e = .returned (vB r0) ∧ Fit z (sepL (L)) w := by
 unfold cells_good at H
 refine enter Try.func53 rfl 9 rfl rfl [(0, vI p0)] ⟨rfl, trivial⟩ ?_
 intro j a hr
 refine sr ?_
 refine o1 hr (vB false) fun a hr => ?_
 refine ln ?_
 refine sr ?_
 refine oo [3, 4, 5] [vI p0, vB (decide (p0 ≥ 0)), vB (decide (p0 ≥ 0))] hr fun a hr => ?_
 by_cases c1 : p0 ≥ 0
 ·
  replace H := ifT c1 H
  refine onl (decide_eq_true c1) [6, 7] [vI p0, vB (decide (p0 ≤ 1048576))] hr fun a hr => ?_
  refine opv (wn rfl) hr (vB (decide (p0 ≤ 1048576))) (rp_t (b := (decide (p0 ≥ 0))) rfl (by kernel_rfl) (decide_eq_true c1) (by kernel_rfl)) fun a hr => ?_
  refine o1 hr (vB (decide (p0 ≤ 1048576))) fun a hr => ?_
  refine ln ?_
  refine wp_ret ?_
  refine end_ret1 (v := vB (decide (p0 ≤ 1048576))) rfl hr (by kernel_rfl) ?_
  replace H := ej1 H; subst H
  exact ⟨rfl, h⟩
 ·
  replace H := ifF c1 H
  refine offl (decide_eq_false c1) [6, 7] hr fun a hr => ?_
  refine opv (wn rfl) hr (vB false) (rp_f (b := (decide (p0 ≥ 0))) rfl (by kernel_rfl) (decide_eq_false c1) (by kernel_rfl)) fun a hr => ?_
  refine o1 hr (vB false) fun a hr => ?_
  refine ln ?_
  refine wp_ret ?_
  refine end_ret1 (v := vB false) rfl hr (by kernel_rfl) ?_
  replace H := ej1 H; subst H
  exact ⟨rfl, h⟩

/-- plunder/cells.New -/
def cells_New (p0 : Int) : Option ((Option T_cells_Arena) × Int) :=
  ob1 (cells_good p0) (fun r1 => (if r1 = true then some (some (⟨p0, 0, ([] : List Int), ([] : List T_api_Access), 0, false⟩ : T_cells_Arena), 0) else some (none, 3)))

theorem cells_New_ok0 {z w : World} {L : List HProp} {p0 r1 : Int} {r0 : T_cells_Arena} (H : cells_New p0 = some ((some r0), r1)) (h : Fit z (sepL (L)) w)  :
    Calls Try.prog 14 #[vI p0] w fun e w => ∃ Bn0 car0_1 ccr0_2 car0_3 ccr0_4, e = .returned (.tuple #[pA Bn0 0, vI r1]) ∧ Fit z (sepL (ob103 Bn0 r0 car0_1 ccr0_2 car0_3 ccr0_4 :: ro2 car0_1 ccr0_2 r0.cell :: ro96 car0_3 ccr0_4 r0.log :: L)) w := by
 unfold cells_New at H
 refine enter Try.func14 rfl 11 rfl rfl [(0, vI p0)] ⟨rfl, trivial⟩ ?_
 intro j a hr
 refine sr ?_
 refine oo [2, 3] [pN, vI 0] hr fun a hr => ?_
 refine ln ?_
 refine wp_seq ?_
 refine sr ?_
 obtain ⟨r1, e2, H⟩ := bd1 H
 refine o1 hr (vI p0) fun a hr => ?_
 have hc := cells_good_ok (H := e2) (h := h)
 refine cl (wn rfl) hr hc ?_; clear hc h
 rintro _ w ⟨rfl, h⟩; refine ⟨_, rfl, fun a hr => ?_⟩
 refine o1 hr (vB (!r1)) fun a hr => ?_
 refine ln ?_
 refine cM hr H (fun c3 H => ?_) fun c3 H => ?_
 ·
  refine wp_skip ?_
  refine then_normal ?_
  refine sr ?_
  refine oo [7, 8, 9] [vI p0, .agg #[vI p0, vI 0], .agg #[vI p0, vI 0, .slice none 0 0, .slice none 0 0, vI 0, vB false]] hr fun a hr => ?_
  refine onew (wn rfl) hr h nb (#[vI p0, vI 0, .slice none 0 0, .slice none 0 0, vI 0, vB false]) 103 fun b4 w a h hr => ?_
  refine oo [2, 3] [pA b4 0, vI 0] hr fun a hr => ?_
  refine ln ?_
  refine wp_ret ?_
  refine end_ret2 (v := pA b4 0) (v' := vI 0) rfl hr (by kernel_rfl) (by kernel_rfl) ?_
  replace h := h.row_nil (e := 2) (sz := 1) (enc := encZ_i64)
  replace h := h.row_nil (e := 96) (sz := 6) (enc := enc_T_api_Access)
  cases H
  exact ⟨b4, none, 0, none, 0, rfl, h.se 3 [2, 1, 0]⟩
 ·
  refine sr ?_
  refine oo [2, 3] [pN, vI 3] hr fun a hr => ?_
  refine ln ?_
  refine wp_ret ?_
  refine then_ret ?_
  refine end_ret2 (v := pN) (v' := vI 3) rfl hr (by kernel_rfl) (by kernel_rfl) ?_
  cases H

theorem cells_New_ok1 {z w : World} {L : List HProp} {p0 r1 : Int} (H : cells_New p0 = some (none, r1)) (h : Fit z (sepL (L)) w)  :
    Calls Try.prog 14 #[vI p0] w fun e w => e = .returned (.tuple #[pN, vI r1]) ∧ Fit z (sepL (L)) w := by
 unfold cells_New at H
 refine enter Try.func14 rfl 11 rfl rfl [(0, vI p0)] ⟨rfl, trivial⟩ ?_
 intro j a hr
 refine sr ?_
 refine oo [2, 3] [pN, vI 0] hr fun a hr => ?_
 refine ln ?_
 refine wp_seq ?_
 refine sr ?_
 obtain ⟨r1, e2, H⟩ := bd1 H
 refine o1 hr (vI p0) fun a hr => ?_
 have hc := cells_good_ok (H := e2) (h := h)
 refine cl (wn rfl) hr hc ?_; clear hc h
 rintro _ w ⟨rfl, h⟩; refine ⟨_, rfl, fun a hr => ?_⟩
 refine o1 hr (vB (!r1)) fun a hr => ?_
 refine ln ?_
 refine cM hr H (fun c3 H => ?_) fun c3 H => ?_
 ·
  refine wp_skip ?_
  refine then_normal ?_
  refine sr ?_
  refine oo [7, 8, 9] [vI p0, .agg #[vI p0, vI 0], .agg #[vI p0, vI 0, .slice none 0 0, .slice none 0 0, vI 0, vB false]] hr fun a hr => ?_
  refine onew (wn rfl) hr h nb (#[vI p0, vI 0, .slice none 0 0, .slice none 0 0, vI 0, vB false]) 103 fun b4 w a h hr => ?_
  refine oo [2, 3] [pA b4 0, vI 0] hr fun a hr => ?_
  refine ln ?_
  refine wp_ret ?_
  refine end_ret2 (v := pA b4 0) (v' := vI 0) rfl hr (by kernel_rfl) (by kernel_rfl) ?_
  replace h := h.row_nil (e := 2) (sz := 1) (enc := encZ_i64)
  replace h := h.row_nil (e := 96) (sz := 6) (enc := enc_T_api_Access)
  cases H
 ·
  refine sr ?_
  refine oo [2, 3] [pN, vI 3] hr fun a hr => ?_
  refine ln ?_
  refine wp_ret ?_
  refine then_ret ?_
  refine end_ret2 (v := pN) (v' := vI 3) rfl hr (by kernel_rfl) (by kernel_rfl) ?_
  cases H
  exact ⟨rfl, h⟩

/-- (*plunder/cells.ledger).refuse -/
def cells_ledger_refuse (p0 : T_cells_Arena) (p1 : Int) : Option (Int) :=
  (if p1 < 1 then some 21 else (if p1 > (wi (p0.ledger_size - p0.ledger_mark)) then some 22 else some 0))

theorem cells_ledger_refuse_ok {z w : World} {L : List HProp} {p0 : T_cells_Arena} {p1 r0 : Int} {B0 cc2 cc4 : Nat} {ca1 ca3 : Option Addr} (H : cells_ledger_refuse p0 p1 = some r0) (h : Fit z (sepL (ob103 B0 p0 ca1 cc2 ca3 cc4 :: ro2 ca1 cc2 p0.cell :: ro96 ca3 cc4 p0.log :: L)) w)  :
    Calls Try.prog 61 #[pA B0 0, vI p1] w fun e w => e = .returned (vI r0) ∧ Fit z (sepL (ob103 B0 p0 ca1 cc2 ca3 cc4 :: ro2 ca1 cc2 p0.cell :: ro96 ca3 cc4 p0.log :: L)) w := by
 unfold cells_ledger_refuse at H
 refine enter Try.func61 rfl 22 rfl rfl [(0, pA B0 0), (1, vI p1)] ⟨rfl, rfl, trivial⟩ ?_
 intro j a hr
 refine sr ?_
 refine o1 hr (vI 0) fun a hr => ?_
 refine ln ?_
 refine wp_seq ?_
 refine sr ?_
 refine oo [5, 6] [vI p1, vB (decide (p1 < 1))] hr fun a hr => ?_
 refine ln ?_
 refine cD hr H (fun c5 H => ?_) fun c5 H => ?_
 ·
  refine sr ?_
  refine o1 hr (vI 21) fun a hr => ?_
  refine ln ?_
  refine wp_ret ?_
  refine then_ret ?_
  refine end_ret1 (v := vI 21) rfl hr (by kernel_rfl) ?_
  replace H := ej1 H; subst H
  exact ⟨rfl, h⟩
 ·
  refine wp_skip ?_
  refine then_normal ?_
  refine wp_seq ?_
  refine wp_seq ?_
  refine regL [(B0, 0, [vI p0.ledger_size]), (B0, 1, [vI p0.ledger_mark])] [1, 5, 6, 9, 10] 15 h (fun h => ⟨⟨h.cell 0 rfl, trivial⟩, ⟨h.cell 1 rfl, trivial⟩, trivial⟩) fun w h hd => ?_
  refine evs' hd 12 [(0, 7, pA B0 0), (1, 8, vB false), (2, 9, vB false)] hr fun a hr => ?_
  refine eon hd 11 3 rfl (wgt hr (c := false) rfl) hr (vI p1) fun a hr => ?_
  refine eon hd 10 4 rfl (wgt hr (c := false) rfl) hr (pA B0 0) fun a hr => ?_
  refine eon hd 9 5 rfl (wgt hr (c := false) rfl) hr (pA B0 0) fun a hr => ?_
  refine eon hd 8 6 rfl (wgt hr (c := false) rfl) hr (pA B0 0) fun a hr => ?_
  refine eon hd 7 8 rfl (wgt hr (c := false) rfl) hr (pA B0 0) fun a hr => ?_
  refine eon hd 6 9 rfl (wgt hr (c := false) rfl) hr (pA B0 0) fun a hr => ?_
  refine eon hd 5 10 rfl (wgt hr (c := false) rfl) hr (pA B0 1) fun a hr => ?_
  refine elx hd 0 4 7 hr (wgt hr (c := false) rfl) rfl rfl fun a hr => ?_
  refine elx hd 1 3 11 hr (wgt hr (c := false) rfl) rfl rfl fun a hr => ?_
  refine eon hd 2 12 rfl (wgt hr (c := false) rfl) hr (vI (wi (p0.ledger_size - p0.ledger_mark))) fun a hr => ?_
  refine eon hd 1 13 rfl (wgt hr (c := false) rfl) hr (vB (decide (p1 > (wi (p0.ledger_size - p0.ledger_mark))))) fun a hr => ?_
  refine evs' hd 0 [(14, 21, vB (decide (p1 > (wi (p0.ledger_size - p0.ledger_mark)))))] hr fun a hr => ?_
  refine een ?_
  refine then_normal ?_
  refine cD hr H (fun c6 H => ?_) fun c6 H => ?_
  ·
   refine sr ?_
   refine o1 hr (vI 22) fun a hr => ?_
   refine ln ?_
   refine wp_ret ?_
   refine then_ret ?_
   refine end_ret1 (v := vI 22) rfl hr (by kernel_rfl) ?_
   replace H := ej1 H; subst H
   exact ⟨rfl, h⟩
  ·
   refine wp_skip ?_
   refine then_normal ?_
   refine sr ?_
   refine o1 hr (vI 0) fun a hr => ?_
   refine ln ?_
   refine wp_ret ?_
   refine end_ret1 (v := vI 0) rfl hr (by kernel_rfl) ?_
   replace H := ej1 H; subst H
   exact ⟨rfl, h⟩

/-- (*plunder/cells.ledger).take -/
def cells_ledger_take (p0 : T_cells_Arena) (p1 : Int) : Option (Int × T_cells_Arena) :=
  some (p0.ledger_mark, { p0 with ledger_mark := wi (p0.ledger_mark + p1) })

theorem cells_ledger_take_ok {z w : World} {L : List HProp} {p0 q0 : T_cells_Arena} {p1 r0 : Int} {B0 cc2 cc4 : Nat} {ca1 ca3 : Option Addr} (H : cells_ledger_take p0 p1 = some (r0, q0)) (h : Fit z (sepL (ob103 B0 p0 ca1 cc2 ca3 cc4 :: ro2 ca1 cc2 p0.cell :: ro96 ca3 cc4 p0.log :: L)) w)  :
    Calls Try.prog 62 #[pA B0 0, vI p1] w fun e w => ∃ caq0_1 ccq0_2 caq0_3 ccq0_4, e = .returned (vI r0) ∧ Fit z (sepL (ob103 B0 q0 caq0_1 ccq0_2 caq0_3 ccq0_4 :: ro2 caq0_1 ccq0_2 q0.cell :: ro96 caq0_3 ccq0_4 q0.log :: L)) w := by
 unfold cells_ledger_take at H
 refine enter Try.func62 rfl 19 rfl rfl [(0, pA B0 0), (1, vI p1)] ⟨rfl, rfl, trivial⟩ ?_
 intro j a hr
 refine sr ?_
 refine o1 hr (vI 0) fun a hr => ?_
 refine ln ?_
 refine sr ?_
 refine oo [6, 7, 8] [pA B0 0, pA B0 0, pA B0 1] hr fun a hr => ?_
 refine ld (wn rfl) hr (vI p0.ledger_mark) (h.cell 1 rfl) fun a hr => ?_
 refine o1 hr (vI p0.ledger_mark) fun a hr => ?_
 refine ln ?_
 refine sr ?_
 refine oo [10, 11, 12] [pA B0 0, pA B0 0, pA B0 1] hr fun a hr => ?_
 refine ld (wn rfl) hr (vI p0.ledger_mark) (h.cell 1 rfl) fun a hr => ?_
 refine oo [14, 15, 16, 17] [vI p1, vI (wi (p0.ledger_mark + p1)), pA B0 0, pA B0 1] hr fun a hr => ?_
 refine st1 (wn rfl) hr h 1 (vI (wi (p0.ledger_mark + p1))) (pts B0 (.cells #[vI p0.ledger_size, vI (wi (p0.ledger_mark + p1)), .slice ca1 p0.cell.length cc2, .slice ca3 p0.log.length cc4, vI p0.actor, vB p0.watched] 103)) fun w h => ?_
 refine ln ?_
 refine sr ?_
 refine oo [18, 4] [vI p0.ledger_mark, vI p0.ledger_mark] hr fun a hr => ?_
 refine ln ?_
 refine wp_ret ?_
 refine end_ret1 (v := vI p0.ledger_mark) rfl hr (by kernel_rfl) ?_
 obtain ⟨rfl, rfl⟩ := ej2 H
 exact ⟨ca1, cc2, ca3, cc4, rfl, h⟩

/-- (*plunder/cells.Arena).note -/
def cells_Arena_note (p0 : T_cells_Arena) (p1 : Int) (p2 : Int) (p3 : Int) (p4 : Int) (p5 : Bool) : Option (T_cells_Arena) :=
  (if p0.watched = true then if (p0.log.length + 1) * 48 ≤ 140737488355328 then some ({ p0 with log := p0.log ++ [(⟨p0.actor, p1, p2, p3, p4, p5⟩ : T_api_Access)] }) else none else some p0)

theorem cells_Arena_note_ok {z w : World} {L : List HProp} {p0 q0 : T_cells_Arena} {p1 p2 p3 p4 : Int} {p5 : Bool} {B0 cc2 cc4 : Nat} {ca1 ca3 : Option Addr} (H : cells_Arena_note p0 p1 p2 p3 p4 p5 = some q0) (h : Fit z (sepL (ob103 B0 p0 ca1 cc2 ca3 cc4 :: ro2 ca1 cc2 p0.cell :: ro96 ca3 cc4 p0.log :: L)) w)  :
    Calls Try.prog 63 #[pA B0 0, vI p1, vI p2, vI p3, vI p4, vB p5] w fun e w => ∃ caq0_1 ccq0_2 caq0_3 ccq0_4, e = .returned (.tuple #[]) ∧ Fit z (sepL (ob103 B0 q0 caq0_1 ccq0_2 caq0_3 ccq0_4 :: ro2 caq0_1 ccq0_2 q0.cell :: ro96 caq0_3 ccq0_4 q0.log :: L)) w := by
 unfold cells_Arena_note at H
 refine enter Try.func63 rfl 35 rfl rfl [(0, pA B0 0), (1, vI p1), (2, vI p2), (3, vI p3), (4, vI p4), (5, vB p5)] ⟨rfl, rfl, rfl, rfl, rfl, rfl, trivial⟩ ?_
 intro j a hr
 refine sr ?_
 refine oo [12, 13, 14] [pA B0 0, pA B0 0, pA B0 5] hr fun a hr => ?_
 refine ld (wn rfl) hr (vB p0.watched) (h.cell 5 rfl) fun a hr => ?_
 refine ln ?_
 refine cV hr H (fun c5 H => ?_) fun c5 H => ?_
 ·
  obtain ⟨c9, H⟩ := gd H
  refine regL [(B0, 3, [.slice ca3 p0.log.length cc4]), (B0, 4, [vI p0.actor])] [2, 3, 6, 7, 14] 20 h (fun h => ⟨⟨h.cell 3 rfl, trivial⟩, ⟨h.cell 4 rfl, trivial⟩, trivial⟩) fun w h hd => ?_
  refine evs' hd 8 [(0, 16, pA B0 0), (1, 17, pA B0 0), (2, 18, pA B0 0), (3, 19, pA B0 3), (5, 21, pA B0 0), (6, 22, pA B0 0), (7, 23, pA B0 4), (9, 25, vI p1), (10, 26, vI p2), (11, 27, vI p3), (12, 28, vI p4), (13, 29, vB p5)] hr fun a hr => ?_
  refine elx hd 0 7 4 hr (wn rfl) rfl rfl fun a hr => ?_
  refine elx hd 1 6 8 hr (wn rfl) rfl rfl fun a hr => ?_
  refine evs' hd 5 [(14, 30, .agg #[vI p0.actor, vI p1, vI p2, vI p3, vI p4, vB p5])] hr fun a hr => ?_
  refine eo1 15 rfl ?_
  refine onew (wn rfl) hr h (fun b => .slice (some ⟨b, 0, none⟩) 1 1) (#[vI p0.actor, vI p1, vI p2, vI p3, vI p4, vB p5]) 96 fun b6 w a h hr => ?_
  refine ln ?_
  refine xE ?_
  refine eo1 16 rfl ?_
  replace h := h.m3
  refine op_append (n0 := p0.log.length) (c := 1) (bytes := 48) (wn rfl) rfl rfl hr rfl (by kernel_rfl) (by kernel_rfl) enc_T_api_Access_ok (E := 96) (xs := p0.log) (by kernel_rfl) (by kernel_rfl) h (news := [(⟨p0.actor, p1, p2, p3, p4, p5⟩ : T_api_Access)]) (m := 1) rfl ((h.pick 1).news rfl) c9 rfl fun ca7 cc8 w a h hr => ?_
  refine ln ?_
  refine xE ?_
  refine evs 2 17 rfl (wn rfl) hr (pA B0 0) fun a hr => ?_
  refine evs 1 18 rfl (wn rfl) hr (pA B0 3) fun a hr => ?_
  refine eo1 19 rfl ?_
  replace h := h.m2
  refine st1 (wn rfl) hr h 3 (.slice ca7 (p0.log ++ [(⟨p0.actor, p1, p2, p3, p4, p5⟩ : T_api_Access)]).length cc8) (pts B0 (.cells #[vI p0.ledger_size, vI p0.ledger_mark, .slice ca1 p0.cell.length cc2, .slice ca7 (p0.log ++ [(⟨p0.actor, p1, p2, p3, p4, p5⟩ : T_api_Access)]).length cc8, vI p0.actor, vB p0.watched] 103)) fun w h => ?_
  refine ln ?_
  refine xE ?_
  refine een ?_
  refine end_norm0 rfl hr ?_
  replace H := ej1 H; subst H
  exact ⟨ca1, cc2, ca7, cc8, rfl, h.se 4 [0, 3, 1]⟩
 ·
  refine wp_skip ?_
  refine end_norm0 rfl hr ?_
  replace H := ej1 H; subst H
  exact ⟨ca1, cc2, ca3, cc4, rfl, h⟩

/-- (*plunder/cells.Arena).Reserve -/
def cells_Arena_Reserve (p0 : T_cells_Arena) (p1 : Int) : Option (Int × Int × T_cells_Arena) :=
  ob0 (some ()) (ob1 (cells_ledger_refuse p0 p1) (fun r7 => (if r7 = 0 then ob2 (cells_ledger_take p0 p1) (fun r10 S11 => if 0 ≤ p1 ∧ (S11.cell.length + p1.toNat) * 8 ≤ 140737488355328 then ob1 (cells_Arena_note ({ S11 with cell := S11.cell ++ List.replicate p1.toNat (0 : Int) }) 4 r10 p1 0 true) (fun S20 => some (r10, 0, S20)) else none) else some (0, r7, p0))))

theorem cells_Arena_Reserve_ok {z w : World} {L : List HProp} {p0 q0 : T_cells_Arena} {p1 r0 r1 : Int} {B0 cc2 cc4 : Nat} {ca1 ca3 : Option Addr} (H : cells_Arena_Reserve p0 p1 = some (r0, r1, q0)) (h : Fit z (sepL (ob103 B0 p0 ca1 cc2 ca3 cc4 :: ro2 ca1 cc2 p0.cell :: ro96 ca3 cc4 p0.log :: L)) w)  :
    Calls Try.prog 35 #[pA B0 0, vI p1] w fun e w => ∃ caq0_1 ccq0_2 caq0_3 ccq0_4, e = .returned (.tuple #[vI r0, vI r1]) ∧ Fit z (sepL (ob103 B0 q0 caq0_1 ccq0_2 caq0_3 ccq0_4 :: ro2 caq0_1 ccq0_2 q0.cell :: ro96 caq0_3 ccq0_4 q0.log :: L)) w := by
 unfold cells_Arena_Reserve at H
 refine enter Try.func35 rfl 37 rfl rfl [(0, pA B0 0), (1, vI p1)] ⟨rfl, rfl, trivial⟩ ?_
 intro j a hr
 refine sr ?_
 refine oo [4, 5] [vI 0, vI 0] hr fun a hr => ?_
 refine ln ?_
 refine sr ?_
 refine o1 hr (pN) fun a hr => ?_
 refine ln ?_
 obtain ⟨o6, H, hK5⟩ := kd0 H
 refine cut_rule (β := Unit) (fun _ a w => () = o6 ∧ ∃ j, Rep 37 (lk [(0, pA B0 0), (1, vI p1), (6, pA B0 0)] j) a ∧ Fit z (sepL (ob103 B0 p0 ca1 cc2 ca3 cc4 :: ro2 ca1 cc2 p0.cell :: ro96 ca3 cc4 p0.log :: L)) w) ?_ ?_
 ·
  refine sr ?_
  refine oo [9, 10] [pA B0 0, vB true] hr fun a hr => ?_
  refine ln ?_
  refine cond_tt hr (b := true) rfl ?_
  refine wp_region_lit ?_
  refine oo [11, 12, 13, 6] [pA B0 0, pA B0 0, pA B0 0, pA B0 0] hr fun a hr => ?_
  refine ln ?_
  exact ⟨(), sinj H, hr.fj h⟩
 clear h hr a; rintro _ a w ⟨rfl, j, hr, h⟩
 replace H := kk0 hK5
 refine wp_seq ?_
 refine sr ?_
 obtain ⟨r7, e8, H⟩ := bd1 H
 refine oo [14, 15] [pA B0 0, vI p1] hr fun a hr => ?_
 have hc := cells_ledger_refuse_ok (H := e8) (h := h)
 refine cl (wn rfl) hr hc ?_; clear hc h
 rintro _ w ⟨rfl, h⟩; refine ⟨_, rfl, fun a hr => ?_⟩
 refine o1 hr (vI r7) fun a hr => ?_
 refine ln ?_
 refine sr ?_
 refine oo [17, 18] [vI r7, vB (r7 != 0)] hr fun a hr => ?_
 refine ln ?_
 refine cN hr H (fun c9 H => ?_) fun c9 H => ?_
 ·
  refine wp_skip ?_
  refine then_normal ?_
  refine sr ?_
  obtain ⟨r10, S11, e12, H⟩ := bd2 H
  refine oo [20, 21] [pA B0 0, vI p1] hr fun a hr => ?_
  have hc := cells_ledger_take_ok (H := e12) (h := h)
  refine cl (wn rfl) hr hc ?_; clear hc h
  rintro _ w ⟨caq13, ccq14, caq15, ccq16, rfl, h⟩; refine ⟨_, rfl, fun a hr => ?_⟩
  refine o1 hr (vI r10) fun a hr => ?_
  refine ln ?_
  refine sr ?_
  refine oo [23, 24, 25, 26] [pA B0 0, pA B0 0, pA B0 0, pA B0 2] hr fun a hr => ?_
  refine ld (wn rfl) hr (.slice caq13 S11.cell.length ccq14) (h.cell 2 rfl) fun a hr => ?_
  refine o1 hr (vI p1) fun a hr => ?_
  replace h := h.m1
  obtain ⟨c19, H⟩ := gd H
  refine op_extend (kx := .i64) (n0 := S11.cell.length) (i := p1) (m := p1.toNat) (bytes := 8) (zc := #[vI 0]) (0 : Int) (wn rfl) rfl rfl hr rfl (by kernel_rfl) (by kernel_rfl) (Int.toNat_of_nonneg c19.1).symm encZ_i64_ok (E := 2) (xs := S11.cell) (by kernel_rfl) (by kernel_rfl) (by kernel_rfl) rfl h c19.2 rfl fun ca17 cc18 w a h hr => ?_
  refine oo [30, 31] [pA B0 0, pA B0 2] hr fun a hr => ?_
  replace h := h.m1
  refine st1 (wn rfl) hr h 2 (.slice ca17 (S11.cell ++ List.replicate p1.toNat (0 : Int)).length cc18) (pts B0 (.cells #[vI S11.ledger_size, vI S11.ledger_mark, .slice ca17 (S11.cell ++ List.replicate p1.toNat (0 : Int)).length cc18, .slice caq15 S11.log.length ccq16, vI S11.actor, vB S11.watched] 103)) fun w h => ?_
  refine ln ?_
  refine sr ?_
  obtain ⟨S20, e21, H⟩ := bd1 H
  refine oo [32, 33, 34] [pA B0 0, vI r10, vI p1] hr fun a hr => ?_
  have hc := cells_Arena_note_ok (H := e21) (h := h)
  refine cl (wn rfl) hr hc ?_; clear hc h
  rintro _ w ⟨caq22, ccq23, caq24, ccq25, rfl, h⟩; refine ⟨_, rfl, fun a hr => ?_⟩
  refine ln ?_
  refine sr ?_
  refine oo [36, 4, 5] [vI r10, vI r10, vI 0] hr fun a hr => ?_
  refine ln ?_
  refine wp_ret ?_
  refine end_ret2 (v := vI r10) (v' := vI 0) rfl hr (by kernel_rfl) (by kernel_rfl) ?_
  obtain ⟨rfl, rfl, rfl⟩ := ej3 H
  exact ⟨caq22, ccq23, caq24, ccq25, rfl, h⟩
 ·
  refine sr ?_
  refine oo [19, 4, 5] [vI r7, vI 0, vI r7] hr fun a hr => ?_
  refine ln ?_
  refine wp_ret ?_
  refine then_ret ?_
  refine end_ret2 (v := vI 0) (v' := vI r7) rfl hr (by kernel_rfl) (by kernel_rfl) ?_
  obtain ⟨rfl, rfl, rfl⟩ := ej3 H
  exact ⟨ca1, cc2, ca3, cc4, rfl, h⟩

/-- (plunder/frames.Table).join -/
def frames_Table__join (p0 : T_frames_Table) (p1 : Int) : Option (Int) :=
  some (wi ((wi (p0.Base + 1)) + (wi (p1 * 10))))

theorem frames_Table__join_ok {z w : World} {L : List HProp} {p0 : T_frames_Table} {p1 r0 : Int} (H : frames_Table__join p0 p1 = some r0) (h : Fit z (sepL (L)) w)  :
    Calls Try.prog 54 #[ag_T_frames_Table p0, vI p1] w fun e w => e = .returned (vI r0) ∧ Fit z (sepL (L)) w := by
 unfold frames_Table__join at H
 refine enter Try.func54 rfl 11 rfl rfl [(0, ag_T_frames_Table p0), (1, vI p1)] ⟨rfl, rfl, trivial⟩ ?_
 intro j a hr
 refine sr ?_
 refine onew (wn rfl) hr h nb (ca_T_frames_Table p0) 39 fun b1 w a h hr => ?_
 refine o1 hr (vI 0) fun a hr => ?_
 refine ln ?_
 refine sr ?_
 refine o1 hr (pA b1 0) fun a hr => ?_
 refine ld (wn rfl) hr (vI p0.Base) (h.cell 0 rfl) fun a hr => ?_
 refine oo [7, 8, 9, 10, 4] [vI (wi (p0.Base + 1)), vI p1, vI (wi (p1 * 10)), vI (wi ((wi (p0.Base + 1)) + (wi (p1 * 10)))), vI (wi ((wi (p0.Base + 1)) + (wi (p1 * 10))))] hr fun a hr => ?_
 refine ln ?_
 refine wp_ret ?_
 refine end_ret1 (v := vI (wi ((wi (p0.Base + 1)) + (wi (p1 * 10))))) rfl hr (by kernel_rfl) ?_
 replace H := ej1 H; subst H
 exact ⟨rfl, h.se 1 []⟩

/-- (*plunder/cells.ledger).has -/
def cells_ledger_has (p0 : T_cells_Arena) (p1 : Int) : Option (Bool) :=
  (if p1 ≥ 0 then some (decide (p1 < p0.ledger_mark)) else some false)

theorem cells_ledger_has_ok {z w : World} {L : List HProp} {p0 : T_cells_Arena} {p1 : Int} {B0 cc2 cc4 : Nat} {ca1 ca3 : Option Addr} {r0 : Bool} (H : cells_ledger_has p0 p1 = some r0) (h : Fit z (sepL (ob103 B0 p0 ca1 cc2 ca3 cc4 :: ro2 ca1 cc2 p0.cell :: ro96 ca3 cc4 p0.log :: L)) w)  :
    Calls Try.prog 127 #[pA B0 0, vI p1] w fun e w => e = .returned (vB r0) ∧ Fit z (sepL (ob103 B0 p0 ca1 cc2 ca3 cc4 :: ro2 ca1 cc2 p0.cell :: ro96 ca3 cc4 p0.log :: L)) w := by
 unfold cells_ledger_has at H
 refine enter Try.func127 rfl 15 rfl rfl [(0, pA B0 0), (1, vI p1)] ⟨rfl, rfl, trivial⟩ ?_
 intro j a hr
 refine sr ?_
 refine o1 hr (vB false) fun a hr => ?_
 refine ln ?_
 refine sr ?_
 refine oo [5, 6, 7] [vI p1, vB (decide (p1 ≥ 0)), vB (decide (p1 ≥ 0))] hr fun a hr => ?_
 by_cases c5 : p1 ≥ 0
 ·
  replace H := ifT c5 H
  refine onl (decide_eq_true c5) [8, 9, 10, 11] [vI p1, pA B0 0, pA B0 0, pA B0 1] hr fun a hr => ?_
  refine ld (wgt hr (decide_eq_true c5)) hr (vI p0.ledger_mark) (h.cell 1 rfl) fun a hr => ?_
  refine onl (decide_eq_true c5) [13] [vB (decide (p1 < p0.ledger_mark))] hr fun a hr => ?_
  refine opv (wn rfl) hr (vB (decide (p1 < p0.ledger_mark))) (rp_t (b := (decide (p1 ≥ 0))) rfl (by kernel_rfl) (decide_eq_true c5) (by kernel_rfl)) fun a hr => ?_
  refine o1 hr (vB (decide (p1 < p0.ledger_mark))) fun a hr => ?_
  refine ln ?_
  refine wp_ret ?_
  refine end_ret1 (v := vB (decide (p1 < p0.ledger_mark))) rfl hr (by kernel_rfl) ?_
  replace H := ej1 H; subst H
  exact ⟨rfl, h⟩
 ·
  replace H := ifF c5 H
  refine offl (decide_eq_false c5) [8, 9, 10, 11, 12, 13] hr fun a hr => ?_
  refine opv (wn rfl) hr (vB false) (rp_f (b := (decide (p1 ≥ 0))) rfl (by kernel_rfl) (decide_eq_false c5) (by kernel_rfl)) fun a hr => ?_
  refine o1 hr (vB false) fun a hr => ?_
  refine ln ?_
  refine wp_ret ?_
  refine end_ret1 (v := vB false) rfl hr (by kernel_rfl) ?_
  replace H := ej1 H; subst H
  exact ⟨rfl, h⟩

/-- (*plunder/cells.Arena).outside -/
def cells_Arena_outside (p0 : T_cells_Arena) (p1 : Int) : Option (Bool) :=
  ob1 (cells_ledger_has p0 p1) (fun r5 => some (!r5))

theorem cells_Arena_outside_ok {z w : World} {L : List HProp} {p0 : T_cells_Arena} {p1 : Int} {B0 cc2 cc4 : Nat} {ca1 ca3 : Option Addr} {r0 : Bool} (H : cells_Arena_outside p0 p1 = some r0) (h : Fit z (sepL (ob103 B0 p0 ca1 cc2 ca3 cc4 :: ro2 ca1 cc2 p0.cell :: ro96 ca3 cc4 p0.log :: L)) w)  :
    Calls Try.prog 126 #[pA B0 0, vI p1] w fun e w => e = .returned (vB r0) ∧ Fit z (sepL (ob103 B0 p0 ca1 cc2 ca3 cc4 :: ro2 ca1 cc2 p0.cell :: ro96 ca3 cc4 p0.log :: L)) w := by
 unfold cells_Arena_outside at H
 refine enter Try.func126 rfl 15 rfl rfl [(0, pA B0 0), (1, vI p1)] ⟨rfl, rfl, trivial⟩ ?_
 intro j a hr
 refine sr ?_
 refine o1 hr (vB false) fun a hr => ?_
 refine ln ?_
 refine sr ?_
 obtain ⟨r5, e6, H⟩ := bd1 H
 refine oo [5, 6, 7] [pA B0 0, vB false, vB false] hr fun a hr => ?_
 refine onl (rfl : false = false) [8, 9, 10, 11] [pA B0 0, pA B0 0, pA B0 0, vI p1] hr fun a hr => ?_
 have hc := cells_ledger_has_ok (H := e6) (h := h)
 refine cl (wgt hr (c := false) rfl) hr hc ?_; clear hc h
 rintro _ w ⟨rfl, h⟩; refine ⟨_, rfl, fun a hr => ?_⟩
 refine onl (rfl : false = false) [13] [vB (!r5)] hr fun a hr => ?_
 refine oo [14, 4] [vB (!r5), vB (!r5)] hr fun a hr => ?_
 refine ln ?_
 refine wp_ret ?_
 refine end_ret1 (v := vB (!r5)) rfl hr (by kernel_rfl) ?_
 replace H := ej1 H; subst H
 exact ⟨rfl, h⟩

/-- (*plunder/cells.Arena).Store -/
def cells_Arena_Store (p0 : T_cells_Arena) (p1 : Int) (p2 : Int) : Option (Int × T_cells_Arena) :=
  ob1 (cells_Arena_outside p0 p1) (fun r5 => (if r5 = true then some (20, p0) else if inr_ p1 p0.cell.length then ob1 (cells_Arena_note ({ p0 with cell := p0.cell.set p1.toNat p2 }) 1 p1 p2 0 true) (fun S10 => some (0, S10)) else none))

theorem cells_Arena_Store_ok {z w : World} {L : List HProp} {p0 q0 : T_cells_Arena} {p1 p2 r0 : Int} {B0 cc2 cc4 : Nat} {ca1 ca3 : Option Addr} (H : cells_Arena_Store p0 p1 p2 = some (r0, q0)) (h : Fit z (sepL (ob103 B0 p0 ca1 cc2 ca3 cc4 :: ro2 ca1 cc2 p0.cell :: ro96 ca3 cc4 p0.log :: L)) w)  :
    Calls Try.prog 125 #[pA B0 0, vI p1, vI p2] w fun e w => ∃ caq0_1 ccq0_2 caq0_3 ccq0_4, e = .returned (vI r0) ∧ Fit z (sepL (ob103 B0 q0 caq0_1 ccq0_2 caq0_3 ccq0_4 :: ro2 caq0_1 ccq0_2 q0.cell :: ro96 caq0_3 ccq0_4 q0.log :: L)) w := by
 unfold cells_Arena_Store at H
 refine enter Try.func125 rfl 21 rfl rfl [(0, pA B0 0), (1, vI p1), (2, vI p2)] ⟨rfl, rfl, rfl, trivial⟩ ?_
 intro j a hr
 refine sr ?_
 refine o1 hr (vI 0) fun a hr => ?_
 refine ln ?_
 refine wp_seq ?_
 refine sr ?_
 obtain ⟨r5, e6, H⟩ := bd1 H
 refine oo [7, 8] [pA B0 0, vI p1] hr fun a hr => ?_
 have hc := cells_Arena_outside_ok (H := e6) (h := h)
 refine cl (wn rfl) hr hc ?_; clear hc h
 rintro _ w ⟨rfl, h⟩; refine ⟨_, rfl, fun a hr => ?_⟩
 refine ln ?_
 refine cV hr H (fun c7 H => ?_) fun c7 H => ?_
 ·
  refine sr ?_
  refine o1 hr (vI 20) fun a hr => ?_
  refine ln ?_
  refine wp_ret ?_
  refine then_ret ?_
  refine end_ret1 (v := vI 20) rfl hr (by kernel_rfl) ?_
  obtain ⟨rfl, rfl⟩ := ej2 H
  exact ⟨ca1, cc2, ca3, cc4, rfl, h⟩
 ·
  refine wp_skip ?_
  refine then_normal ?_
  refine sr ?_
  refine oo [10, 11, 12] [pA B0 0, pA B0 0, pA B0 2] hr fun a hr => ?_
  refine ld (wn rfl) hr (.slice ca1 p0.cell.length cc2) (h.cell 2 rfl) fun a hr => ?_
  obtain ⟨c8, H⟩ := gd H
  refine oo [14, 15] [vI p1, vI p2] hr fun a hr => ?_
  refine opv (wn rfl) hr (pA (blk ca1) (p1.toNat * 1)) (ri_row (k := .i64) (E := 2) rfl (by kernel_rfl) (by kernel_rfl) (by kernel_rfl) (by kernel_rfl) (h.pick 1) c8) fun a hr => ?_
  replace h := h.m1
  refine stor (wn rfl) hr encZ_i64_ok h p1.toNat 0 (vI p2) (at_ p0.cell p1.toNat) p2 (at_ok c8) fun w h => ?_
  refine ln ?_
  refine sr ?_
  refine oo [17, 18, 19] [pA B0 0, vI p1, vI p2] hr fun a hr => ?_
  have hn8 : p0.cell.length = (p0.cell.set p1.toNat p2).length := h.row_n; replace h := Fit.ren1 hn8 (fun q_ => rowOf 2 1 encZ_i64 (.slice ca1 q_ cc2) (p0.cell.set p1.toNat p2)) (fun q_ => pts B0 (.cells #[vI p0.ledger_size, vI p0.ledger_mark, .slice ca1 q_ cc2, .slice ca3 p0.log.length cc4, vI p0.actor, vB p0.watched] 103)) h
  obtain ⟨S10, e11, H⟩ := bd1 H
  replace h := h.m2.m1.m2
  have hc := cells_Arena_note_ok (H := e11) (h := h)
  refine cl (wn rfl) hr hc ?_; clear hc h
  rintro _ w ⟨caq12, ccq13, caq14, ccq15, rfl, h⟩; refine ⟨_, rfl, fun a hr => ?_⟩
  refine ln ?_
  refine sr ?_
  refine o1 hr (vI 0) fun a hr => ?_
  refine ln ?_
  refine wp_ret ?_
  refine end_ret1 (v := vI 0) rfl hr (by kernel_rfl) ?_
  obtain ⟨rfl, rfl⟩ := ej2 H
  exact ⟨caq12, ccq13, caq14, ccq15, rfl, h⟩

def frames_New_iface_l1 (K : Nat) (p1 : Int) (r11 : Int) : Nat → T_cells_Arena → Int → Option (T_frames_Table × Int × T_cells_Arena)
  | 0, _, _ => none
  | k1 + 1, S21, g26 => (if g26 < p1 then ob1 (frames_Table__join (⟨r11, p1⟩ : T_frames_Table) g26) (fun r28 => ob2 (cells_Arena_Store S21 r28 1) (fun r30 S31 => (if r30 = 0 then (frames_New_iface_l1 K p1 r11 k1 S31 (wi (g26 + 1))) else some ((⟨0, 0⟩ : T_frames_Table), r30, S31)))) else some ((⟨r11, p1⟩ : T_frames_Table), 0, S21))
/-- plunder/frames.New -/
def frames_New_iface (K : Nat) (p0 : T_cells_Arena) (p1 : Int) : Option (T_frames_Table × Int × T_cells_Arena) :=
  ob1 (frames_Cells p1) (fun r6 => (if r6 = 0 then some ((⟨0, 0⟩ : T_frames_Table), 3, p0) else ob1 (frames_Cells p1) (fun r9 => ob3 (cells_Arena_Reserve p0 r9) (fun r11 r12 S13 => (if r12 = 0 then (frames_New_iface_l1 K p1 r11 K S13 0) else some ((⟨0, 0⟩ : T_frames_Table), r12, S13))))))

theorem frames_New_iface_ok {z w : World} {L : List HProp} {K : Nat} {p0 q0 : T_cells_Arena} {p1 r1 : Int} {B0 cc2 cc4 : Nat} {ca1 ca3 : Option Addr} {r0 : T_frames_Table} (H : frames_New_iface K p0 p1 = some (r0, r1, q0)) (h : Fit z (sepL (ob103 B0 p0 ca1 cc2 ca3 cc4 :: ro2 ca1 cc2 p0.cell :: ro96 ca3 cc4 p0.log :: L)) w)  :
    Calls Try.prog 19 #[.iface 26 (pA B0 0), vI p1] w fun e w => ∃ caq0_1 ccq0_2 caq0_3 ccq0_4, e = .returned (.tuple #[ag_T_frames_Table r0, vI r1]) ∧ Fit z (sepL (ob103 B0 q0 caq0_1 ccq0_2 caq0_3 ccq0_4 :: ro2 caq0_1 ccq0_2 q0.cell :: ro96 caq0_3 ccq0_4 q0.log :: L)) w := by
 unfold frames_New_iface at H
 refine enter Try.func19 rfl 53 rfl rfl [(0, .iface 26 (pA B0 0)), (1, vI p1)] ⟨rfl, rfl, trivial⟩ ?_
 intro j a hr
 refine sr ?_
 refine onew (wn rfl) hr h nb (#[vI 0, vI 0]) 39 fun b5 w a h hr => ?_
 refine o1 hr (vI 0) fun a hr => ?_
 refine ln ?_
 refine wp_seq ?_
 refine sr ?_
 refine oo [11, 12] [.iface 26 (pA B0 0), vB false] hr fun a hr => ?_
 refine ln ?_
 refine cond_ff hr (b := false) rfl ?_
 refine wp_skip ?_
 refine then_normal ?_
 refine wp_seq ?_
 refine sr ?_
 obtain ⟨r6, e7, H⟩ := bd1 H
 refine o1 hr (vI p1) fun a hr => ?_
 have hc := frames_Cells_ok (H := e7) (h := h)
 refine cl (wn rfl) hr hc ?_; clear hc h
 rintro _ w ⟨rfl, h⟩; refine ⟨_, rfl, fun a hr => ?_⟩
 refine o1 hr (vB (r6 == 0)) fun a hr => ?_
 refine ln ?_
 refine cD hr H (fun c8 H => ?_) fun c8 H => ?_
 ·
  refine sr ?_
  refine o1 hr (.agg #[vI 0, vI 0]) fun a hr => ?_
  refine stm (wn rfl) hr h 0 ([vI 0, vI 0]) (pts b5 (.cells #[vI 0, vI 0] 39)) fun w h => ?_
  refine o1 hr (vI 3) fun a hr => ?_
  refine ln ?_
  refine wp_ret ?_
  refine then_ret ?_
  refine end_retCT (cs := [vI 0, vI 0]) (v := vI 3) rfl hr (by kernel_rfl) (by kernel_rfl) (by kernel_rfl) (by kernel_rfl) (h.held 0 rfl) ?_
  obtain ⟨rfl, rfl, rfl⟩ := ej3 H
  exact ⟨ca1, cc2, ca3, cc4, rfl, h.se 4 [1, 2, 3]⟩
 ·
  refine wp_skip ?_
  refine then_normal ?_
  refine wp_seq ?_
  obtain ⟨r9, e10, H⟩ := bd1 H
  obtain ⟨r11, r12, S13, e14, H⟩ := bd3 H
  refine regL [] [] 12 h (fun _ => trivial) fun w h hd => ?_
  refine evs' hd 7 [(0, 19, .iface 26 (pA B0 0)), (1, 20, vI p1), (3, 22, .func (.method "Reserve") #[.iface 26 (pA B0 0)] #[]), (4, 23, .func (.method "Reserve") #[.iface 26 (pA B0 0)] #[]), (5, 24, .iface 26 (pA B0 0))] hr fun a hr => ?_
  refine eo1 2 rfl ?_
  have hc := frames_Cells_ok (H := e10) (h := h)
  refine cl (wn rfl) hr hc ?_; clear hc h
  rintro _ w ⟨rfl, h⟩; refine ⟨_, rfl, fun a hr => ?_⟩
  refine ln ?_
  refine xE ?_
  refine eo1 6 rfl ?_
  replace h := h.m3.m3.m3
  have hc := cells_Arena_Reserve_ok (H := e14) (h := h)
  refine cl (wn rfl) hr hc ?_; clear hc h
  rintro _ w ⟨caq15, ccq16, caq17, ccq18, rfl, h⟩; refine ⟨_, rfl, fun a hr => ?_⟩
  refine ln ?_
  refine xE ?_
  refine evs 4 7 rfl (wn rfl) hr (.tuple #[vI r11, vI r12]) fun a hr => ?_
  refine evs 3 8 rfl (wn rfl) hr (vI r11) fun a hr => ?_
  refine evs 2 9 rfl (wn rfl) hr (vI r12) fun a hr => ?_
  refine evs 1 10 rfl (wn rfl) hr (vI r11) fun a hr => ?_
  refine evs 0 11 rfl (wn rfl) hr (vI r12) fun a hr => ?_
  refine een ?_
  refine then_normal ?_
  refine wp_seq ?_
  refine sr ?_
  refine oo [28, 29] [vI r12, vB (r12 != 0)] hr fun a hr => ?_
  refine ln ?_
  refine cN hr H (fun c19 H => ?_) fun c19 H => ?_
  ·
   refine wp_skip ?_
   refine then_normal ?_
   refine sr ?_
   refine oo [32, 33, 34] [vI r11, vI p1, .agg #[vI r11, vI p1]] hr fun a hr => ?_
   refine onew (wn rfl) hr h nb (#[vI 0, vI 0]) 39 fun b20 w a h hr => ?_
   refine stm (wn rfl) hr h 0 ([vI r11, vI p1]) (pts b20 (.cells #[vI r11, vI p1] 39)) fun w h => ?_
   refine ln ?_
   refine wp_seq ?_
   refine sr ?_
   refine oo [35, 36] [vI p1, vI 0] hr fun a hr => ?_
   refine ln ?_
   refine wp_block ?_
   refine loop_rule (β := Nat) id (fun m a w => ∃ ca22 : Option Addr, ∃ cc23 : Nat, ∃ ca24 : Option Addr, ∃ cc25 : Nat, ∃ S21 : T_cells_Arena, ∃ g26 : Int, (frames_New_iface_l1 K p1 r11 m S21 g26) = some (r0, r1, q0) ∧ ∃ j, Rep 53 (lk [(0, .iface 26 (pA B0 0)), (4, pA b5 0), (8, pA b20 0), (35, vI p1), (36, vI g26)] j) a ∧ Fit z (sepL (ob103 B0 S21 ca22 cc23 ca24 cc25 :: ro2 ca22 cc23 S21.cell :: ro96 ca24 cc25 S21.log :: pts b5 (.cells #[vI 0, vI 0] 39) :: pts b20 (.cells #[vI r11, vI p1] 39) :: L)) w) K ⟨caq15, ccq16, caq17, ccq18, S13, 0, H, hr.fj (h.se 5 [1, 2, 3, 4, 0])⟩ ?_
   clear h hr a H; rintro k1 a w ⟨ca22, cc23, ca24, cc25, S21, g26, H, j, hr, h⟩
   cases k1 with
   | zero => exact absurd H (by simp [frames_New_iface_l1])
   | succ k1 =>
    rw [frames_New_iface_l1] at H
    refine sr ?_
    refine o1 hr (vB (decide (g26 < p1))) fun a hr => ?_
    refine ln ?_
    refine wp_seq ?_
    refine cD hr H (fun c27 H => ?_) fun c27 H => ?_
    ·
     refine wp_skip ?_
     refine then_normal ?_
     refine wp_seq ?_
     refine wp_block ?_
     refine sr ?_
     refine oo [38, 9] [vI g26, vI g26] hr fun a hr => ?_
     refine ln ?_
     refine wp_seq ?_
     obtain ⟨r28, e29, H⟩ := bd1 H
     obtain ⟨r30, S31, e32, H⟩ := bd2 H
     refine regL [(b20, 0, [vI r11, vI p1])] [3, 4, 5] 9 h (fun h => ⟨((h.pick 4).held 0 rfl), trivial⟩) fun w h hd => ?_
     refine evs' hd 4 [(0, 39, .iface 26 (pA B0 0)), (2, 41, vI g26), (4, 43, .func (.method "Store") #[.iface 26 (pA B0 0)] #[]), (5, 44, .func (.method "Store") #[.iface 26 (pA B0 0)] #[]), (6, 45, .iface 26 (pA B0 0))] hr fun a hr => ?_
     refine elm hd 0 3 1 hr (wn rfl) rfl rfl fun a hr => ?_
     refine eo1 3 rfl ?_
     have hc := frames_Table__join_ok (H := e29) (h := h)
     refine cl (wn rfl) hr hc ?_; clear hc h
     rintro _ w ⟨rfl, h⟩; refine ⟨_, rfl, fun a hr => ?_⟩
     refine ln ?_
     refine eE ⟨((h.pick 4).held 0 rfl), trivial⟩ fun hd => ?_
     refine eo1 7 rfl ?_
     have hc := cells_Arena_Store_ok (H := e32) (h := h)
     refine cl (wn rfl) hr hc ?_; clear hc h
     rintro _ w ⟨caq33, ccq34, caq35, ccq36, rfl, h⟩; refine ⟨_, rfl, fun a hr => ?_⟩
     refine ln ?_
     refine xE ?_
     refine evs 0 8 rfl (wn rfl) hr (vI r30) fun a hr => ?_
     refine een ?_
     refine then_normal ?_
     refine sr ?_
     refine oo [47, 48] [vI r30, vB (r30 != 0)] hr fun a hr => ?_
     refine ln ?_
     refine cN hr H (fun c37 H => ?_) fun c37 H => ?_
     ·
      refine wp_skip ?_
      refine blk_normal ?_
      refine then_normal ?_
      refine wp_region_lit ?_
      refine oo [51, 36] [vI (wi (g26 + 1)), vI (wi (g26 + 1))] hr fun a hr => ?_
      refine ln ?_
      exact ⟨_, ⟨caq33, ccq34, caq35, ccq36, S31, (wi (g26 + 1)), H, hr.fj h⟩, Nat.lt_succ_self _⟩
     ·
      refine sr ?_
      refine oo [49, 50] [.agg #[vI 0, vI 0], vI r30] hr fun a hr => ?_
      replace h := h.m3
      refine stm (wn rfl) hr h 0 ([vI 0, vI 0]) (pts b5 (.cells #[vI 0, vI 0] 39)) fun w h => ?_
      refine o1 hr (vI r30) fun a hr => ?_
      refine ln ?_
      refine wp_ret ?_
      refine blk_ret ?_
      refine then_ret ?_
      refine then_ret ?_
      refine blk_ret ?_
      refine then_ret ?_
      refine end_retCT (cs := [vI 0, vI 0]) (v := vI r30) rfl hr (by kernel_rfl) (by kernel_rfl) (by kernel_rfl) (by kernel_rfl) (h.held 0 rfl) ?_
      obtain ⟨rfl, rfl, rfl⟩ := ej3 H
      exact ⟨caq33, ccq34, caq35, ccq36, rfl, h.se 5 [1, 2, 3]⟩
    ·
     refine wp_exit ?_
     refine then_exit ?_
     refine then_exit ?_
     refine blk_here ?_
     refine then_normal ?_
     refine sr ?_
     refine ldm (wn rfl) hr (.agg #[vI r11, vI p1]) (cs := [vI r11, vI p1]) ((h.pick 4).held 0 rfl) fun a hr => ?_
     replace h := h.m3
     refine stm (wn rfl) hr h 0 ([vI r11, vI p1]) (pts b5 (.cells #[vI r11, vI p1] 39)) fun w h => ?_
     refine o1 hr (vI 0) fun a hr => ?_
     refine ln ?_
     refine wp_ret ?_
     refine end_retCT (cs := [vI r11, vI p1]) (v := vI 0) rfl hr (by kernel_rfl) (by kernel_rfl) (by kernel_rfl) (by kernel_rfl) (h.held 0 rfl) ?_
     obtain ⟨rfl, rfl, rfl⟩ := ej3 H
     exact ⟨ca22, cc23, ca24, cc25, rfl, h.se 5 [1, 2, 3]⟩
  ·
   refine sr ?_
   refine oo [30, 31] [.agg #[vI 0, vI 0], vI r12] hr fun a hr => ?_
   replace h := h.m3
   refine stm (wn rfl) hr h 0 ([vI 0, vI 0]) (pts b5 (.cells #[vI 0, vI 0] 39)) fun w h => ?_
   refine o1 hr (vI r12) fun a hr => ?_
   refine ln ?_
   refine wp_ret ?_
   refine then_ret ?_
   refine end_retCT (cs := [vI 0, vI 0]) (v := vI r12) rfl hr (by kernel_rfl) (by kernel_rfl) (by kernel_rfl) (by kernel_rfl) (h.held 0 rfl) ?_
   obtain ⟨rfl, rfl, rfl⟩ := ej3 H
   exact ⟨caq15, ccq16, caq17, ccq18, rfl, h.se 4 [1, 2, 3]⟩

/-- (*plunder/cells.Arena).Watch -/
def cells_Arena_Watch (p0 : T_cells_Arena) (p1 : Bool) : Option (T_cells_Arena) :=
  some ({ p0 with watched := p1 })

theorem cells_Arena_Watch_ok {z w : World} {L : List HProp} {p0 q0 : T_cells_Arena} {p1 : Bool} {B0 cc2 cc4 : Nat} {ca1 ca3 : Option Addr} (H : cells_Arena_Watch p0 p1 = some q0) (h : Fit z (sepL (ob103 B0 p0 ca1 cc2 ca3 cc4 :: ro2 ca1 cc2 p0.cell :: ro96 ca3 cc4 p0.log :: L)) w)  :
    Calls Try.prog 17 #[pA B0 0, vB p1] w fun e w => ∃ caq0_1 ccq0_2 caq0_3 ccq0_4, e = .returned (.tuple #[]) ∧ Fit z (sepL (ob103 B0 q0 caq0_1 ccq0_2 caq0_3 ccq0_4 :: ro2 caq0_1 ccq0_2 q0.cell :: ro96 caq0_3 ccq0_4 q0.log :: L)) w := by
 unfold cells_Arena_Watch at H
 refine enter Try.func17 rfl 10 rfl rfl [(0, pA B0 0), (1, vB p1)] ⟨rfl, rfl, trivial⟩ ?_
 intro j a hr
 refine sr ?_
 refine oo [4, 5] [pA B0 0, vB true] hr fun a hr => ?_
 refine ln ?_
 refine cond_tt hr (b := true) rfl ?_
 refine wp_region_lit ?_
 refine oo [6, 7, 8, 9] [pA B0 0, vB p1, pA B0 0, pA B0 5] hr fun a hr => ?_
 refine st1 (wn rfl) hr h 5 (vB p1) (pts B0 (.cells #[vI p0.ledger_size, vI p0.ledger_mark, .slice ca1 p0.cell.length cc2, .slice ca3 p0.log.length cc4, vI p0.actor, vB p1] 103)) fun w h => ?_
 refine wpList_nil ?_
 refine end_norm0 rfl hr ?_
 replace H := ej1 H; subst H
 exact ⟨ca1, cc2, ca3, cc4, rfl, h⟩

/-- (*plunder/frames.join).join -/
def frames_join_join (p0 : T_frames_join) (p0_arena : T_cells_Arena) (p0_rounds : List Int) (p1 : T_frames_actor) : Option (T_frames_join) :=
  if (p0.live.length + 1) * 8 ≤ 140737488355328 then some ({ p0 with live := p0.live ++ [{ p1 with number := p0.made }], made := wi (p0.made + 1) }) else none

theorem frames_join_join_ok {z w : World} {L : List HProp} {p0 q0 : T_frames_join} {p0_arena : T_cells_Arena} {p0_rounds : List Int} {p1 : T_frames_actor} {B0 B0_arena cc2 cc4 vc0_rounds cc6 cc8 cc10 cc12 cc14 B1 : Nat} {ca1 ca3 va0_rounds ca5 ca7 ca9 ca11 ca13 : Option Addr} (H : frames_join_join p0 p0_arena p0_rounds p1 = some q0) (h : Fit z (sepL (ob133 B0 p0 (pA B0_arena 0) (.slice va0_rounds p0_rounds.length vc0_rounds) ca5 cc6 ca7 cc8 ca9 cc10 ca11 cc12 ca13 cc14 :: rn135 ca5 cc6 p0.live :: ro3 ca7 cc8 p0.run_Holders :: rn31 ca9 cc10 p0.run_Reads :: ro2 ca11 cc12 p0.run_Marks :: ro96 ca13 cc14 p0.run_Log :: ob103 B0_arena p0_arena ca1 cc2 ca3 cc4 :: ro2 ca1 cc2 p0_arena.cell :: ro96 ca3 cc4 p0_arena.log :: ob137 B1 p1 :: L)) w) (hv0_rounds : RdRow L 1 encZ_i64 va0_rounds p0_rounds) :
    Calls Try.prog 74 #[pA B0 0, pA B1 0] w fun e w => ∃ caq0_1 ccq0_2 caq0_3 ccq0_4 caq0_5 ccq0_6 caq0_7 ccq0_8 caq0_9 ccq0_10, e = .returned (.tuple #[]) ∧ Fit z (sepL (ob133 B0 q0 (pA B0_arena 0) (.slice va0_rounds p0_rounds.length vc0_rounds) caq0_1 ccq0_2 caq0_3 ccq0_4 caq0_5 ccq0_6 caq0_7 ccq0_8 caq0_9 ccq0_10 :: rn135 caq0_1 ccq0_2 q0.live :: ro3 caq0_3 ccq0_4 q0.run_Holders :: rn31 caq0_5 ccq0_6 q0.run_Reads :: ro2 caq0_7 ccq0_8 q0.run_Marks :: ro96 caq0_9 ccq0_10 q0.run_Log :: ob103 B0_arena p0_arena ca1 cc2 ca3 cc4 :: ro2 ca1 cc2 p0_arena.cell :: ro96 ca3 cc4 p0_arena.log :: L)) w := by
 unfold frames_join_join at H
 refine enter Try.func74 rfl 28 rfl rfl [(0, pA B0 0), (1, pA B1 0)] ⟨rfl, rfl, trivial⟩ ?_
 intro j a hr
 refine sr ?_
 refine oo [4, 5, 6, 7] [pA B1 0, pA B0 0, pA B0 0, pA B0 6] hr fun a hr => ?_
 refine ld (wn rfl) hr (vI p0.made) (h.cell 6 rfl) fun a hr => ?_
 refine oo [9, 10] [pA B1 0, pA B1 0] hr fun a hr => ?_
 replace h := h.m9
 refine st1 (wn rfl) hr h 0 (vI p0.made) (pts B1 (.cells #[vI p0.made, vI p1.about, vI p1.op_head_t_Base, vI p1.op_head_t_Frames, vI p1.op_head_frame, vI p1.op_head_stands, vI p1.op_head_code, vI p1.op_head_v, vI p1.op_kind, vI p1.op_slot, vI p1.op_give, vB p1.inOp, vI p1.frame, vI p1.slot, vI p1.value, vI p1.at_, vB p1.child] 137)) fun w h => ?_
 refine ln ?_
 refine sr ?_
 refine oo [11, 12, 13] [pA B0 0, pA B0 0, pA B0 6] hr fun a hr => ?_
 refine ld (wn rfl) hr (vI p0.made) ((h.pick 1).cell 6 rfl) fun a hr => ?_
 refine oo [15, 16, 17] [vI (wi (p0.made + 1)), pA B0 0, pA B0 6] hr fun a hr => ?_
 replace h := h.m1
 refine st1 (wn rfl) hr h 6 (vI (wi (p0.made + 1))) (pts B0 (.cells #[pA B0_arena 0, vI p0.table_Base, vI p0.table_Frames, .slice va0_rounds p0_rounds.length vc0_rounds, vI p0.round, .slice ca5 p0.live.length cc6, vI (wi (p0.made + 1)), vI p0.got, vB p0.run_Done, vI p0.run_Steps, .slice ca7 p0.run_Holders.length cc8, .slice ca9 p0.run_Reads.length cc10, .slice ca11 p0.run_Marks.length cc12, .slice ca13 p0.run_Log.length cc14] 133)) fun w h => ?_
 refine ln ?_
 refine wp_region_lit ?_
 refine oo [18, 19, 20, 21] [pA B0 0, pA B0 0, pA B0 0, pA B0 5] hr fun a hr => ?_
 refine ld (wn rfl) hr (.slice ca5 p0.live.length cc6) (h.cell 5 rfl) fun a hr => ?_
 refine o1 hr (pA B1 0) fun a hr => ?_
 refine onew (wn rfl) hr h (fun b => .slice (some ⟨b, 0, none⟩) 1 1) (#[pA B1 0]) 135 fun b15 w a h hr => ?_
 replace h := h.m2
 replace h := own_ptr135_sh (x := ({ p1 with number := p0.made })) h
 obtain ⟨c16, H⟩ := gd H
 replace h := h.m3
 refine op_append_N (n0 := p0.live.length) (c := 1) (bytes := 8) (sz := 1) (wn rfl) rfl rfl hr rfl (by kernel_rfl) (by kernel_rfl) (E := 135) (xs := p0.live) (by kernel_rfl) (by kernel_rfl) rfl rfl rfl h ((h.pick 2).news rfl) c16 rfl fun ca17 cc18 w a h hr => ?_
 refine oo [26, 27] [pA B0 0, pA B0 5] hr fun a hr => ?_
 replace h := h.m2
 refine st1 (wn rfl) hr h 5 (.slice ca17 (p0.live ++ [{ p1 with number := p0.made }]).length cc18) (pts B0 (.cells #[pA B0_arena 0, vI p0.table_Base, vI p0.table_Frames, .slice va0_rounds p0_rounds.length vc0_rounds, vI p0.round, .slice ca17 (p0.live ++ [{ p1 with number := p0.made }]).length cc18, vI (wi (p0.made + 1)), vI p0.got, vB p0.run_Done, vI p0.run_Steps, .slice ca7 p0.run_Holders.length cc8, .slice ca9 p0.run_Reads.length cc10, .slice ca11 p0.run_Marks.length cc12, .slice ca13 p0.run_Log.length cc14] 133)) fun w h => ?_
 refine wpList_nil ?_
 refine end_norm0 rfl hr ?_
 replace H := ej1 H; subst H
 exact ⟨ca17, cc18, ca7, cc8, ca9, cc10, ca11, cc12, ca13, cc14, rfl, h.se 10 [0, 1, 3, 4, 5, 6, 7, 8, 9]⟩

/-- plunder/ops.Mod -/
def ops_Mod (p0 : Int) (p1 : Int) : Option (Int) :=
  (if p1 < 1 then some 0 else if p1 ≠ 0 then (if (p0.tmod p1) < 0 then some (wi ((p0.tmod p1) + p1)) else some (p0.tmod p1)) else none)

theorem ops_Mod_ok {z w : World} {L : List HProp} {p0 p1 r0 : Int} (H : ops_Mod p0 p1 = some r0) (h : Fit z (sepL (L)) w)  :
    Calls Try.prog 76 #[vI p0, vI p1] w fun e w => e = .returned (vI r0) ∧ Fit z (sepL (L)) w := by
 unfold ops_Mod at H
 refine enter Try.func76 rfl 17 rfl rfl [(0, vI p0), (1, vI p1)] ⟨rfl, rfl, trivial⟩ ?_
 intro j a hr
 refine sr ?_
 refine o1 hr (vI 0) fun a hr => ?_
 refine ln ?_
 refine wp_seq ?_
 refine sr ?_
 refine oo [6, 7] [vI p1, vB (decide (p1 < 1))] hr fun a hr => ?_
 refine ln ?_
 refine cD hr H (fun c1 H => ?_) fun c1 H => ?_
 ·
  refine sr ?_
  refine o1 hr (vI 0) fun a hr => ?_
  refine ln ?_
  refine wp_ret ?_
  refine then_ret ?_
  refine end_ret1 (v := vI 0) rfl hr (by kernel_rfl) ?_
  replace H := ej1 H; subst H
  exact ⟨rfl, h⟩
 ·
  refine wp_skip ?_
  refine then_normal ?_
  refine sr ?_
  obtain ⟨c2, H⟩ := gd H
  refine oo [8, 9] [vI p0, vI p1] hr fun a hr => ?_
  refine opv (wn rfl) hr (vI (p0.tmod p1)) (rrem rfl (by kernel_rfl) (by kernel_rfl) c2) fun a hr => ?_
  refine o1 hr (vI (p0.tmod p1)) fun a hr => ?_
  refine ln ?_
  refine wp_seq ?_
  refine sr ?_
  refine oo [11, 12] [vI (p0.tmod p1), vB (decide ((p0.tmod p1) < 0))] hr fun a hr => ?_
  refine ln ?_
  refine cD hr H (fun c3 H => ?_) fun c3 H => ?_
  ·
   refine wp_region_lit ?_
   refine oo [13, 14, 15, 5] [vI (p0.tmod p1), vI p1, vI (wi ((p0.tmod p1) + p1)), vI (wi ((p0.tmod p1) + p1))] hr fun a hr => ?_
   refine ln ?_
   refine sr ?_
   refine oo [16, 4] [vI (wi ((p0.tmod p1) + p1)), vI (wi ((p0.tmod p1) + p1))] hr fun a hr => ?_
   refine ln ?_
   refine wp_ret ?_
   refine end_ret1 (v := vI (wi ((p0.tmod p1) + p1))) rfl hr (by kernel_rfl) ?_
   replace H := ej1 H; subst H
   exact ⟨rfl, h⟩
  ·
   refine wp_skip ?_
   refine then_normal ?_
   refine sr ?_
   refine oo [16, 4] [vI (p0.tmod p1), vI (p0.tmod p1)] hr fun a hr => ?_
   refine ln ?_
   refine wp_ret ?_
   refine end_ret1 (v := vI (p0.tmod p1)) rfl hr (by kernel_rfl) ?_
   replace H := ej1 H; subst H
   exact ⟨rfl, h⟩

/-- (plunder/frames.Table).has -/
def frames_Table__has (p0 : T_frames_Table) (p1 : Int) : Option (Bool) :=
  (if p0.Base ≥ 0 then (if p0.Frames ≥ 1 then (if p0.Frames ≤ 4096 then (if p1 ≥ 0 then some (decide (p1 < p0.Frames)) else some false) else some false) else some false) else some false)


end Go.Proofs.Ytnghahgfcaolbaa.Mo
