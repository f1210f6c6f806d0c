/- what the functions compute, as plain Lean functions, and that they do -/
import Derived.Test.YtpikpffbcjpmcaaDoorWa4
namespace Go.Proofs.YtpikpffbcjpmcaaDoor.Mo
open Go Go.RowKit Go.Proofs.YtpikpffbcjpmcaaDoor.SL Go.Proofs.YtpikpffbcjpmcaaDoor.GX
set_option linter.unusedVariables false
set_option linter.unusedSimpArgs false
set_option maxRecDepth 100000
set_option maxHeartbeats 4000000
noncomputable section

theorem worker_World_Holds_ok {z w : World} {L : List HProp} {p0 : T_worker_World} {p0_m : T_cells_Arena} {p1 r0 : Int} {B0 B0_m cc2 cc4 cc6 cc8 cc10 cc12 : Nat} {ca1 ca3 ca5 ca7 ca9 ca11 : Option Addr} (H : worker_World_Holds p0 p0_m p1 = some r0) (h : Fit z (sepL (ob73 B0 p0 (.iface 37 (pA B0_m 0)) ca5 cc6 ca7 cc8 ca9 cc10 ca11 cc12 :: rn76 ca5 cc6 p0.code :: ro84 ca7 cc8 p0.deques :: ro80 ca9 cc10 p0.tasks :: ro97 B0 ca11 cc12 p0.workers :: ob102 B0_m p0_m ca1 cc2 ca3 cc4 :: ro2 ca1 cc2 p0_m.cell :: ro111 ca3 cc4 p0_m.log :: L)) w)  :
    Calls Tryd.prog 19 #[pA B0 0, vI p1] w fun e w => e = .returned (vI r0) ∧ Fit z (sepL (ob73 B0 p0 (.iface 37 (pA B0_m 0)) ca5 cc6 ca7 cc8 ca9 cc10 ca11 cc12 :: rn76 ca5 cc6 p0.code :: ro84 ca7 cc8 p0.deques :: ro80 ca9 cc10 p0.tasks :: ro97 B0 ca11 cc12 p0.workers :: ob102 B0_m p0_m ca1 cc2 ca3 cc4 :: ro2 ca1 cc2 p0_m.cell :: ro111 ca3 cc4 p0_m.log :: L)) w := by
 unfold worker_World_Holds at H
 refine enter Tryd.func19 rfl 28 rfl rfl [(0, pA B0 0), (1, vI p1)] ⟨rfl, rfl, trivial⟩ ?_
 intro j a hr
 refine sr ?_
 refine o1 hr (vI 0) fun a hr => ?_
 refine ln ?_
 refine wp_seq ?_
 refine sr ?_
 refine oo [5, 6, 7] [pA B0 0, vB false, vB false] hr fun a hr => ?_
 refine onl (rfl : false = false) [8, 9] [vI p1, vB (decide (p1 < 0))] hr fun a hr => ?_
 refine oo [10, 11] [vB (decide (p1 < 0)), vB (decide (p1 < 0))] hr fun a hr => ?_
 by_cases c13 : p1 < 0
 ·
  replace H := ifT c13 H
  refine offl (decide_eq_true c13) [12, 13, 14, 15, 16, 17, 18] hr fun a hr => ?_
  refine opv (wn rfl) hr (vB true) (rp_t (b := (decide (p1 < 0))) rfl (by kernel_rfl) (decide_eq_true c13) (by kernel_rfl)) fun a hr => ?_
  refine ln ?_
  refine cond_tt hr (b := true) rfl ?_
  refine sr ?_
  refine o1 hr (vI (-1)) fun a hr => ?_
  refine ln ?_
  refine wp_ret ?_
  refine then_ret ?_
  refine end_ret1 (v := vI (-1)) rfl hr (by kernel_rfl) ?_
  replace H := ej1 H; subst H
  exact ⟨rfl, h⟩
 ·
  replace H := ifF c13 H
  refine onl (decide_eq_false c13) [12, 13, 14, 15] [vI p1, pA B0 0, pA B0 0, pA B0 9] hr fun a hr => ?_
  refine ld (wgt hr (decide_eq_false c13)) hr (.slice ca11 p0.workers.length cc12) (h.cell 9 rfl) fun a hr => ?_
  refine onl (decide_eq_false c13) [17, 18] [vI ((p0.workers.length : Nat) : Int), vB (decide (p1 ≥ ((p0.workers.length : Nat) : Int)))] hr fun a hr => ?_
  refine opv (wn rfl) hr (vB (decide (p1 ≥ ((p0.workers.length : Nat) : Int)))) (rp_f (b := (decide (p1 < 0))) rfl (by kernel_rfl) (decide_eq_false c13) (by kernel_rfl)) fun a hr => ?_
  refine ln ?_
  refine cD hr H (fun c14 H => ?_) fun c14 H => ?_
  ·
   refine sr ?_
   refine o1 hr (vI (-1)) fun a hr => ?_
   refine ln ?_
   refine wp_ret ?_
   refine then_ret ?_
   refine end_ret1 (v := vI (-1)) rfl hr (by kernel_rfl) ?_
   replace H := ej1 H; subst H
   exact ⟨rfl, h⟩
  ·
   refine wp_skip ?_
   refine then_normal ?_
   refine sr ?_
   refine oo [20, 21, 22] [pA B0 0, pA B0 0, pA B0 9] hr fun a hr => ?_
   refine ld (wn rfl) hr (.slice ca11 p0.workers.length cc12) (h.cell 9 rfl) fun a hr => ?_
   obtain ⟨c15, H⟩ := gd H
   refine o1 hr (vI p1) fun a hr => ?_
   refine opv (wn rfl) hr (pA (blk ca11) (p1.toNat * 188)) (ri_row (k := .i64) (E := 97) rfl (by kernel_rfl) (by kernel_rfl) (by kernel_rfl) (by kernel_rfl) (h.pick 4) c15) fun a hr => ?_
   refine o1 hr (pA (blk ca11) (p1.toNat * 188 + 3)) fun a hr => ?_
   refine ld (wn rfl) hr (vI (at_ p0.workers p1.toNat).frame) ((h.pick 4).row_cell (enc_T_worker_actor_ok B0) (f := 3) (at_ok c15) rfl) fun a hr => ?_
   refine o1 hr (vI (at_ p0.workers p1.toNat).frame) fun a hr => ?_
   refine ln ?_
   refine wp_ret ?_
   refine end_ret1 (v := vI (at_ p0.workers p1.toNat).frame) rfl hr (by kernel_rfl) ?_
   replace H := ej1 H; subst H
   exact ⟨rfl, h⟩

/-- (*plunder/plunderref11.World).Holds -/
def plunderref11_World_Holds (p0 : T_plunderref11_World) (p0_P_Funcs : List T_api_Func) (p0_Draws : List Int) (p1 : Int) : Option (Int) :=
  (if p1 < 0 then some (-1) else (if p1 ≥ p0.N then some (-1) else if inr_ p1 p0.Workers.length then some (at_ p0.Workers p1.toNat).Frame else none))

theorem plunderref11_World_Holds_ok {z w : World} {L : List HProp} {p0 : T_plunderref11_World} {p0_P_Funcs : List T_api_Func} {p0_Draws : List Int} {p1 r0 : Int} {B0 vc0_P_Funcs vc0_Draws cc2 cc4 cc6 cc8 cc10 : Nat} {va0_P_Funcs va0_Draws ca1 ca3 ca5 ca7 ca9 : Option Addr} {hs0_P_Funcs : Nat → Option Addr × Nat} (H : plunderref11_World_Holds p0 p0_P_Funcs p0_Draws p1 = some r0) (h : Fit z (sepL (ob57 B0 p0 (.slice va0_P_Funcs p0_P_Funcs.length vc0_P_Funcs) ca1 cc2 ca3 cc4 ca5 cc6 ca7 cc8 ca9 cc10 (.slice va0_Draws p0_Draws.length vc0_Draws) :: ro2 ca1 cc2 p0.Cells :: rn117 ca3 cc4 p0.Frames :: ro115 ca5 cc6 p0.Workers :: ro190 ca7 cc8 p0.Events :: ro111 ca9 cc10 p0.Log :: L)) w) (hv0_P_Funcs : Rd76 L va0_P_Funcs hs0_P_Funcs p0_P_Funcs) (hv0_Draws : RdRow L 1 encZ_i64 va0_Draws p0_Draws) :
    Calls Tryd.prog 20 #[pA B0 0, vI p1] w fun e w => e = .returned (vI r0) ∧ Fit z (sepL (ob57 B0 p0 (.slice va0_P_Funcs p0_P_Funcs.length vc0_P_Funcs) ca1 cc2 ca3 cc4 ca5 cc6 ca7 cc8 ca9 cc10 (.slice va0_Draws p0_Draws.length vc0_Draws) :: ro2 ca1 cc2 p0.Cells :: rn117 ca3 cc4 p0.Frames :: ro115 ca5 cc6 p0.Workers :: ro190 ca7 cc8 p0.Events :: ro111 ca9 cc10 p0.Log :: L)) w := by
 unfold plunderref11_World_Holds at H
 refine enter Tryd.func20 rfl 23 rfl rfl [(0, pA B0 0), (1, vI p1)] ⟨rfl, rfl, trivial⟩ ?_
 intro j a hr
 refine sr ?_
 refine o1 hr (vI 0) fun a hr => ?_
 refine ln ?_
 refine wp_seq ?_
 refine sr ?_
 refine oo [5, 6, 7] [vI p1, vB (decide (p1 < 0)), vB (decide (p1 < 0))] hr fun a hr => ?_
 by_cases c11 : p1 < 0
 ·
  replace H := ifT c11 H
  refine offl (decide_eq_true c11) [8, 9, 10, 11, 12, 13] hr fun a hr => ?_
  refine opv (wn rfl) hr (vB true) (rp_t (b := (decide (p1 < 0))) rfl (by kernel_rfl) (decide_eq_true c11) (by kernel_rfl)) fun a hr => ?_
  refine ln ?_
  refine cond_tt hr (b := true) rfl ?_
  refine sr ?_
  refine o1 hr (vI (-1)) fun a hr => ?_
  refine ln ?_
  refine wp_ret ?_
  refine then_ret ?_
  refine end_ret1 (v := vI (-1)) rfl hr (by kernel_rfl) ?_
  replace H := ej1 H; subst H
  exact ⟨rfl, h⟩
 ·
  replace H := ifF c11 H
  refine onl (decide_eq_false c11) [8, 9, 10, 11] [vI p1, pA B0 0, pA B0 0, pA B0 1] hr fun a hr => ?_
  refine ld (wgt hr (decide_eq_false c11)) hr (vI p0.N) (h.cell 1 rfl) fun a hr => ?_
  refine onl (decide_eq_false c11) [13] [vB (decide (p1 ≥ p0.N))] hr fun a hr => ?_
  refine opv (wn rfl) hr (vB (decide (p1 ≥ p0.N))) (rp_f (b := (decide (p1 < 0))) rfl (by kernel_rfl) (decide_eq_false c11) (by kernel_rfl)) fun a hr => ?_
  refine ln ?_
  refine cD hr H (fun c12 H => ?_) fun c12 H => ?_
  ·
   refine sr ?_
   refine o1 hr (vI (-1)) fun a hr => ?_
   refine ln ?_
   refine wp_ret ?_
   refine then_ret ?_
   refine end_ret1 (v := vI (-1)) rfl hr (by kernel_rfl) ?_
   replace H := ej1 H; subst H
   exact ⟨rfl, h⟩
  ·
   refine wp_skip ?_
   refine then_normal ?_
   refine sr ?_
   refine oo [15, 16, 17] [pA B0 0, pA B0 0, pA B0 7] hr fun a hr => ?_
   refine ld (wn rfl) hr (.slice ca5 p0.Workers.length cc6) (h.cell 7 rfl) fun a hr => ?_
   obtain ⟨c13, H⟩ := gd H
   refine o1 hr (vI p1) fun a hr => ?_
   refine opv (wn rfl) hr (pA (blk ca5) (p1.toNat * 14)) (ri_row (k := .i64) (E := 115) rfl (by kernel_rfl) (by kernel_rfl) (by kernel_rfl) (by kernel_rfl) (h.pick 3) c13) fun a hr => ?_
   refine o1 hr (pA (blk ca5) (p1.toNat * 14 + 4)) fun a hr => ?_
   refine ld (wn rfl) hr (vI (at_ p0.Workers p1.toNat).Frame) ((h.pick 3).row_cell enc_T_plunderref11_Worker_ok (f := 4) (at_ok c13) rfl) fun a hr => ?_
   refine o1 hr (vI (at_ p0.Workers p1.toNat).Frame) fun a hr => ?_
   refine ln ?_
   refine wp_ret ?_
   refine end_ret1 (v := vI (at_ p0.Workers p1.toNat).Frame) rfl hr (by kernel_rfl) ?_
   replace H := ej1 H; subst H
   exact ⟨rfl, h⟩

/-- (*plunder/worker.World).Result -/
def worker_World_Result_nil : Option (Int × Bool) :=
  some (0, false)

theorem worker_World_Result_nil_ok {z w : World} {L : List HProp} {r0 : Int} {r1 : Bool} (H : worker_World_Result_nil = some (r0, r1)) (h : Fit z (sepL (L)) w)  :
    Calls Tryd.prog 17 #[pN] w fun e w => e = .returned (.tuple #[vI r0, vB r1]) ∧ Fit z (sepL (L)) w := by
 unfold worker_World_Result_nil at H
 refine enter Tryd.func17 rfl 14 rfl rfl [(0, pN)] ⟨rfl, trivial⟩ ?_
 intro j a hr
 refine sr ?_
 refine oo [2, 3] [vI 0, vB false] hr fun a hr => ?_
 refine ln ?_
 refine wp_seq ?_
 refine sr ?_
 refine oo [4, 5] [pN, vB true] hr fun a hr => ?_
 refine ln ?_
 refine cond_tt hr (b := true) rfl ?_
 refine sr ?_
 refine oo [2, 3] [vI 0, vB false] hr fun a hr => ?_
 refine ln ?_
 refine wp_ret ?_
 refine then_ret ?_
 refine end_ret2 (v := vI 0) (v' := vB false) rfl hr (by kernel_rfl) (by kernel_rfl) ?_
 obtain ⟨rfl, rfl⟩ := ej2 H
 exact ⟨rfl, h⟩

/-- (*plunder/worker.World).Halted -/
def worker_World_Halted_nil (p1 : Int) : Option (Bool) :=
  some false

theorem worker_World_Halted_nil_ok {z w : World} {L : List HProp} {p1 : Int} {r0 : Bool} (H : worker_World_Halted_nil p1 = some r0) (h : Fit z (sepL (L)) w)  :
    Calls Tryd.prog 18 #[pN, vI p1] w fun e w => e = .returned (vB r0) ∧ Fit z (sepL (L)) w := by
 unfold worker_World_Halted_nil at H
 refine enter Tryd.func18 rfl 31 rfl rfl [(0, pN), (1, vI p1)] ⟨rfl, rfl, trivial⟩ ?_
 intro j a hr
 refine sr ?_
 refine o1 hr (vB false) fun a hr => ?_
 refine ln ?_
 refine sr ?_
 refine oo [5, 6, 7] [pN, vB false, vB false] hr fun a hr => ?_
 refine offl (rfl : false = false) [8, 9] hr fun a hr => ?_
 refine oo [10, 11] [vB false, vB false] hr fun a hr => ?_
 refine offl (rfl : false = false) [12, 13, 14, 15, 16, 17, 18] hr fun a hr => ?_
 refine oo [19, 20] [vB false, vB false] hr fun a hr => ?_
 refine offl (rfl : false = false) [21, 22, 23, 24, 25, 26, 27, 28, 29] hr fun a hr => ?_
 refine oo [30, 4] [vB false, vB false] hr fun a hr => ?_
 refine ln ?_
 refine wp_ret ?_
 refine end_ret1 (v := vB false) rfl hr (by kernel_rfl) ?_
 replace H := ej1 H; subst H
 exact ⟨rfl, h⟩

/-- (*plunder/worker.World).Holds -/
def worker_World_Holds_nil (p1 : Int) : Option (Int) :=
  some (-1)

theorem worker_World_Holds_nil_ok {z w : World} {L : List HProp} {p1 r0 : Int} (H : worker_World_Holds_nil p1 = some r0) (h : Fit z (sepL (L)) w)  :
    Calls Tryd.prog 19 #[pN, vI p1] w fun e w => e = .returned (vI r0) ∧ Fit z (sepL (L)) w := by
 unfold worker_World_Holds_nil at H
 refine enter Tryd.func19 rfl 28 rfl rfl [(0, pN), (1, vI p1)] ⟨rfl, rfl, trivial⟩ ?_
 intro j a hr
 refine sr ?_
 refine o1 hr (vI 0) fun a hr => ?_
 refine ln ?_
 refine wp_seq ?_
 refine sr ?_
 refine oo [5, 6, 7] [pN, vB true, vB true] hr fun a hr => ?_
 refine offl (rfl : true = true) [8, 9] hr fun a hr => ?_
 refine oo [10, 11] [vB true, vB true] hr fun a hr => ?_
 refine offl (rfl : true = true) [12, 13, 14, 15, 16, 17, 18] hr fun a hr => ?_
 refine o1 hr (vB true) fun a hr => ?_
 refine ln ?_
 refine cond_tt hr (b := true) rfl ?_
 refine sr ?_
 refine o1 hr (vI (-1)) fun a hr => ?_
 refine ln ?_
 refine wp_ret ?_
 refine then_ret ?_
 refine end_ret1 (v := vI (-1)) rfl hr (by kernel_rfl) ?_
 replace H := ej1 H; subst H
 exact ⟨rfl, h⟩

def plunderlaw11_WorkerNews_l1 (K : Nat) (p1 : T_plunderlaw11_Case) (S48 : T_cells_Arena) (S50 : T_worker_World) (r88 : T_plunderref11_World) : Nat → Int → Option ((Unit) ⊕ (Bool))
  | 0, _ => none
  | k1 + 1, g112 => (if g112 < p1.Workers then ob1 (worker_World_Halted S50 S48 g112) (fun r114 => (if r114 = true then some (.inr false) else ob1 (worker_World_Holds S50 S48 g112) (fun r117 => ob1 (plunderref11_World_Holds r88 p1.P_Funcs ([] : List Int) g112) (fun r119 => (if r117 = r119 then (plunderlaw11_WorkerNews_l1 K p1 S48 S50 r88 k1 (wi (g112 + 1))) else some (.inr false)))))) else some (.inl ()))
def plunderlaw11_WorkerNews_l2 (K : Nat) (p1 : T_plunderlaw11_Case) (r162 : T_plunderref11_World) : Nat → Int → Option ((Unit) ⊕ (Bool))
  | 0, _ => none
  | k2 + 1, g186 => (if g186 < p1.Workers then ob1 (worker_World_Halted_nil g186) (fun r188 => (if r188 = true then some (.inr false) else ob1 (worker_World_Holds_nil g186) (fun r191 => ob1 (plunderref11_World_Holds r162 p1.P_Funcs ([] : List Int) g186) (fun r193 => (if r191 = r193 then (plunderlaw11_WorkerNews_l2 K p1 r162 k2 (wi (g186 + 1))) else some (.inr false)))))) else some (.inl ()))
/-- plunder/plunderlaw11.WorkerNews -/
def plunderlaw11_WorkerNews (K : Nat) (p0 : Int) (p1 : T_plunderlaw11_Case) : Option (Bool) :=
  ob1 (worker_New (⟨p1.P_Funcs⟩ : T_api_Program) p1.Args p1.Workers (⟨p1.Lim_Frames, p1.Lim_First, p1.Lim_Most⟩ : T_api_Limits)) (fun r2 => (if r2 = 1 then jn0 ((if p0 < 0 then some (.inr true) else (if p0 > 1048576 then some (.inr true) else some (.inl ())))) (ob2 (cells_New p0) (fun r9 r10 => (match r9 with | some S12 => ob1 (plunderref11_Refused K (⟨p1.P_Funcs⟩ : T_api_Program) p1.Args p1.Workers (⟨p1.Lim_Frames, p1.Lim_First, p1.Lim_Most⟩ : T_api_Limits)) (fun r18 => ob1 ((if r18 = 0 then ob1 (plunderlaw11_first p1.Workers (⟨p1.Lim_Frames, p1.Lim_First, p1.Lim_Most⟩ : T_api_Limits)) (fun r24 => (if p0 < r24 then some 22 else some r18)) else some r18)) (fun g20 => ob1 (cells_Arena_Watch S12 true) (fun S27 => ob1 (plunderlaw11_twin K p1) (fun r33 => ob3 (worker_New_iface K S27 (⟨r33.P_Funcs⟩ : T_api_Program) r33.Args r33.Workers (⟨r33.Lim_Frames, r33.Lim_First, r33.Lim_Most⟩ : T_api_Limits)) (fun r46 r47 S48 => (match r46 with | some S50 => jn0 ((if r47 = g20 then (if false = (r47 != 0) then ob1 (plunderlaw11_unchanged K r33 p1) (fun r70 => (if r70 = true then some (.inl ()) else some (.inr false))) else some (.inr false)) else some (.inr false))) (ob1 (cells_Arena_Log S48) (fun r73 => jn0 ((if r47 = 0 then some (.inl ()) else (if r47 = 22 then some (.inl ()) else some (.inr (((r73.length : Nat) : Int) == 0))))) (ob1 (plunderlaw11_laid K p0 p1.Workers (⟨p1.Lim_Frames, p1.Lim_First, p1.Lim_Most⟩ : T_api_Limits)) (fun r80 => ob1 (plunderlaw11_sameLog K r73 r80) (fun r84 => (if r84 = true then (if r47 = 0 then ob1 (plunderref11_New K (⟨p1.P_Funcs⟩ : T_api_Program) p1.Args p1.Workers (⟨p1.Lim_Frames, p1.Lim_First, p1.Lim_Most⟩ : T_api_Limits) ([] : List Int)) (fun r88 => ob1 (cells_Arena_Cells S48) (fun r101 => ob1 (plunderlaw11_sameCells K r101 r88.Cells) (fun r104 => (if r104 = true then ob2 (worker_World_Result S50 S48) (fun r107 r108 => jn0 ((plunderlaw11_WorkerNews_l1 K p1 S48 S50 r88 K 0)) ((if r108 = true then some false else ob1 (worker_World_Holds S50 S48 (-1)) (fun r123 => (if r123 = (-1) then ob1 (worker_World_Holds S50 S48 p1.Workers) (fun r126 => (if r126 = (-1) then ob1 (worker_World_Halted S50 S48 (-1)) (fun r129 => (if r129 = true then some false else ob1 (worker_World_Halted S50 S48 p1.Workers) (fun r132 => some (!r132)))) else some false)) else some false))))) else some false)))) else some true) else some false)))))) | none => jn0 ((if r47 = g20 then (if true = (r47 != 0) then ob1 (plunderlaw11_unchanged K r33 p1) (fun r144 => (if r144 = true then some (.inl ()) else some (.inr false))) else some (.inr false)) else some (.inr false))) (ob1 (cells_Arena_Log S48) (fun r147 => jn0 ((if r47 = 0 then some (.inl ()) else (if r47 = 22 then some (.inl ()) else some (.inr (((r147.length : Nat) : Int) == 0))))) (ob1 (plunderlaw11_laid K p0 p1.Workers (⟨p1.Lim_Frames, p1.Lim_First, p1.Lim_Most⟩ : T_api_Limits)) (fun r154 => ob1 (plunderlaw11_sameLog K r147 r154) (fun r158 => (if r158 = true then (if r47 = 0 then ob1 (plunderref11_New K (⟨p1.P_Funcs⟩ : T_api_Program) p1.Args p1.Workers (⟨p1.Lim_Frames, p1.Lim_First, p1.Lim_Most⟩ : T_api_Limits) ([] : List Int)) (fun r162 => ob1 (cells_Arena_Cells S48) (fun r175 => ob1 (plunderlaw11_sameCells K r175 r162.Cells) (fun r178 => (if r178 = true then ob2 (worker_World_Result_nil) (fun r181 r182 => jn0 ((plunderlaw11_WorkerNews_l2 K p1 r162 K 0)) ((if r182 = true then some false else ob1 (worker_World_Holds_nil (-1)) (fun r197 => (if r197 = (-1) then ob1 (worker_World_Holds_nil p1.Workers) (fun r200 => (if r200 = (-1) then ob1 (worker_World_Halted_nil (-1)) (fun r203 => (if r203 = true then some false else ob1 (worker_World_Halted_nil p1.Workers) (fun r206 => some (!r206)))) else some false)) else some false))))) else some false)))) else some true) else some false)))))))))))) | none => some false))) else some false))

theorem plunderlaw11_WorkerNews_ok {z w : World} {L : List HProp} {K : Nat} {p0 : Int} {p1 : T_plunderlaw11_Case} {va1_P_Funcs va1_Args va1_S_Picks va1_S_Draws : Option Addr} {vc1_P_Funcs vc1_Args vc1_S_Picks vc1_S_Draws : Nat} {hs1_P_Funcs : Nat → Option Addr × Nat} {r0 : Bool} (H : plunderlaw11_WorkerNews K p0 p1 = some r0) (h : Fit z (sepL (L)) w) (hv1_P_Funcs : Rd76 L va1_P_Funcs hs1_P_Funcs p1.P_Funcs) (hv1_Args : RdRow L 1 encZ_i64 va1_Args p1.Args) (hv1_S_Picks : RdRow L 1 encZ_i64 va1_S_Picks p1.S_Picks) (hv1_S_Draws : RdRow L 1 encZ_i64 va1_S_Draws p1.S_Draws) (hg0 : RdRow L 5 enc_T_anon155 (some ⟨0, 0, none⟩) gl0) :
    Calls Tryd.prog 3 #[vI p0, .agg #[.slice va1_P_Funcs p1.P_Funcs.length vc1_P_Funcs, .slice va1_Args p1.Args.length vc1_Args, vI p1.Workers, vI p1.Lim_Frames, vI p1.Lim_First, vI p1.Lim_Most, .slice va1_S_Picks p1.S_Picks.length vc1_S_Picks, .slice va1_S_Draws p1.S_Draws.length vc1_S_Draws]] w fun e w => e = .returned (vB r0) ∧ Fit z (sepL (L)) w := by
 unfold plunderlaw11_WorkerNews at H
 refine enter Tryd.func3 rfl 187 rfl rfl [(0, vI p0), (1, .agg #[.slice va1_P_Funcs p1.P_Funcs.length vc1_P_Funcs, .slice va1_Args p1.Args.length vc1_Args, vI p1.Workers, vI p1.Lim_Frames, vI p1.Lim_First, vI p1.Lim_Most, .slice va1_S_Picks p1.S_Picks.length vc1_S_Picks, .slice va1_S_Draws p1.S_Draws.length vc1_S_Draws])] ⟨rfl, rfl, trivial⟩ ?_
 intro j a hr
 refine sr ?_
 refine onew (wn rfl) hr h nb (#[.slice va1_P_Funcs p1.P_Funcs.length vc1_P_Funcs, .slice va1_Args p1.Args.length vc1_Args, vI p1.Workers, vI p1.Lim_Frames, vI p1.Lim_First, vI p1.Lim_Most, .slice va1_S_Picks p1.S_Picks.length vc1_S_Picks, .slice va1_S_Draws p1.S_Draws.length vc1_S_Draws]) 32 fun b1 w a h hr => ?_
 refine o1 hr (vB false) fun a hr => ?_
 refine ln ?_
 refine sr ?_
 refine o1 hr (pA b1 0) fun a hr => ?_
 refine ldm (wn rfl) hr (.agg #[.slice va1_P_Funcs p1.P_Funcs.length vc1_P_Funcs]) (cs := [.slice va1_P_Funcs p1.P_Funcs.length vc1_P_Funcs]) ⟨h.cell 0 rfl, trivial⟩ fun a hr => ?_
 refine o1 hr (pA b1 1) fun a hr => ?_
 refine ld (wn rfl) hr (.slice va1_Args p1.Args.length vc1_Args) (h.cell 1 rfl) fun a hr => ?_
 refine o1 hr (pA b1 2) fun a hr => ?_
 refine ld (wn rfl) hr (vI p1.Workers) (h.cell 2 rfl) fun a hr => ?_
 refine o1 hr (pA b1 3) fun a hr => ?_
 refine ldm (wn rfl) hr (.agg #[vI p1.Lim_Frames, vI p1.Lim_First, vI p1.Lim_Most]) (cs := [vI p1.Lim_Frames, vI p1.Lim_First, vI p1.Lim_Most]) (h.held 3 rfl) fun a hr => ?_
 obtain ⟨r2, e3, H⟩ := bd1 H
 have hc := worker_New_ok (va2 := va1_Args) (vc2 := vc1_Args) (hv2 := (RdRow.up 1 hv1_Args)) (va1_Funcs := va1_P_Funcs) (vc1_Funcs := vc1_P_Funcs) (hv1_Funcs := (RdN.up 1 hv1_P_Funcs)) (hs1_Funcs := hs1_P_Funcs) (H := e3) (h := h)
 refine cl (wn rfl) hr hc ?_; clear hc h
 rintro _ w ⟨rfl, h⟩; refine ⟨_, rfl, fun a hr => ?_⟩
 refine oo [18, 28, 29, 5, 6] [.tuple #[pN, vI r2], pN, vI r2, pN, vI r2] hr fun a hr => ?_
 refine ln ?_
 refine wp_seq ?_
 refine sr ?_
 refine oo [30, 31] [vI r2, vB (r2 != 1)] hr fun a hr => ?_
 refine ln ?_
 refine cN hr H (fun c4 H => ?_) fun c4 H => ?_
 ·
  refine wp_skip ?_
  refine then_normal ?_
  obtain ⟨o6, H, hK5⟩ := jd0 H
  refine cut_rule (β := Unit) (fun _ a w => .inl () = o6 ∧ ∃ j, Rep 187 (lk [(0, vI p0), (3, pA b1 0)] j) a ∧ Fit z (sepL (ob32 b1 p1 va1_P_Funcs vc1_P_Funcs va1_Args vc1_Args va1_S_Picks vc1_S_Picks va1_S_Draws vc1_S_Draws :: L)) w) ?_ ?_
  ·
   refine sr ?_
   refine oo [32, 33, 34] [vI p0, vB (decide (p0 < 0)), vB (decide (p0 < 0))] hr fun a hr => ?_
   by_cases c7 : p0 < 0
   ·
    replace H := ifT c7 H
    refine offl (decide_eq_true c7) [35, 36] hr fun a hr => ?_
    refine opv (wn rfl) hr (vB true) (rp_t (b := (decide (p0 < 0))) rfl (by kernel_rfl) (decide_eq_true c7) (by kernel_rfl)) fun a hr => ?_
    refine ln ?_
    refine cond_tt hr (b := true) rfl ?_
    refine sr ?_
    refine o1 hr (vB true) fun a hr => ?_
    refine ln ?_
    refine wp_ret ?_
    refine then_ret ?_
    refine end_ret1 (v := vB true) rfl hr (by kernel_rfl) ?_
    replace H := jx0 H hK5
    replace H := ej1 H; subst H
    exact ⟨rfl, h.se 1 []⟩
   ·
    replace H := ifF c7 H
    refine onl (decide_eq_false c7) [35, 36] [vI p0, vB (decide (p0 > 1048576))] hr fun a hr => ?_
    refine opv (wn rfl) hr (vB (decide (p0 > 1048576))) (rp_f (b := (decide (p0 < 0))) rfl (by kernel_rfl) (decide_eq_false c7) (by kernel_rfl)) fun a hr => ?_
    refine ln ?_
    refine cD hr H (fun c8 H => ?_) fun c8 H => ?_
    ·
     refine sr ?_
     refine o1 hr (vB true) fun a hr => ?_
     refine ln ?_
     refine wp_ret ?_
     refine then_ret ?_
     refine end_ret1 (v := vB true) rfl hr (by kernel_rfl) ?_
     replace H := jx0 H hK5
     replace H := ej1 H; subst H
     exact ⟨rfl, h.se 1 []⟩
    ·
     refine wp_skip ?_
     refine then_normal ?_
     exact ⟨(), sinj H, hr.fj h⟩
  clear h hr a; rintro _ a w ⟨rfl, j, hr, h⟩
  replace H := jk0 hK5
  refine sr ?_
  obtain ⟨r9, r10, e11, H⟩ := bd2 H
  refine o1 hr (vI p0) fun a hr => ?_
  cases r9 with
  | some S12 =>
   have hc := cells_New_ok0 (H := e11) (h := h)
   refine cl (wn rfl) hr hc ?_; clear hc h
   rintro _ w ⟨Bn13, car14, ccr15, car16, ccr17, rfl, h⟩; refine ⟨_, rfl, fun a hr => ?_⟩
   refine oo [38, 41, 42, 7, 8] [.tuple #[pA Bn13 0, vI r10], pA Bn13 0, vI r10, pA Bn13 0, vI r10] hr fun a hr => ?_
   refine ln ?_
   refine wp_seq ?_
   refine sr ?_
   refine oo [43, 44] [pA Bn13 0, vB false] hr fun a hr => ?_
   refine ln ?_
   refine cond_ff hr (b := false) rfl ?_
   refine wp_skip ?_
   refine then_normal ?_
   refine sr ?_
   refine o1 hr (pA b1 0) fun a hr => ?_
   refine ldm (wn rfl) hr (.agg #[.slice va1_P_Funcs p1.P_Funcs.length vc1_P_Funcs]) (cs := [.slice va1_P_Funcs p1.P_Funcs.length vc1_P_Funcs]) ⟨(h.pick 3).cell 0 rfl, trivial⟩ fun a hr => ?_
   refine o1 hr (pA b1 1) fun a hr => ?_
   refine ld (wn rfl) hr (.slice va1_Args p1.Args.length vc1_Args) ((h.pick 3).cell 1 rfl) fun a hr => ?_
   refine o1 hr (pA b1 2) fun a hr => ?_
   refine ld (wn rfl) hr (vI p1.Workers) ((h.pick 3).cell 2 rfl) fun a hr => ?_
   refine o1 hr (pA b1 3) fun a hr => ?_
   refine ldm (wn rfl) hr (.agg #[vI p1.Lim_Frames, vI p1.Lim_First, vI p1.Lim_Most]) (cs := [vI p1.Lim_Frames, vI p1.Lim_First, vI p1.Lim_Most]) ((h.pick 3).held 3 rfl) fun a hr => ?_
   obtain ⟨r18, e19, H⟩ := bd1 H
   have hc := plunderref11_Refused_ok (va1 := va1_Args) (vc1 := vc1_Args) (hv1 := (RdRow.up 4 hv1_Args)) (va0_Funcs := va1_P_Funcs) (vc0_Funcs := vc1_P_Funcs) (hv0_Funcs := (RdN.up 4 hv1_P_Funcs)) (hs0_Funcs := hs1_P_Funcs) (H := e19) (h := h)
   refine cl (wn rfl) hr hc ?_; clear hc h
   rintro _ w ⟨rfl, h⟩; refine ⟨_, rfl, fun a hr => ?_⟩
   refine o1 hr (vI r18) fun a hr => ?_
   refine ln ?_
   obtain ⟨o22, H, hK21⟩ := kd1 H
   refine cut_rule (β := Unit) (fun _ a w => ∃ g20 : Int, g20 = o22 ∧ ∃ j, Rep 187 (lk [(0, vI p0), (3, pA b1 0), (7, pA Bn13 0), (9, vI g20)] j) a ∧ Fit z (sepL (ob32 b1 p1 va1_P_Funcs vc1_P_Funcs va1_Args vc1_Args va1_S_Picks vc1_S_Picks va1_S_Draws vc1_S_Draws :: ob102 Bn13 S12 car14 ccr15 car16 ccr17 :: ro2 car14 ccr15 S12.cell :: ro111 car16 ccr17 S12.log :: L)) w) ?_ ?_
   ·
    refine sr ?_
    refine oo [54, 55, 56] [vI r18, vB (r18 == 0), vB (r18 == 0)] hr fun a hr => ?_
    by_cases c23 : r18 = 0
    ·
     replace H := ifT c23 H
     refine onl (beq_iff_eq.mpr c23) [57, 58] [vI p0, pA b1 2] hr fun a hr => ?_
     refine ld (wgt hr (beq_iff_eq.mpr c23)) hr (vI p1.Workers) ((h.pick 3).cell 2 rfl) fun a hr => ?_
     refine onl (beq_iff_eq.mpr c23) [60] [pA b1 3] hr fun a hr => ?_
     refine ldm (wgt hr (beq_iff_eq.mpr c23)) hr (.agg #[vI p1.Lim_Frames, vI p1.Lim_First, vI p1.Lim_Most]) (cs := [vI p1.Lim_Frames, vI p1.Lim_First, vI p1.Lim_Most]) ((h.pick 3).held 3 rfl) fun a hr => ?_
     obtain ⟨r24, e25, H⟩ := bd1 H
     have hc := plunderlaw11_first_ok (H := e25) (h := h)
     refine cl (wgt hr (beq_iff_eq.mpr c23)) hr hc ?_; clear hc h
     rintro _ w ⟨rfl, h⟩; refine ⟨_, rfl, fun a hr => ?_⟩
     refine onl (beq_iff_eq.mpr c23) [63] [vB (decide (p0 < r24))] hr fun a hr => ?_
     refine opv (wn rfl) hr (vB (decide (p0 < r24))) (rp_t (b := (r18 == 0)) rfl (by kernel_rfl) (beq_iff_eq.mpr c23) (by kernel_rfl)) fun a hr => ?_
     refine ln ?_
     refine cD hr H (fun c26 H => ?_) fun c26 H => ?_
     ·
      refine wp_region_lit ?_
      refine o1 hr (vI 22) fun a hr => ?_
      refine ln ?_
      exact ⟨(), 22, sinj H, hr.fj (h.se 4 [3, 0, 1, 2])⟩
     ·
      refine wp_skip ?_
      refine then_normal ?_
      exact ⟨(), r18, sinj H, hr.fj (h.se 4 [3, 0, 1, 2])⟩
    ·
     replace H := ifF c23 H
     refine offl (beq_eq_false_iff_ne.mpr c23) [57, 58, 59, 60, 61, 62, 63] hr fun a hr => ?_
     refine opv (wn rfl) hr (vB false) (rp_f (b := (r18 == 0)) rfl (by kernel_rfl) (beq_eq_false_iff_ne.mpr c23) (by kernel_rfl)) fun a hr => ?_
     refine ln ?_
     refine cond_ff hr (b := false) rfl ?_
     refine wp_skip ?_
     refine then_normal ?_
     exact ⟨(), r18, sinj H, hr.fj (h.se 4 [3, 0, 1, 2])⟩
   clear h hr a; rintro _ a w ⟨g20, rfl, j, hr, h⟩
   replace H := kk1 hK21
   refine sr ?_
   obtain ⟨S27, e28, H⟩ := bd1 H
   refine o1 hr (pA Bn13 0) fun a hr => ?_
   replace h := h.m3.m3.m3
   have hc := cells_Arena_Watch_ok (H := e28) (h := h)
   refine cl (wn rfl) hr hc ?_; clear hc h
   rintro _ w ⟨caq29, ccq30, caq31, ccq32, rfl, h⟩; refine ⟨_, rfl, fun a hr => ?_⟩
   refine ln ?_
   refine sr ?_
   refine ldm (wn rfl) hr (.agg #[.slice va1_P_Funcs p1.P_Funcs.length vc1_P_Funcs, .slice va1_Args p1.Args.length vc1_Args, vI p1.Workers, vI p1.Lim_Frames, vI p1.Lim_First, vI p1.Lim_Most, .slice va1_S_Picks p1.S_Picks.length vc1_S_Picks, .slice va1_S_Draws p1.S_Draws.length vc1_S_Draws]) (cs := [.slice va1_P_Funcs p1.P_Funcs.length vc1_P_Funcs, .slice va1_Args p1.Args.length vc1_Args, vI p1.Workers, vI p1.Lim_Frames, vI p1.Lim_First, vI p1.Lim_Most, .slice va1_S_Picks p1.S_Picks.length vc1_S_Picks, .slice va1_S_Draws p1.S_Draws.length vc1_S_Draws]) ((h.pick 3).held 0 rfl) fun a hr => ?_
   obtain ⟨r33, e34, H⟩ := bd1 H
   have hc := plunderlaw11_twin_ok (va0_P_Funcs := va1_P_Funcs) (vc0_P_Funcs := vc1_P_Funcs) (hv0_P_Funcs := (RdN.up 4 hv1_P_Funcs)) (va0_Args := va1_Args) (vc0_Args := vc1_Args) (hv0_Args := (RdRow.up 4 hv1_Args)) (va0_S_Picks := va1_S_Picks) (vc0_S_Picks := vc1_S_Picks) (hv0_S_Picks := (RdRow.up 4 hv1_S_Picks)) (va0_S_Draws := va1_S_Draws) (vc0_S_Draws := vc1_S_Draws) (hv0_S_Draws := (RdRow.up 4 hv1_S_Draws)) (hs0_P_Funcs := hs1_P_Funcs) (H := e34) (h := h)
   refine cl (wn rfl) hr hc ?_; clear hc h
   rintro _ w ⟨car35, ccr36, car37, ccr38, car39, ccr40, car41, ccr42, rfl, h⟩; refine ⟨_, rfl, fun a hr => ?_⟩
   refine onew (wn rfl) hr h nb (#[.slice none 0 0, .slice none 0 0, vI 0, vI 0, vI 0, vI 0, .slice none 0 0, .slice none 0 0]) 32 fun b43 w a h hr => ?_
   refine stm (wn rfl) hr h 0 ([.slice car35 r33.P_Funcs.length ccr36, .slice car37 r33.Args.length ccr38, vI r33.Workers, vI r33.Lim_Frames, vI r33.Lim_First, vI r33.Lim_Most, .slice car39 r33.S_Picks.length ccr40, .slice car41 r33.S_Draws.length ccr42]) (ob32 b43 r33 car35 ccr36 car37 ccr38 car39 ccr40 car41 ccr42) fun w h => ?_
   refine ln ?_
   refine sr ?_
   refine oo [70, 71, 72] [pA Bn13 0, .iface 37 (pA Bn13 0), pA b43 0] hr fun a hr => ?_
   refine ldm (wn rfl) hr (.agg #[.slice car35 r33.P_Funcs.length ccr36]) (cs := [.slice car35 r33.P_Funcs.length ccr36]) ⟨h.cell 0 rfl, trivial⟩ fun a hr => ?_
   refine o1 hr (pA b43 1) fun a hr => ?_
   refine ld (wn rfl) hr (.slice car37 r33.Args.length ccr38) (h.cell 1 rfl) fun a hr => ?_
   refine o1 hr (pA b43 2) fun a hr => ?_
   refine ld (wn rfl) hr (vI r33.Workers) (h.cell 2 rfl) fun a hr => ?_
   refine o1 hr (pA b43 3) fun a hr => ?_
   refine ldm (wn rfl) hr (.agg #[vI r33.Lim_Frames, vI r33.Lim_First, vI r33.Lim_Most]) (cs := [vI r33.Lim_Frames, vI r33.Lim_First, vI r33.Lim_Most]) (h.held 3 rfl) fun a hr => ?_
   replace h := h.m1
   obtain ⟨lf44, ef45, h⟩ := rowN_fix (cn := cn76) (I := 108) (szI := 5) (encI := enc_T_api_Instr) (fld := T_api_Func.Code) (fun h => own_T_api_Func_op h) h
   obtain ⟨r46, r47, S48, e49, H⟩ := bd3 H
   cases r46 with
   | some S50 =>
    replace h := h.m7.m7.m7
    have hc := worker_New_iface_ok0 (va2 := car37) (vc2 := ccr38) (hv2 := (RdRow.of_row encZ_i64_ok (h.pick 5) (fun h => (h.pick 2)))) (va1_Funcs := car35) (vc1_Funcs := ccr36) (hv1_Funcs := (RdN.cast (RdN.of_rowP enc_T_api_Instr_ok (by decide) (h.pick 3) (fun h => h)) ef45)) (hg0 := RdRow.up 6 hg0) (hs1_Funcs := (fun i_ => (at_ lf44 i_).2)) (H := e49) (h := h)
    refine cl (wn rfl) hr hc ?_; clear hc h
    rintro _ w ⟨Bn51, car52, ccr53, car54, ccr55, car56, ccr57, car58, ccr59, caq60, ccq61, caq62, ccq63, rfl, h⟩; refine ⟨_, rfl, fun a hr => ?_⟩
    replace h := h.m8
    replace h := rowN_unfix (own := own_T_api_Func) (fun h => own_T_api_Func_sh h) h ef45
    refine oo [69, 81, 82, 11, 12] [.tuple #[pA Bn51 0, vI r47], pA Bn51 0, vI r47, pA Bn51 0, vI r47] hr fun a hr => ?_
    refine ln ?_
    obtain ⟨o65, H, hK64⟩ := jd0 H
    refine cut_rule (β := Unit) (fun _ a w => .inl () = o65 ∧ ∃ j, Rep 187 (lk [(0, vI p0), (3, pA b1 0), (7, pA Bn13 0), (11, pA Bn51 0), (12, vI r47)] j) a ∧ Fit z (sepL (ob32 b1 p1 va1_P_Funcs vc1_P_Funcs va1_Args vc1_Args va1_S_Picks vc1_S_Picks va1_S_Draws vc1_S_Draws :: ob102 Bn13 S48 caq60 ccq61 caq62 ccq63 :: ro2 caq60 ccq61 S48.cell :: ro111 caq62 ccq63 S48.log :: ob73 Bn51 S50 (.iface 37 (pA Bn13 0)) car52 ccr53 car54 ccr55 car56 ccr57 car58 ccr59 :: rn76 car52 ccr53 S50.code :: ro84 car54 ccr55 S50.deques :: ro80 car56 ccr57 S50.tasks :: ro97 Bn51 car58 ccr59 S50.workers :: L)) w) ?_ ?_
    ·
     refine sr ?_
     refine oo [83, 84, 85, 86] [vI r47, vI g20, vB (r47 != g20), vB (r47 != g20)] hr fun a hr => ?_
     by_cases c66 : r47 = g20
     ·
      replace H := ifT c66 H
      refine onl (bne_eq_false_iff_eq.mpr c66) [87, 88, 89, 90, 91] [pA Bn51 0, vB false, vI r47, vB (r47 != 0), vB (!(false == (r47 != 0)))] hr fun a hr => ?_
      refine opv (wn rfl) hr (vB (!(false == (r47 != 0)))) (rp_f (b := (r47 != g20)) rfl (by kernel_rfl) (bne_eq_false_iff_eq.mpr c66) (by kernel_rfl)) fun a hr => ?_
      refine o1 hr (vB (!(false == (r47 != 0)))) fun a hr => ?_
      by_cases c67 : false = (r47 != 0)
      ·
       replace H := ifT c67 H
       refine ldm (wgt hr (x := !(false == (r47 != 0))) (c := false) (by rw [show (false == (r47 != 0)) = true from (beq_iff_eq.mpr c67)]; rfl)) hr (.agg #[.slice car35 r33.P_Funcs.length ccr36, .slice car37 r33.Args.length ccr38, vI r33.Workers, vI r33.Lim_Frames, vI r33.Lim_First, vI r33.Lim_Most, .slice car39 r33.S_Picks.length ccr40, .slice car41 r33.S_Draws.length ccr42]) (cs := [.slice car35 r33.P_Funcs.length ccr36, .slice car37 r33.Args.length ccr38, vI r33.Workers, vI r33.Lim_Frames, vI r33.Lim_First, vI r33.Lim_Most, .slice car39 r33.S_Picks.length ccr40, .slice car41 r33.S_Draws.length ccr42]) ((h.pick 9).held 0 rfl) fun a hr => ?_
       refine ldm (wgt hr (x := !(false == (r47 != 0))) (c := false) (by rw [show (false == (r47 != 0)) = true from (beq_iff_eq.mpr c67)]; rfl)) hr (.agg #[.slice va1_P_Funcs p1.P_Funcs.length vc1_P_Funcs, .slice va1_Args p1.Args.length vc1_Args, vI p1.Workers, vI p1.Lim_Frames, vI p1.Lim_First, vI p1.Lim_Most, .slice va1_S_Picks p1.S_Picks.length vc1_S_Picks, .slice va1_S_Draws p1.S_Draws.length vc1_S_Draws]) (cs := [.slice va1_P_Funcs p1.P_Funcs.length vc1_P_Funcs, .slice va1_Args p1.Args.length vc1_Args, vI p1.Workers, vI p1.Lim_Frames, vI p1.Lim_First, vI p1.Lim_Most, .slice va1_S_Picks p1.S_Picks.length vc1_S_Picks, .slice va1_S_Draws p1.S_Draws.length vc1_S_Draws]) ((h.pick 13).held 0 rfl) fun a hr => ?_
       obtain ⟨lf68, ef69, h⟩ := rowN_fix (cn := cn76) (I := 108) (szI := 5) (encI := enc_T_api_Instr) (fld := T_api_Func.Code) (fun h => own_T_api_Func_op h) h
       obtain ⟨r70, e71, H⟩ := bd1 H
       have hc := plunderlaw11_unchanged_ok (va0_P_Funcs := car35) (vc0_P_Funcs := ccr36) (hv0_P_Funcs := (RdN.cast (RdN.of_rowP enc_T_api_Instr_ok (by decide) h (fun h => h)) ef69)) (va0_Args := car37) (vc0_Args := ccr38) (hv0_Args := (RdRow.of_row encZ_i64_ok (h.pick 10) (fun h => (h.pick 10)))) (va0_S_Picks := car39) (vc0_S_Picks := ccr40) (hv0_S_Picks := (RdRow.of_row encZ_i64_ok (h.pick 11) (fun h => (h.pick 11)))) (va0_S_Draws := car41) (vc0_S_Draws := ccr42) (hv0_S_Draws := (RdRow.of_row encZ_i64_ok (h.pick 12) (fun h => (h.pick 12)))) (va1_P_Funcs := va1_P_Funcs) (vc1_P_Funcs := vc1_P_Funcs) (hv1_P_Funcs := (RdN.up 14 hv1_P_Funcs)) (va1_Args := va1_Args) (vc1_Args := vc1_Args) (hv1_Args := (RdRow.up 14 hv1_Args)) (va1_S_Picks := va1_S_Picks) (vc1_S_Picks := vc1_S_Picks) (hv1_S_Picks := (RdRow.up 14 hv1_S_Picks)) (va1_S_Draws := va1_S_Draws) (vc1_S_Draws := vc1_S_Draws) (hv1_S_Draws := (RdRow.up 14 hv1_S_Draws)) (hs0_P_Funcs := (fun i_ => (at_ lf68 i_).2)) (hs1_P_Funcs := hs1_P_Funcs) (H := e71) (h := h)
       refine cl (wgt hr (x := !(false == (r47 != 0))) (c := false) (by rw [show (false == (r47 != 0)) = true from (beq_iff_eq.mpr c67)]; rfl)) hr hc ?_; clear hc h
       rintro _ w ⟨rfl, h⟩; refine ⟨_, rfl, fun a hr => ?_⟩
       replace h := rowN_unfix (own := own_T_api_Func) (fun h => own_T_api_Func_sh h) h ef69
       refine onl (show (!(false == (r47 != 0))) = false from (by rw [show (false == (r47 != 0)) = true from (beq_iff_eq.mpr c67)]; rfl)) [97] [vB (!r70)] hr fun a hr => ?_
       refine opv (wn rfl) hr (vB (!r70)) (rp_f (b := (!(false == (r47 != 0)))) rfl (by kernel_rfl) (by rw [show (false == (r47 != 0)) = true from (beq_iff_eq.mpr c67)]; rfl) (by kernel_rfl)) fun a hr => ?_
       refine ln ?_
       refine cM hr H (fun c72 H => ?_) fun c72 H => ?_
       ·
        refine wp_skip ?_
        refine then_normal ?_
        exact ⟨(), sinj H, hr.fj (h.se 14 [13, 1, 2, 3, 4, 5, 6, 7, 8])⟩
       ·
        refine sr ?_
        refine o1 hr (vB false) fun a hr => ?_
        refine ln ?_
        refine wp_ret ?_
        refine then_ret ?_
        refine end_ret1 (v := vB false) rfl hr (by kernel_rfl) ?_
        replace H := jx0 H hK64
        replace H := ej1 H; subst H
        exact ⟨rfl, h.se 14 []⟩
      ·
       replace H := ifF c67 H
       refine offl (show (!(false == (r47 != 0))) = true from (by rw [show (false == (r47 != 0)) = false from (beq_eq_false_iff_ne.mpr c67)]; rfl)) [94, 95, 96, 97] hr fun a hr => ?_
       refine opv (wn rfl) hr (vB true) (rp_t (b := (!(false == (r47 != 0)))) rfl (by kernel_rfl) (by rw [show (false == (r47 != 0)) = false from (beq_eq_false_iff_ne.mpr c67)]; rfl) (by kernel_rfl)) fun a hr => ?_
       refine ln ?_
       refine cond_tt hr (b := true) rfl ?_
       refine sr ?_
       refine o1 hr (vB false) fun a hr => ?_
       refine ln ?_
       refine wp_ret ?_
       refine then_ret ?_
       refine end_ret1 (v := vB false) rfl hr (by kernel_rfl) ?_
       replace H := jx0 H hK64
       replace H := ej1 H; subst H
       exact ⟨rfl, h.se 14 []⟩
     ·
      replace H := ifF c66 H
      refine offl (bne_iff_ne.mpr c66) [87, 88, 89, 90, 91] hr fun a hr => ?_
      refine opv (wn rfl) hr (vB true) (rp_t (b := (r47 != g20)) rfl (by kernel_rfl) (bne_iff_ne.mpr c66) (by kernel_rfl)) fun a hr => ?_
      refine o1 hr (vB true) fun a hr => ?_
      refine offl (rfl : true = true) [94, 95, 96, 97] hr fun a hr => ?_
      refine o1 hr (vB true) fun a hr => ?_
      refine ln ?_
      refine cond_tt hr (b := true) rfl ?_
      refine sr ?_
      refine o1 hr (vB false) fun a hr => ?_
      refine ln ?_
      refine wp_ret ?_
      refine then_ret ?_
      refine end_ret1 (v := vB false) rfl hr (by kernel_rfl) ?_
      replace H := jx0 H hK64
      replace H := ej1 H; subst H
      exact ⟨rfl, h.se 14 []⟩
    clear h hr a; rintro _ a w ⟨rfl, j, hr, h⟩
    replace H := jk0 hK64
    refine sr ?_
    obtain ⟨r73, e74, H⟩ := bd1 H
    refine o1 hr (pA Bn13 0) fun a hr => ?_
    replace h := h.m3.m3.m3
    have hc := cells_Arena_Log_ok (H := e74) (h := h)
    refine cl (wn rfl) hr hc ?_; clear hc h
    rintro _ w ⟨car75, rfl, h⟩; refine ⟨_, rfl, fun a hr => ?_⟩
    refine o1 hr (.slice car75 r73.length r73.length) fun a hr => ?_
    refine ln ?_
    obtain ⟨o77, H, hK76⟩ := jd0 H
    refine cut_rule (β := Unit) (fun _ a w => .inl () = o77 ∧ ∃ j, Rep 187 (lk [(0, vI p0), (3, pA b1 0), (7, pA Bn13 0), (11, pA Bn51 0), (12, vI r47), (13, .slice car75 r73.length r73.length)] j) a ∧ Fit z (sepL (ob32 b1 p1 va1_P_Funcs vc1_P_Funcs va1_Args vc1_Args va1_S_Picks vc1_S_Picks va1_S_Draws vc1_S_Draws :: ob102 Bn13 S48 caq60 ccq61 caq62 ccq63 :: ro2 caq60 ccq61 S48.cell :: ro111 caq62 ccq63 S48.log :: ob73 Bn51 S50 (.iface 37 (pA Bn13 0)) car52 ccr53 car54 ccr55 car56 ccr57 car58 ccr59 :: rn76 car52 ccr53 S50.code :: ro84 car54 ccr55 S50.deques :: ro80 car56 ccr57 S50.tasks :: ro97 Bn51 car58 ccr59 S50.workers :: ro111 car75 r73.length r73 :: L)) w) ?_ ?_
    ·
     refine sr ?_
     refine oo [101, 102, 103] [vI r47, vB (r47 != 0), vB (r47 != 0)] hr fun a hr => ?_
     by_cases c78 : r47 = 0
     ·
      replace H := ifT c78 H
      refine offl (bne_eq_false_iff_eq.mpr c78) [104, 105] hr fun a hr => ?_
      refine opv (wn rfl) hr (vB false) (rp_f (b := (r47 != 0)) rfl (by kernel_rfl) (bne_eq_false_iff_eq.mpr c78) (by kernel_rfl)) fun a hr => ?_
      refine ln ?_
      refine cond_ff hr (b := false) rfl ?_
      refine wp_skip ?_
      refine then_normal ?_
      exact ⟨(), sinj H, hr.fj (h.se 10 [4, 0, 1, 2, 5, 6, 7, 8, 9, 3])⟩
     ·
      replace H := ifF c78 H
      refine onl (bne_iff_ne.mpr c78) [104, 105] [vI r47, vB (r47 != 22)] hr fun a hr => ?_
      refine opv (wn rfl) hr (vB (r47 != 22)) (rp_t (b := (r47 != 0)) rfl (by kernel_rfl) (bne_iff_ne.mpr c78) (by kernel_rfl)) fun a hr => ?_
      refine ln ?_
      refine cN hr H (fun c79 H => ?_) fun c79 H => ?_
      ·
       refine wp_skip ?_
       refine then_normal ?_
       exact ⟨(), sinj H, hr.fj (h.se 10 [4, 0, 1, 2, 5, 6, 7, 8, 9, 3])⟩
      ·
       refine sr ?_
       refine oo [107, 108, 109, 4] [.slice car75 r73.length r73.length, vI ((r73.length : Nat) : Int), vB (((r73.length : Nat) : Int) == 0), vB (((r73.length : Nat) : Int) == 0)] hr fun a hr => ?_
       refine ln ?_
       refine wp_ret ?_
       refine then_ret ?_
       refine end_ret1 (v := vB (((r73.length : Nat) : Int) == 0)) rfl hr (by kernel_rfl) ?_
       replace H := jx0 H hK76
       replace H := ej1 H; subst H
       exact ⟨rfl, h.se 10 []⟩
    clear h hr a; rintro _ a w ⟨rfl, j, hr, h⟩
    replace H := jk0 hK76
    refine wp_seq ?_
    refine sr ?_
    refine oo [110, 111, 112] [.slice car75 r73.length r73.length, vI p0, pA b1 2] hr fun a hr => ?_
    refine ld (wn rfl) hr (vI p1.Workers) (h.cell 2 rfl) fun a hr => ?_
    refine o1 hr (pA b1 3) fun a hr => ?_
    refine ldm (wn rfl) hr (.agg #[vI p1.Lim_Frames, vI p1.Lim_First, vI p1.Lim_Most]) (cs := [vI p1.Lim_Frames, vI p1.Lim_First, vI p1.Lim_Most]) (h.held 3 rfl) fun a hr => ?_
    obtain ⟨r80, e81, H⟩ := bd1 H
    have hc := plunderlaw11_laid_ok (H := e81) (h := h)
    refine cl (wn rfl) hr hc ?_; clear hc h
    rintro _ w ⟨car82, ccr83, rfl, h⟩; refine ⟨_, rfl, fun a hr => ?_⟩
    obtain ⟨r84, e85, H⟩ := bd1 H
    have hc := plunderlaw11_sameLog_ok (va0 := car75) (vc0 := r73.length) (va1 := car82) (vc1 := ccr83) (hv0 := (RdRow.of_row enc_T_api_Access_ok (h.pick 10) (fun h => (h.pick 10)))) (hv1 := (RdRow.of_row enc_T_api_Access_ok h (fun h => h))) (H := e85) (h := h)
    refine cl (wn rfl) hr hc ?_; clear hc h
    rintro _ w ⟨rfl, h⟩; refine ⟨_, rfl, fun a hr => ?_⟩
    refine o1 hr (vB (!r84)) fun a hr => ?_
    refine ln ?_
    refine cM hr H (fun c86 H => ?_) fun c86 H => ?_
    ·
     refine wp_skip ?_
     refine then_normal ?_
     refine wp_seq ?_
     refine sr ?_
     refine oo [119, 120] [vI r47, vB (r47 != 0)] hr fun a hr => ?_
     refine ln ?_
     refine cN hr H (fun c87 H => ?_) fun c87 H => ?_
     ·
      refine wp_skip ?_
      refine then_normal ?_
      refine sr ?_
      refine o1 hr (pA b1 0) fun a hr => ?_
      refine ldm (wn rfl) hr (.agg #[.slice va1_P_Funcs p1.P_Funcs.length vc1_P_Funcs]) (cs := [.slice va1_P_Funcs p1.P_Funcs.length vc1_P_Funcs]) ⟨(h.pick 1).cell 0 rfl, trivial⟩ fun a hr => ?_
      refine o1 hr (pA b1 1) fun a hr => ?_
      refine ld (wn rfl) hr (.slice va1_Args p1.Args.length vc1_Args) ((h.pick 1).cell 1 rfl) fun a hr => ?_
      refine o1 hr (pA b1 2) fun a hr => ?_
      refine ld (wn rfl) hr (vI p1.Workers) ((h.pick 1).cell 2 rfl) fun a hr => ?_
      refine o1 hr (pA b1 3) fun a hr => ?_
      refine ldm (wn rfl) hr (.agg #[vI p1.Lim_Frames, vI p1.Lim_First, vI p1.Lim_Most]) (cs := [vI p1.Lim_Frames, vI p1.Lim_First, vI p1.Lim_Most]) ((h.pick 1).held 3 rfl) fun a hr => ?_
      obtain ⟨r88, e89, H⟩ := bd1 H
      have hc := plunderref11_New_ok (va1 := va1_Args) (vc1 := vc1_Args) (va4 := none) (vc4 := 0) (hv1 := (RdRow.up 11 hv1_Args)) (hv4 := RdRow.nil) (va0_Funcs := va1_P_Funcs) (vc0_Funcs := vc1_P_Funcs) (hv0_Funcs := (RdN.up 11 hv1_P_Funcs)) (hs0_Funcs := hs1_P_Funcs) (H := e89) (h := h)
      refine cl (wn rfl) hr hc ?_; clear hc h
      rintro _ w ⟨Bn90, car91, ccr92, car93, ccr94, car95, ccr96, car97, ccr98, car99, ccr100, rfl, h⟩; refine ⟨_, rfl, fun a hr => ?_⟩
      refine o1 hr (pA Bn90 0) fun a hr => ?_
      refine ln ?_
      refine wp_seq ?_
      refine wp_seq ?_
      obtain ⟨r101, e102, H⟩ := bd1 H
      obtain ⟨r104, e105, H⟩ := bd1 H
      refine regL [(Bn90, 5, [.slice car91 r88.Cells.length ccr92])] [1, 3, 4] 8 h (fun h => ⟨⟨h.cell 5 rfl, trivial⟩, trivial⟩) fun w h hd => ?_
      refine evs' hd 4 [(0, 130, pA Bn13 0), (2, 132, pA Bn90 0), (3, 133, pA Bn90 0), (4, 134, pA Bn90 5)] hr fun a hr => ?_
      refine elx hd 0 3 5 hr (wn rfl) rfl rfl fun a hr => ?_
      refine eo1 1 rfl ?_
      replace h := h.m10.m10.m10
      have hc := cells_Arena_Cells_ok (H := e102) (h := h)
      refine cl (wn rfl) hr hc ?_; clear hc h
      rintro _ w ⟨car103, rfl, h⟩; refine ⟨_, rfl, fun a hr => ?_⟩
      refine ln ?_
      refine eE ⟨⟨(h.pick 4).cell 5 rfl, trivial⟩, trivial⟩ fun hd => ?_
      refine eo1 6 rfl ?_
      have hc := plunderlaw11_sameCells_ok (va0 := car103) (vc0 := r101.length) (va1 := car91) (vc1 := ccr92) (hv0 := (RdRow.of_row encZ_i64_ok (h.pick 3) (fun h => (h.pick 3)))) (hv1 := (RdRow.of_row encZ_i64_ok (h.pick 5) (fun h => (h.pick 5)))) (H := e105) (h := h)
      refine cl (wn rfl) hr hc ?_; clear hc h
      rintro _ w ⟨rfl, h⟩; refine ⟨_, rfl, fun a hr => ?_⟩
      refine ln ?_
      refine xE ?_
      refine evs 0 7 rfl (wn rfl) hr (vB (!r104)) fun a hr => ?_
      refine een ?_
      refine then_normal ?_
      refine cM hr H (fun c106 H => ?_) fun c106 H => ?_
      ·
       refine wp_skip ?_
       refine then_normal ?_
       refine sr ?_
       obtain ⟨r107, r108, e109, H⟩ := bd2 H
       refine o1 hr (pA Bn51 0) fun a hr => ?_
       replace h := h.m2.m2.m2.m16.m16.m16.m16.m16
       have hc := worker_World_Result_ok (H := e109) (h := h)
       refine cl (wn rfl) hr hc ?_; clear hc h
       rintro _ w ⟨rfl, h⟩; refine ⟨_, rfl, fun a hr => ?_⟩
       refine oo [138, 141, 142, 15, 16] [.tuple #[vI r107, vB r108], vI r107, vB r108, vI r107, vB r108] hr fun a hr => ?_
       refine ln ?_
       obtain ⟨o111, H, hK110⟩ := jd0 H
       refine cut_rule (β := Unit) (fun _ a w => .inl () = o111 ∧ ∃ j, Rep 187 (lk [(3, pA b1 0), (11, pA Bn51 0), (16, vB r108)] j) a ∧ Fit z (sepL (ob32 b1 p1 va1_P_Funcs vc1_P_Funcs va1_Args vc1_Args va1_S_Picks vc1_S_Picks va1_S_Draws vc1_S_Draws :: ob73 Bn51 S50 (.iface 37 (pA Bn13 0)) car52 ccr53 car54 ccr55 car56 ccr57 car58 ccr59 :: ob102 Bn13 S48 caq60 ccq61 caq62 ccq63 :: ro2 caq60 ccq61 S48.cell :: ro111 caq62 ccq63 S48.log :: rn76 car52 ccr53 S50.code :: ro84 car54 ccr55 S50.deques :: ro80 car56 ccr57 S50.tasks :: ro97 Bn51 car58 ccr59 S50.workers :: L)) w) ?_ ?_
       ·
        refine sr ?_
        refine o1 hr (vI 0) fun a hr => ?_
        refine ln ?_
        refine wp_block ?_
        refine loop_rule (β := Nat) id (fun m a w => ∃ g112 : Int, (plunderlaw11_WorkerNews_l1 K p1 S48 S50 r88 m g112) = some o111 ∧ ∃ j, Rep 187 (lk [(3, pA b1 0), (11, pA Bn51 0), (14, pA Bn90 0), (16, vB r108), (17, vI g112)] j) a ∧ Fit z (sepL (ob32 b1 p1 va1_P_Funcs vc1_P_Funcs va1_Args vc1_Args va1_S_Picks vc1_S_Picks va1_S_Draws vc1_S_Draws :: ob73 Bn51 S50 (.iface 37 (pA Bn13 0)) car52 ccr53 car54 ccr55 car56 ccr57 car58 ccr59 :: ob102 Bn13 S48 caq60 ccq61 caq62 ccq63 :: ro2 caq60 ccq61 S48.cell :: ro111 caq62 ccq63 S48.log :: rn76 car52 ccr53 S50.code :: ro84 car54 ccr55 S50.deques :: ro80 car56 ccr57 S50.tasks :: ro97 Bn51 car58 ccr59 S50.workers :: ob57 Bn90 r88 (.slice va1_P_Funcs p1.P_Funcs.length vc1_P_Funcs) car91 ccr92 car93 ccr94 car95 ccr96 car97 ccr98 car99 ccr100 (.slice none ([] : List Int).length 0) :: ro2 car91 ccr92 r88.Cells :: rn117 car93 ccr94 r88.Frames :: ro115 car95 ccr96 r88.Workers :: ro190 car97 ccr98 r88.Events :: ro111 car99 ccr100 r88.Log :: L)) w) K ⟨0, H, hr.fj (h.se 18 [16, 0, 5, 6, 7, 1, 2, 3, 4, 9, 10, 11, 12, 13, 14])⟩ ?_
        clear h hr a H; rintro k1 a w ⟨g112, H, j, hr, h⟩
        cases k1 with
        | zero => exact absurd H (by simp [plunderlaw11_WorkerNews_l1])
        | succ k1 =>
         rw [plunderlaw11_WorkerNews_l1] at H
         refine wp_seq ?_
         refine sr ?_
         refine oo [143, 144] [vI g112, pA b1 2] hr fun a hr => ?_
         refine ld (wn rfl) hr (vI p1.Workers) (h.cell 2 rfl) fun a hr => ?_
         refine o1 hr (vB (decide (g112 < p1.Workers))) fun a hr => ?_
         refine ln ?_
         refine cD hr H (fun c113 H => ?_) fun c113 H => ?_
         ·
          refine wp_skip ?_
          refine then_normal ?_
          refine wp_seq ?_
          refine wp_block ?_
          refine sr ?_
          obtain ⟨r114, e115, H⟩ := bd1 H
          refine oo [149, 150] [pA Bn51 0, vI g112] hr fun a hr => ?_
          replace h := h.m4.m4.m4.m8.m8.m8.m8.m8
          have hc := worker_World_Halted_ok (H := e115) (h := h)
          refine cl (wn rfl) hr hc ?_; clear hc h
          rintro _ w ⟨rfl, h⟩; refine ⟨_, rfl, fun a hr => ?_⟩
          refine o1 hr (vB r114) fun a hr => ?_
          by_cases c116 : r114 = true
          ·
           replace H := ifT c116 H
           refine offl (c116) [153, 154, 155, 156, 157, 158, 159] hr fun a hr => ?_
           refine opv (wn rfl) hr (vB true) (rp_t (b := r114) rfl (by kernel_rfl) (c116) (by kernel_rfl)) fun a hr => ?_
           refine ln ?_
           refine cond_tt hr (b := true) rfl ?_
           refine sr ?_
           refine o1 hr (vB false) fun a hr => ?_
           refine ln ?_
           refine wp_ret ?_
           refine blk_ret ?_
           refine then_ret ?_
           refine then_ret ?_
           refine blk_ret ?_
           refine then_ret ?_
           refine end_ret1 (v := vB false) rfl hr (by kernel_rfl) ?_
           replace H := jx0 H hK110
           replace H := ej1 H; subst H
           exact ⟨rfl, h.se 15 []⟩
          ·
           replace H := ifF c116 H
           obtain ⟨r117, e118, H⟩ := bd1 H
           refine onl (bF c116) [153, 154] [pA Bn51 0, vI g112] hr fun a hr => ?_
           have hc := worker_World_Holds_ok (H := e118) (h := h)
           refine cl (wgt hr (bF c116)) hr hc ?_; clear hc h
           rintro _ w ⟨rfl, h⟩; refine ⟨_, rfl, fun a hr => ?_⟩
           obtain ⟨r119, e120, H⟩ := bd1 H
           refine onl (bF c116) [156, 157] [pA Bn90 0, vI g112] hr fun a hr => ?_
           replace h := h.m14.m14.m14.m14.m14.m14
           have hc := plunderref11_World_Holds_ok (va0_P_Funcs := va1_P_Funcs) (vc0_P_Funcs := vc1_P_Funcs) (hv0_P_Funcs := (RdN.up 9 hv1_P_Funcs)) (va0_Draws := none) (vc0_Draws := 0) (hv0_Draws := RdRow.nil) (hs0_P_Funcs := hs1_P_Funcs) (H := e120) (h := h)
           refine cl (wgt hr (bF c116)) hr hc ?_; clear hc h
           rintro _ w ⟨rfl, h⟩; refine ⟨_, rfl, fun a hr => ?_⟩
           refine onl (bF c116) [159] [vB (r117 != r119)] hr fun a hr => ?_
           refine opv (wn rfl) hr (vB (r117 != r119)) (rp_f (b := r114) rfl (by kernel_rfl) (bF c116) (by kernel_rfl)) fun a hr => ?_
           refine ln ?_
           refine cN hr H (fun c121 H => ?_) fun c121 H => ?_
           ·
            refine wp_skip ?_
            refine blk_normal ?_
            refine then_normal ?_
            refine wp_region_lit ?_
            refine oo [147, 148, 17] [vI g112, vI (wi (g112 + 1)), vI (wi (g112 + 1))] hr fun a hr => ?_
            refine ln ?_
            exact ⟨_, ⟨(wi (g112 + 1)), H, hr.fj (h.se 15 [14, 6, 11, 12, 13, 7, 8, 9, 10, 0, 1, 2, 3, 4, 5])⟩, Nat.lt_succ_self _⟩
           ·
            refine sr ?_
            refine o1 hr (vB false) fun a hr => ?_
            refine ln ?_
            refine wp_ret ?_
            refine blk_ret ?_
            refine then_ret ?_
            refine then_ret ?_
            refine blk_ret ?_
            refine then_ret ?_
            refine end_ret1 (v := vB false) rfl hr (by kernel_rfl) ?_
            replace H := jx0 H hK110
            replace H := ej1 H; subst H
            exact ⟨rfl, h.se 15 []⟩
         ·
          refine wp_exit ?_
          refine then_exit ?_
          refine then_exit ?_
          refine blk_here ?_
          refine then_normal ?_
          exact ⟨(), sinj H, hr.fj (h.se 15 [0, 1, 2, 3, 4, 5, 6, 7, 8])⟩
       clear h hr a; rintro _ a w ⟨rfl, j, hr, h⟩
       replace H := jk0 hK110
       refine sr ?_
       refine oo [161, 162, 163] [vB r108, vB (!r108), vB (!r108)] hr fun a hr => ?_
       by_cases c122 : r108 = true
       ·
        replace H := ifT c122 H
        refine offl (show (!r108) = false from (by rw [show r108 = true from (c122)]; rfl)) [164, 165, 166] hr fun a hr => ?_
        refine opv (wn rfl) hr (vB false) (rp_f (b := (!r108)) rfl (by kernel_rfl) (by rw [show r108 = true from (c122)]; rfl) (by kernel_rfl)) fun a hr => ?_
        refine o1 hr (vB false) fun a hr => ?_
        refine offl (rfl : false = false) [169, 170, 171, 172, 173] hr fun a hr => ?_
        refine oo [174, 175] [vB false, vB false] hr fun a hr => ?_
        refine offl (rfl : false = false) [176, 177, 178] hr fun a hr => ?_
        refine oo [179, 180] [vB false, vB false] hr fun a hr => ?_
        refine offl (rfl : false = false) [181, 182, 183, 184, 185] hr fun a hr => ?_
        refine oo [186, 4] [vB false, vB false] hr fun a hr => ?_
        refine ln ?_
        refine wp_ret ?_
        refine end_ret1 (v := vB false) rfl hr (by kernel_rfl) ?_
        replace H := ej1 H; subst H
        exact ⟨rfl, h.se 9 []⟩
       ·
        replace H := ifF c122 H
        obtain ⟨r123, e124, H⟩ := bd1 H
        refine onl (show (!r108) = true from (by rw [show r108 = false from (bF c122)]; rfl)) [164] [pA Bn51 0] hr fun a hr => ?_
        replace h := h.m4.m4.m4.m8.m8.m8.m8.m8
        have hc := worker_World_Holds_ok (H := e124) (h := h)
        refine cl (wgt hr (x := !r108) (c := true) (by rw [show r108 = false from (bF c122)]; rfl)) hr hc ?_; clear hc h
        rintro _ w ⟨rfl, h⟩; refine ⟨_, rfl, fun a hr => ?_⟩
        refine onl (show (!r108) = true from (by rw [show r108 = false from (bF c122)]; rfl)) [166] [vB (r123 == (-1))] hr fun a hr => ?_
        refine opv (wn rfl) hr (vB (r123 == (-1))) (rp_t (b := (!r108)) rfl (by kernel_rfl) (by rw [show r108 = false from (bF c122)]; rfl) (by kernel_rfl)) fun a hr => ?_
        refine o1 hr (vB (r123 == (-1))) fun a hr => ?_
        by_cases c125 : r123 = (-1)
        ·
         replace H := ifT c125 H
         refine onl (beq_iff_eq.mpr c125) [169, 170] [pA Bn51 0, pA b1 2] hr fun a hr => ?_
         refine ld (wgt hr (beq_iff_eq.mpr c125)) hr (vI p1.Workers) ((h.pick 8).cell 2 rfl) fun a hr => ?_
         obtain ⟨r126, e127, H⟩ := bd1 H
         have hc := worker_World_Holds_ok (H := e127) (h := h)
         refine cl (wgt hr (beq_iff_eq.mpr c125)) hr hc ?_; clear hc h
         rintro _ w ⟨rfl, h⟩; refine ⟨_, rfl, fun a hr => ?_⟩
         refine onl (beq_iff_eq.mpr c125) [173] [vB (r126 == (-1))] hr fun a hr => ?_
         refine opv (wn rfl) hr (vB (r126 == (-1))) (rp_t (b := (r123 == (-1))) rfl (by kernel_rfl) (beq_iff_eq.mpr c125) (by kernel_rfl)) fun a hr => ?_
         refine o1 hr (vB (r126 == (-1))) fun a hr => ?_
         by_cases c128 : r126 = (-1)
         ·
          replace H := ifT c128 H
          obtain ⟨r129, e130, H⟩ := bd1 H
          refine onl (beq_iff_eq.mpr c128) [176] [pA Bn51 0] hr fun a hr => ?_
          have hc := worker_World_Halted_ok (H := e130) (h := h)
          refine cl (wgt hr (beq_iff_eq.mpr c128)) hr hc ?_; clear hc h
          rintro _ w ⟨rfl, h⟩; refine ⟨_, rfl, fun a hr => ?_⟩
          refine onl (beq_iff_eq.mpr c128) [178] [vB (!r129)] hr fun a hr => ?_
          refine opv (wn rfl) hr (vB (!r129)) (rp_t (b := (r126 == (-1))) rfl (by kernel_rfl) (beq_iff_eq.mpr c128) (by kernel_rfl)) fun a hr => ?_
          refine o1 hr (vB (!r129)) fun a hr => ?_
          by_cases c131 : r129 = true
          ·
           replace H := ifT c131 H
           refine offl (show (!r129) = false from (by rw [show r129 = true from (c131)]; rfl)) [181, 182, 183, 184, 185] hr fun a hr => ?_
           refine opv (wn rfl) hr (vB false) (rp_f (b := (!r129)) rfl (by kernel_rfl) (by rw [show r129 = true from (c131)]; rfl) (by kernel_rfl)) fun a hr => ?_
           refine o1 hr (vB false) fun a hr => ?_
           refine ln ?_
           refine wp_ret ?_
           refine end_ret1 (v := vB false) rfl hr (by kernel_rfl) ?_
           replace H := ej1 H; subst H
           exact ⟨rfl, h.se 9 []⟩
          ·
           replace H := ifF c131 H
           refine onl (show (!r129) = true from (by rw [show r129 = false from (bF c131)]; rfl)) [181, 182] [pA Bn51 0, pA b1 2] hr fun a hr => ?_
           refine ld (wgt hr (x := !r129) (c := true) (by rw [show r129 = false from (bF c131)]; rfl)) hr (vI p1.Workers) ((h.pick 8).cell 2 rfl) fun a hr => ?_
           obtain ⟨r132, e133, H⟩ := bd1 H
           have hc := worker_World_Halted_ok (H := e133) (h := h)
           refine cl (wgt hr (x := !r129) (c := true) (by rw [show r129 = false from (bF c131)]; rfl)) hr hc ?_; clear hc h
           rintro _ w ⟨rfl, h⟩; refine ⟨_, rfl, fun a hr => ?_⟩
           refine onl (show (!r129) = true from (by rw [show r129 = false from (bF c131)]; rfl)) [185] [vB (!r132)] hr fun a hr => ?_
           refine opv (wn rfl) hr (vB (!r132)) (rp_t (b := (!r129)) rfl (by kernel_rfl) (by rw [show r129 = false from (bF c131)]; rfl) (by kernel_rfl)) fun a hr => ?_
           refine o1 hr (vB (!r132)) fun a hr => ?_
           refine ln ?_
           refine wp_ret ?_
           refine end_ret1 (v := vB (!r132)) rfl hr (by kernel_rfl) ?_
           replace H := ej1 H; subst H
           exact ⟨rfl, h.se 9 []⟩
         ·
          replace H := ifF c128 H
          refine offl (beq_eq_false_iff_ne.mpr c128) [176, 177, 178] hr fun a hr => ?_
          refine opv (wn rfl) hr (vB false) (rp_f (b := (r126 == (-1))) rfl (by kernel_rfl) (beq_eq_false_iff_ne.mpr c128) (by kernel_rfl)) fun a hr => ?_
          refine o1 hr (vB false) fun a hr => ?_
          refine offl (rfl : false = false) [181, 182, 183, 184, 185] hr fun a hr => ?_
          refine oo [186, 4] [vB false, vB false] hr fun a hr => ?_
          refine ln ?_
          refine wp_ret ?_
          refine end_ret1 (v := vB false) rfl hr (by kernel_rfl) ?_
          replace H := ej1 H; subst H
          exact ⟨rfl, h.se 9 []⟩
        ·
         replace H := ifF c125 H
         refine offl (beq_eq_false_iff_ne.mpr c125) [169, 170, 171, 172, 173] hr fun a hr => ?_
         refine opv (wn rfl) hr (vB false) (rp_f (b := (r123 == (-1))) rfl (by kernel_rfl) (beq_eq_false_iff_ne.mpr c125) (by kernel_rfl)) fun a hr => ?_
         refine o1 hr (vB false) fun a hr => ?_
         refine offl (rfl : false = false) [176, 177, 178] hr fun a hr => ?_
         refine oo [179, 180] [vB false, vB false] hr fun a hr => ?_
         refine offl (rfl : false = false) [181, 182, 183, 184, 185] hr fun a hr => ?_
         refine oo [186, 4] [vB false, vB false] hr fun a hr => ?_
         refine ln ?_
         refine wp_ret ?_
         refine end_ret1 (v := vB false) rfl hr (by kernel_rfl) ?_
         replace H := ej1 H; subst H
         exact ⟨rfl, h.se 9 []⟩
      ·
       refine sr ?_
       refine o1 hr (vB false) fun a hr => ?_
       refine ln ?_
       refine wp_ret ?_
       refine then_ret ?_
       refine end_ret1 (v := vB false) rfl hr (by kernel_rfl) ?_
       replace H := ej1 H; subst H
       exact ⟨rfl, h.se 18 []⟩
     ·
      refine sr ?_
      refine o1 hr (vB true) fun a hr => ?_
      refine ln ?_
      refine wp_ret ?_
      refine then_ret ?_
      refine end_ret1 (v := vB true) rfl hr (by kernel_rfl) ?_
      replace H := ej1 H; subst H
      exact ⟨rfl, h.se 11 []⟩
    ·
     refine sr ?_
     refine o1 hr (vB false) fun a hr => ?_
     refine ln ?_
     refine wp_ret ?_
     refine then_ret ?_
     refine end_ret1 (v := vB false) rfl hr (by kernel_rfl) ?_
     replace H := ej1 H; subst H
     exact ⟨rfl, h.se 11 []⟩
   | none =>
    replace h := h.m7.m7.m7
    have hc := worker_New_iface_ok1 (va2 := car37) (vc2 := ccr38) (hv2 := (RdRow.of_row encZ_i64_ok (h.pick 5) (fun h => (h.pick 2)))) (va1_Funcs := car35) (vc1_Funcs := ccr36) (hv1_Funcs := (RdN.cast (RdN.of_rowP enc_T_api_Instr_ok (by decide) (h.pick 3) (fun h => h)) ef45)) (hg0 := RdRow.up 6 hg0) (hs1_Funcs := (fun i_ => (at_ lf44 i_).2)) (H := e49) (h := h)
    refine cl (wn rfl) hr hc ?_; clear hc h
    rintro _ w ⟨caq134, ccq135, caq136, ccq137, rfl, h⟩; refine ⟨_, rfl, fun a hr => ?_⟩
    replace h := h.m3
    replace h := rowN_unfix (own := own_T_api_Func) (fun h => own_T_api_Func_sh h) h ef45
    refine oo [69, 81, 82, 11, 12] [.tuple #[pN, vI r47], pN, vI r47, pN, vI r47] hr fun a hr => ?_
    refine ln ?_
    obtain ⟨o139, H, hK138⟩ := jd0 H
    refine cut_rule (β := Unit) (fun _ a w => .inl () = o139 ∧ ∃ j, Rep 187 (lk [(0, vI p0), (3, pA b1 0), (7, pA Bn13 0), (11, pN), (12, vI r47)] j) a ∧ Fit z (sepL (ob32 b1 p1 va1_P_Funcs vc1_P_Funcs va1_Args vc1_Args va1_S_Picks vc1_S_Picks va1_S_Draws vc1_S_Draws :: ob102 Bn13 S48 caq134 ccq135 caq136 ccq137 :: ro2 caq134 ccq135 S48.cell :: ro111 caq136 ccq137 S48.log :: L)) w) ?_ ?_
    ·
     refine sr ?_
     refine oo [83, 84, 85, 86] [vI r47, vI g20, vB (r47 != g20), vB (r47 != g20)] hr fun a hr => ?_
     by_cases c140 : r47 = g20
     ·
      replace H := ifT c140 H
      refine onl (bne_eq_false_iff_eq.mpr c140) [87, 88, 89, 90, 91] [pN, vB true, vI r47, vB (r47 != 0), vB (!(true == (r47 != 0)))] hr fun a hr => ?_
      refine opv (wn rfl) hr (vB (!(true == (r47 != 0)))) (rp_f (b := (r47 != g20)) rfl (by kernel_rfl) (bne_eq_false_iff_eq.mpr c140) (by kernel_rfl)) fun a hr => ?_
      refine o1 hr (vB (!(true == (r47 != 0)))) fun a hr => ?_
      by_cases c141 : true = (r47 != 0)
      ·
       replace H := ifT c141 H
       refine ldm (wgt hr (x := !(true == (r47 != 0))) (c := false) (by rw [show (true == (r47 != 0)) = true from (beq_iff_eq.mpr c141)]; rfl)) hr (.agg #[.slice car35 r33.P_Funcs.length ccr36, .slice car37 r33.Args.length ccr38, vI r33.Workers, vI r33.Lim_Frames, vI r33.Lim_First, vI r33.Lim_Most, .slice car39 r33.S_Picks.length ccr40, .slice car41 r33.S_Draws.length ccr42]) (cs := [.slice car35 r33.P_Funcs.length ccr36, .slice car37 r33.Args.length ccr38, vI r33.Workers, vI r33.Lim_Frames, vI r33.Lim_First, vI r33.Lim_Most, .slice car39 r33.S_Picks.length ccr40, .slice car41 r33.S_Draws.length ccr42]) ((h.pick 4).held 0 rfl) fun a hr => ?_
       refine ldm (wgt hr (x := !(true == (r47 != 0))) (c := false) (by rw [show (true == (r47 != 0)) = true from (beq_iff_eq.mpr c141)]; rfl)) hr (.agg #[.slice va1_P_Funcs p1.P_Funcs.length vc1_P_Funcs, .slice va1_Args p1.Args.length vc1_Args, vI p1.Workers, vI p1.Lim_Frames, vI p1.Lim_First, vI p1.Lim_Most, .slice va1_S_Picks p1.S_Picks.length vc1_S_Picks, .slice va1_S_Draws p1.S_Draws.length vc1_S_Draws]) (cs := [.slice va1_P_Funcs p1.P_Funcs.length vc1_P_Funcs, .slice va1_Args p1.Args.length vc1_Args, vI p1.Workers, vI p1.Lim_Frames, vI p1.Lim_First, vI p1.Lim_Most, .slice va1_S_Picks p1.S_Picks.length vc1_S_Picks, .slice va1_S_Draws p1.S_Draws.length vc1_S_Draws]) ((h.pick 8).held 0 rfl) fun a hr => ?_
       obtain ⟨lf142, ef143, h⟩ := rowN_fix (cn := cn76) (I := 108) (szI := 5) (encI := enc_T_api_Instr) (fld := T_api_Func.Code) (fun h => own_T_api_Func_op h) h
       obtain ⟨r144, e145, H⟩ := bd1 H
       have hc := plunderlaw11_unchanged_ok (va0_P_Funcs := car35) (vc0_P_Funcs := ccr36) (hv0_P_Funcs := (RdN.cast (RdN.of_rowP enc_T_api_Instr_ok (by decide) h (fun h => h)) ef143)) (va0_Args := car37) (vc0_Args := ccr38) (hv0_Args := (RdRow.of_row encZ_i64_ok (h.pick 5) (fun h => (h.pick 5)))) (va0_S_Picks := car39) (vc0_S_Picks := ccr40) (hv0_S_Picks := (RdRow.of_row encZ_i64_ok (h.pick 6) (fun h => (h.pick 6)))) (va0_S_Draws := car41) (vc0_S_Draws := ccr42) (hv0_S_Draws := (RdRow.of_row encZ_i64_ok (h.pick 7) (fun h => (h.pick 7)))) (va1_P_Funcs := va1_P_Funcs) (vc1_P_Funcs := vc1_P_Funcs) (hv1_P_Funcs := (RdN.up 9 hv1_P_Funcs)) (va1_Args := va1_Args) (vc1_Args := vc1_Args) (hv1_Args := (RdRow.up 9 hv1_Args)) (va1_S_Picks := va1_S_Picks) (vc1_S_Picks := vc1_S_Picks) (hv1_S_Picks := (RdRow.up 9 hv1_S_Picks)) (va1_S_Draws := va1_S_Draws) (vc1_S_Draws := vc1_S_Draws) (hv1_S_Draws := (RdRow.up 9 hv1_S_Draws)) (hs0_P_Funcs := (fun i_ => (at_ lf142 i_).2)) (hs1_P_Funcs := hs1_P_Funcs) (H := e145) (h := h)
       refine cl (wgt hr (x := !(true == (r47 != 0))) (c := false) (by rw [show (true == (r47 != 0)) = true from (beq_iff_eq.mpr c141)]; rfl)) hr hc ?_; clear hc h
       rintro _ w ⟨rfl, h⟩; refine ⟨_, rfl, fun a hr => ?_⟩
       replace h := rowN_unfix (own := own_T_api_Func) (fun h => own_T_api_Func_sh h) h ef143
       refine onl (show (!(true == (r47 != 0))) = false from (by rw [show (true == (r47 != 0)) = true from (beq_iff_eq.mpr c141)]; rfl)) [97] [vB (!r144)] hr fun a hr => ?_
       refine opv (wn rfl) hr (vB (!r144)) (rp_f (b := (!(true == (r47 != 0)))) rfl (by kernel_rfl) (by rw [show (true == (r47 != 0)) = true from (beq_iff_eq.mpr c141)]; rfl) (by kernel_rfl)) fun a hr => ?_
       refine ln ?_
       refine cM hr H (fun c146 H => ?_) fun c146 H => ?_
       ·
        refine wp_skip ?_
        refine then_normal ?_
        exact ⟨(), sinj H, hr.fj (h.se 9 [8, 1, 2, 3])⟩
       ·
        refine sr ?_
        refine o1 hr (vB false) fun a hr => ?_
        refine ln ?_
        refine wp_ret ?_
        refine then_ret ?_
        refine end_ret1 (v := vB false) rfl hr (by kernel_rfl) ?_
        replace H := jx0 H hK138
        replace H := ej1 H; subst H
        exact ⟨rfl, h.se 9 []⟩
      ·
       replace H := ifF c141 H
       refine offl (show (!(true == (r47 != 0))) = true from (by rw [show (true == (r47 != 0)) = false from (beq_eq_false_iff_ne.mpr c141)]; rfl)) [94, 95, 96, 97] hr fun a hr => ?_
       refine opv (wn rfl) hr (vB true) (rp_t (b := (!(true == (r47 != 0)))) rfl (by kernel_rfl) (by rw [show (true == (r47 != 0)) = false from (beq_eq_false_iff_ne.mpr c141)]; rfl) (by kernel_rfl)) fun a hr => ?_
       refine ln ?_
       refine cond_tt hr (b := true) rfl ?_
       refine sr ?_
       refine o1 hr (vB false) fun a hr => ?_
       refine ln ?_
       refine wp_ret ?_
       refine then_ret ?_
       refine end_ret1 (v := vB false) rfl hr (by kernel_rfl) ?_
       replace H := jx0 H hK138
       replace H := ej1 H; subst H
       exact ⟨rfl, h.se 9 []⟩
     ·
      replace H := ifF c140 H
      refine offl (bne_iff_ne.mpr c140) [87, 88, 89, 90, 91] hr fun a hr => ?_
      refine opv (wn rfl) hr (vB true) (rp_t (b := (r47 != g20)) rfl (by kernel_rfl) (bne_iff_ne.mpr c140) (by kernel_rfl)) fun a hr => ?_
      refine o1 hr (vB true) fun a hr => ?_
      refine offl (rfl : true = true) [94, 95, 96, 97] hr fun a hr => ?_
      refine o1 hr (vB true) fun a hr => ?_
      refine ln ?_
      refine cond_tt hr (b := true) rfl ?_
      refine sr ?_
      refine o1 hr (vB false) fun a hr => ?_
      refine ln ?_
      refine wp_ret ?_
      refine then_ret ?_
      refine end_ret1 (v := vB false) rfl hr (by kernel_rfl) ?_
      replace H := jx0 H hK138
      replace H := ej1 H; subst H
      exact ⟨rfl, h.se 9 []⟩
    clear h hr a; rintro _ a w ⟨rfl, j, hr, h⟩
    replace H := jk0 hK138
    refine sr ?_
    obtain ⟨r147, e148, H⟩ := bd1 H
    refine o1 hr (pA Bn13 0) fun a hr => ?_
    replace h := h.m3.m3.m3
    have hc := cells_Arena_Log_ok (H := e148) (h := h)
    refine cl (wn rfl) hr hc ?_; clear hc h
    rintro _ w ⟨car149, rfl, h⟩; refine ⟨_, rfl, fun a hr => ?_⟩
    refine o1 hr (.slice car149 r147.length r147.length) fun a hr => ?_
    refine ln ?_
    obtain ⟨o151, H, hK150⟩ := jd0 H
    refine cut_rule (β := Unit) (fun _ a w => .inl () = o151 ∧ ∃ j, Rep 187 (lk [(0, vI p0), (3, pA b1 0), (7, pA Bn13 0), (11, pN), (12, vI r47), (13, .slice car149 r147.length r147.length)] j) a ∧ Fit z (sepL (ob32 b1 p1 va1_P_Funcs vc1_P_Funcs va1_Args vc1_Args va1_S_Picks vc1_S_Picks va1_S_Draws vc1_S_Draws :: ob102 Bn13 S48 caq134 ccq135 caq136 ccq137 :: ro2 caq134 ccq135 S48.cell :: ro111 caq136 ccq137 S48.log :: ro111 car149 r147.length r147 :: L)) w) ?_ ?_
    ·
     refine sr ?_
     refine oo [101, 102, 103] [vI r47, vB (r47 != 0), vB (r47 != 0)] hr fun a hr => ?_
     by_cases c152 : r47 = 0
     ·
      replace H := ifT c152 H
      refine offl (bne_eq_false_iff_eq.mpr c152) [104, 105] hr fun a hr => ?_
      refine opv (wn rfl) hr (vB false) (rp_f (b := (r47 != 0)) rfl (by kernel_rfl) (bne_eq_false_iff_eq.mpr c152) (by kernel_rfl)) fun a hr => ?_
      refine ln ?_
      refine cond_ff hr (b := false) rfl ?_
      refine wp_skip ?_
      refine then_normal ?_
      exact ⟨(), sinj H, hr.fj (h.se 5 [4, 0, 1, 2, 3])⟩
     ·
      replace H := ifF c152 H
      refine onl (bne_iff_ne.mpr c152) [104, 105] [vI r47, vB (r47 != 22)] hr fun a hr => ?_
      refine opv (wn rfl) hr (vB (r47 != 22)) (rp_t (b := (r47 != 0)) rfl (by kernel_rfl) (bne_iff_ne.mpr c152) (by kernel_rfl)) fun a hr => ?_
      refine ln ?_
      refine cN hr H (fun c153 H => ?_) fun c153 H => ?_
      ·
       refine wp_skip ?_
       refine then_normal ?_
       exact ⟨(), sinj H, hr.fj (h.se 5 [4, 0, 1, 2, 3])⟩
      ·
       refine sr ?_
       refine oo [107, 108, 109, 4] [.slice car149 r147.length r147.length, vI ((r147.length : Nat) : Int), vB (((r147.length : Nat) : Int) == 0), vB (((r147.length : Nat) : Int) == 0)] hr fun a hr => ?_
       refine ln ?_
       refine wp_ret ?_
       refine then_ret ?_
       refine end_ret1 (v := vB (((r147.length : Nat) : Int) == 0)) rfl hr (by kernel_rfl) ?_
       replace H := jx0 H hK150
       replace H := ej1 H; subst H
       exact ⟨rfl, h.se 5 []⟩
    clear h hr a; rintro _ a w ⟨rfl, j, hr, h⟩
    replace H := jk0 hK150
    refine wp_seq ?_
    refine sr ?_
    refine oo [110, 111, 112] [.slice car149 r147.length r147.length, vI p0, pA b1 2] hr fun a hr => ?_
    refine ld (wn rfl) hr (vI p1.Workers) (h.cell 2 rfl) fun a hr => ?_
    refine o1 hr (pA b1 3) fun a hr => ?_
    refine ldm (wn rfl) hr (.agg #[vI p1.Lim_Frames, vI p1.Lim_First, vI p1.Lim_Most]) (cs := [vI p1.Lim_Frames, vI p1.Lim_First, vI p1.Lim_Most]) (h.held 3 rfl) fun a hr => ?_
    obtain ⟨r154, e155, H⟩ := bd1 H
    have hc := plunderlaw11_laid_ok (H := e155) (h := h)
    refine cl (wn rfl) hr hc ?_; clear hc h
    rintro _ w ⟨car156, ccr157, rfl, h⟩; refine ⟨_, rfl, fun a hr => ?_⟩
    obtain ⟨r158, e159, H⟩ := bd1 H
    have hc := plunderlaw11_sameLog_ok (va0 := car149) (vc0 := r147.length) (va1 := car156) (vc1 := ccr157) (hv0 := (RdRow.of_row enc_T_api_Access_ok (h.pick 5) (fun h => (h.pick 5)))) (hv1 := (RdRow.of_row enc_T_api_Access_ok h (fun h => h))) (H := e159) (h := h)
    refine cl (wn rfl) hr hc ?_; clear hc h
    rintro _ w ⟨rfl, h⟩; refine ⟨_, rfl, fun a hr => ?_⟩
    refine o1 hr (vB (!r158)) fun a hr => ?_
    refine ln ?_
    refine cM hr H (fun c160 H => ?_) fun c160 H => ?_
    ·
     refine wp_skip ?_
     refine then_normal ?_
     refine wp_seq ?_
     refine sr ?_
     refine oo [119, 120] [vI r47, vB (r47 != 0)] hr fun a hr => ?_
     refine ln ?_
     refine cN hr H (fun c161 H => ?_) fun c161 H => ?_
     ·
      refine wp_skip ?_
      refine then_normal ?_
      refine sr ?_
      refine o1 hr (pA b1 0) fun a hr => ?_
      refine ldm (wn rfl) hr (.agg #[.slice va1_P_Funcs p1.P_Funcs.length vc1_P_Funcs]) (cs := [.slice va1_P_Funcs p1.P_Funcs.length vc1_P_Funcs]) ⟨(h.pick 1).cell 0 rfl, trivial⟩ fun a hr => ?_
      refine o1 hr (pA b1 1) fun a hr => ?_
      refine ld (wn rfl) hr (.slice va1_Args p1.Args.length vc1_Args) ((h.pick 1).cell 1 rfl) fun a hr => ?_
      refine o1 hr (pA b1 2) fun a hr => ?_
      refine ld (wn rfl) hr (vI p1.Workers) ((h.pick 1).cell 2 rfl) fun a hr => ?_
      refine o1 hr (pA b1 3) fun a hr => ?_
      refine ldm (wn rfl) hr (.agg #[vI p1.Lim_Frames, vI p1.Lim_First, vI p1.Lim_Most]) (cs := [vI p1.Lim_Frames, vI p1.Lim_First, vI p1.Lim_Most]) ((h.pick 1).held 3 rfl) fun a hr => ?_
      obtain ⟨r162, e163, H⟩ := bd1 H
      have hc := plunderref11_New_ok (va1 := va1_Args) (vc1 := vc1_Args) (va4 := none) (vc4 := 0) (hv1 := (RdRow.up 6 hv1_Args)) (hv4 := RdRow.nil) (va0_Funcs := va1_P_Funcs) (vc0_Funcs := vc1_P_Funcs) (hv0_Funcs := (RdN.up 6 hv1_P_Funcs)) (hs0_Funcs := hs1_P_Funcs) (H := e163) (h := h)
      refine cl (wn rfl) hr hc ?_; clear hc h
      rintro _ w ⟨Bn164, car165, ccr166, car167, ccr168, car169, ccr170, car171, ccr172, car173, ccr174, rfl, h⟩; refine ⟨_, rfl, fun a hr => ?_⟩
      refine o1 hr (pA Bn164 0) fun a hr => ?_
      refine ln ?_
      refine wp_seq ?_
      refine wp_seq ?_
      obtain ⟨r175, e176, H⟩ := bd1 H
      obtain ⟨r178, e179, H⟩ := bd1 H
      refine regL [(Bn164, 5, [.slice car165 r162.Cells.length ccr166])] [1, 3, 4] 8 h (fun h => ⟨⟨h.cell 5 rfl, trivial⟩, trivial⟩) fun w h hd => ?_
      refine evs' hd 4 [(0, 130, pA Bn13 0), (2, 132, pA Bn164 0), (3, 133, pA Bn164 0), (4, 134, pA Bn164 5)] hr fun a hr => ?_
      refine elx hd 0 3 5 hr (wn rfl) rfl rfl fun a hr => ?_
      refine eo1 1 rfl ?_
      replace h := h.m10.m10.m10
      have hc := cells_Arena_Cells_ok (H := e176) (h := h)
      refine cl (wn rfl) hr hc ?_; clear hc h
      rintro _ w ⟨car177, rfl, h⟩; refine ⟨_, rfl, fun a hr => ?_⟩
      refine ln ?_
      refine eE ⟨⟨(h.pick 4).cell 5 rfl, trivial⟩, trivial⟩ fun hd => ?_
      refine eo1 6 rfl ?_
      have hc := plunderlaw11_sameCells_ok (va0 := car177) (vc0 := r175.length) (va1 := car165) (vc1 := ccr166) (hv0 := (RdRow.of_row encZ_i64_ok (h.pick 3) (fun h => (h.pick 3)))) (hv1 := (RdRow.of_row encZ_i64_ok (h.pick 5) (fun h => (h.pick 5)))) (H := e179) (h := h)
      refine cl (wn rfl) hr hc ?_; clear hc h
      rintro _ w ⟨rfl, h⟩; refine ⟨_, rfl, fun a hr => ?_⟩
      refine ln ?_
      refine xE ?_
      refine evs 0 7 rfl (wn rfl) hr (vB (!r178)) fun a hr => ?_
      refine een ?_
      refine then_normal ?_
      refine cM hr H (fun c180 H => ?_) fun c180 H => ?_
      ·
       refine wp_skip ?_
       refine then_normal ?_
       refine sr ?_
       obtain ⟨r181, r182, e183, H⟩ := bd2 H
       refine o1 hr (pN) fun a hr => ?_
       have hc := worker_World_Result_nil_ok (H := e183) (h := h)
       refine cl (wn rfl) hr hc ?_; clear hc h
       rintro _ w ⟨rfl, h⟩; refine ⟨_, rfl, fun a hr => ?_⟩
       refine oo [138, 141, 142, 15, 16] [.tuple #[vI r181, vB r182], vI r181, vB r182, vI r181, vB r182] hr fun a hr => ?_
       refine ln ?_
       obtain ⟨o185, H, hK184⟩ := jd0 H
       refine cut_rule (β := Unit) (fun _ a w => .inl () = o185 ∧ ∃ j, Rep 187 (lk [(3, pA b1 0), (11, pN), (16, vB r182)] j) a ∧ Fit z (sepL (ob32 b1 p1 va1_P_Funcs vc1_P_Funcs va1_Args vc1_Args va1_S_Picks vc1_S_Picks va1_S_Draws vc1_S_Draws :: L)) w) ?_ ?_
       ·
        refine sr ?_
        refine o1 hr (vI 0) fun a hr => ?_
        refine ln ?_
        refine wp_block ?_
        refine loop_rule (β := Nat) id (fun m a w => ∃ g186 : Int, (plunderlaw11_WorkerNews_l2 K p1 r162 m g186) = some o185 ∧ ∃ j, Rep 187 (lk [(3, pA b1 0), (11, pN), (14, pA Bn164 0), (16, vB r182), (17, vI g186)] j) a ∧ Fit z (sepL (ob32 b1 p1 va1_P_Funcs vc1_P_Funcs va1_Args vc1_Args va1_S_Picks vc1_S_Picks va1_S_Draws vc1_S_Draws :: ob57 Bn164 r162 (.slice va1_P_Funcs p1.P_Funcs.length vc1_P_Funcs) car165 ccr166 car167 ccr168 car169 ccr170 car171 ccr172 car173 ccr174 (.slice none ([] : List Int).length 0) :: ro2 car165 ccr166 r162.Cells :: rn117 car167 ccr168 r162.Frames :: ro115 car169 ccr170 r162.Workers :: ro190 car171 ccr172 r162.Events :: ro111 car173 ccr174 r162.Log :: L)) w) K ⟨0, H, hr.fj (h.se 13 [11, 4, 5, 6, 7, 8, 9])⟩ ?_
        clear h hr a H; rintro k2 a w ⟨g186, H, j, hr, h⟩
        cases k2 with
        | zero => exact absurd H (by simp [plunderlaw11_WorkerNews_l2])
        | succ k2 =>
         rw [plunderlaw11_WorkerNews_l2] at H
         refine wp_seq ?_
         refine sr ?_
         refine oo [143, 144] [vI g186, pA b1 2] hr fun a hr => ?_
         refine ld (wn rfl) hr (vI p1.Workers) (h.cell 2 rfl) fun a hr => ?_
         refine o1 hr (vB (decide (g186 < p1.Workers))) fun a hr => ?_
         refine ln ?_
         refine cD hr H (fun c187 H => ?_) fun c187 H => ?_
         ·
          refine wp_skip ?_
          refine then_normal ?_
          refine wp_seq ?_
          refine wp_block ?_
          refine sr ?_
          obtain ⟨r188, e189, H⟩ := bd1 H
          refine oo [149, 150] [pN, vI g186] hr fun a hr => ?_
          have hc := worker_World_Halted_nil_ok (H := e189) (h := h)
          refine cl (wn rfl) hr hc ?_; clear hc h
          rintro _ w ⟨rfl, h⟩; refine ⟨_, rfl, fun a hr => ?_⟩
          refine o1 hr (vB r188) fun a hr => ?_
          by_cases c190 : r188 = true
          ·
           replace H := ifT c190 H
           refine offl (c190) [153, 154, 155, 156, 157, 158, 159] hr fun a hr => ?_
           refine opv (wn rfl) hr (vB true) (rp_t (b := r188) rfl (by kernel_rfl) (c190) (by kernel_rfl)) fun a hr => ?_
           refine ln ?_
           refine cond_tt hr (b := true) rfl ?_
           refine sr ?_
           refine o1 hr (vB false) fun a hr => ?_
           refine ln ?_
           refine wp_ret ?_
           refine blk_ret ?_
           refine then_ret ?_
           refine then_ret ?_
           refine blk_ret ?_
           refine then_ret ?_
           refine end_ret1 (v := vB false) rfl hr (by kernel_rfl) ?_
           replace H := jx0 H hK184
           replace H := ej1 H; subst H
           exact ⟨rfl, h.se 7 []⟩
          ·
           replace H := ifF c190 H
           obtain ⟨r191, e192, H⟩ := bd1 H
           refine onl (bF c190) [153, 154] [pN, vI g186] hr fun a hr => ?_
           have hc := worker_World_Holds_nil_ok (H := e192) (h := h)
           refine cl (wgt hr (bF c190)) hr hc ?_; clear hc h
           rintro _ w ⟨rfl, h⟩; refine ⟨_, rfl, fun a hr => ?_⟩
           obtain ⟨r193, e194, H⟩ := bd1 H
           refine onl (bF c190) [156, 157] [pA Bn164 0, vI g186] hr fun a hr => ?_
           replace h := h.m6.m6.m6.m6.m6.m6
           have hc := plunderref11_World_Holds_ok (va0_P_Funcs := va1_P_Funcs) (vc0_P_Funcs := vc1_P_Funcs) (hv0_P_Funcs := (RdN.up 1 hv1_P_Funcs)) (va0_Draws := none) (vc0_Draws := 0) (hv0_Draws := RdRow.nil) (hs0_P_Funcs := hs1_P_Funcs) (H := e194) (h := h)
           refine cl (wgt hr (bF c190)) hr hc ?_; clear hc h
           rintro _ w ⟨rfl, h⟩; refine ⟨_, rfl, fun a hr => ?_⟩
           refine onl (bF c190) [159] [vB (r191 != r193)] hr fun a hr => ?_
           refine opv (wn rfl) hr (vB (r191 != r193)) (rp_f (b := r188) rfl (by kernel_rfl) (bF c190) (by kernel_rfl)) fun a hr => ?_
           refine ln ?_
           refine cN hr H (fun c195 H => ?_) fun c195 H => ?_
           ·
            refine wp_skip ?_
            refine blk_normal ?_
            refine then_normal ?_
            refine wp_region_lit ?_
            refine oo [147, 148, 17] [vI g186, vI (wi (g186 + 1)), vI (wi (g186 + 1))] hr fun a hr => ?_
            refine ln ?_
            exact ⟨_, ⟨(wi (g186 + 1)), H, hr.fj (h.se 7 [6, 0, 1, 2, 3, 4, 5])⟩, Nat.lt_succ_self _⟩
           ·
            refine sr ?_
            refine o1 hr (vB false) fun a hr => ?_
            refine ln ?_
            refine wp_ret ?_
            refine blk_ret ?_
            refine then_ret ?_
            refine then_ret ?_
            refine blk_ret ?_
            refine then_ret ?_
            refine end_ret1 (v := vB false) rfl hr (by kernel_rfl) ?_
            replace H := jx0 H hK184
            replace H := ej1 H; subst H
            exact ⟨rfl, h.se 7 []⟩
         ·
          refine wp_exit ?_
          refine then_exit ?_
          refine then_exit ?_
          refine blk_here ?_
          refine then_normal ?_
          exact ⟨(), sinj H, hr.fj (h.se 7 [0])⟩
       clear h hr a; rintro _ a w ⟨rfl, j, hr, h⟩
       replace H := jk0 hK184
       refine sr ?_
       refine oo [161, 162, 163] [vB r182, vB (!r182), vB (!r182)] hr fun a hr => ?_
       by_cases c196 : r182 = true
       ·
        replace H := ifT c196 H
        refine offl (show (!r182) = false from (by rw [show r182 = true from (c196)]; rfl)) [164, 165, 166] hr fun a hr => ?_
        refine opv (wn rfl) hr (vB false) (rp_f (b := (!r182)) rfl (by kernel_rfl) (by rw [show r182 = true from (c196)]; rfl) (by kernel_rfl)) fun a hr => ?_
        refine o1 hr (vB false) fun a hr => ?_
        refine offl (rfl : false = false) [169, 170, 171, 172, 173] hr fun a hr => ?_
        refine oo [174, 175] [vB false, vB false] hr fun a hr => ?_
        refine offl (rfl : false = false) [176, 177, 178] hr fun a hr => ?_
        refine oo [179, 180] [vB false, vB false] hr fun a hr => ?_
        refine offl (rfl : false = false) [181, 182, 183, 184, 185] hr fun a hr => ?_
        refine oo [186, 4] [vB false, vB false] hr fun a hr => ?_
        refine ln ?_
        refine wp_ret ?_
        refine end_ret1 (v := vB false) rfl hr (by kernel_rfl) ?_
        replace H := ej1 H; subst H
        exact ⟨rfl, h.se 1 []⟩
       ·
        replace H := ifF c196 H
        obtain ⟨r197, e198, H⟩ := bd1 H
        refine onl (show (!r182) = true from (by rw [show r182 = false from (bF c196)]; rfl)) [164] [pN] hr fun a hr => ?_
        have hc := worker_World_Holds_nil_ok (H := e198) (h := h)
        refine cl (wgt hr (x := !r182) (c := true) (by rw [show r182 = false from (bF c196)]; rfl)) hr hc ?_; clear hc h
        rintro _ w ⟨rfl, h⟩; refine ⟨_, rfl, fun a hr => ?_⟩
        refine onl (show (!r182) = true from (by rw [show r182 = false from (bF c196)]; rfl)) [166] [vB (r197 == (-1))] hr fun a hr => ?_
        refine opv (wn rfl) hr (vB (r197 == (-1))) (rp_t (b := (!r182)) rfl (by kernel_rfl) (by rw [show r182 = false from (bF c196)]; rfl) (by kernel_rfl)) fun a hr => ?_
        refine o1 hr (vB (r197 == (-1))) fun a hr => ?_
        by_cases c199 : r197 = (-1)
        ·
         replace H := ifT c199 H
         refine onl (beq_iff_eq.mpr c199) [169, 170] [pN, pA b1 2] hr fun a hr => ?_
         refine ld (wgt hr (beq_iff_eq.mpr c199)) hr (vI p1.Workers) (h.cell 2 rfl) fun a hr => ?_
         obtain ⟨r200, e201, H⟩ := bd1 H
         have hc := worker_World_Holds_nil_ok (H := e201) (h := h)
         refine cl (wgt hr (beq_iff_eq.mpr c199)) hr hc ?_; clear hc h
         rintro _ w ⟨rfl, h⟩; refine ⟨_, rfl, fun a hr => ?_⟩
         refine onl (beq_iff_eq.mpr c199) [173] [vB (r200 == (-1))] hr fun a hr => ?_
         refine opv (wn rfl) hr (vB (r200 == (-1))) (rp_t (b := (r197 == (-1))) rfl (by kernel_rfl) (beq_iff_eq.mpr c199) (by kernel_rfl)) fun a hr => ?_
         refine o1 hr (vB (r200 == (-1))) fun a hr => ?_
         by_cases c202 : r200 = (-1)
         ·
          replace H := ifT c202 H
          obtain ⟨r203, e204, H⟩ := bd1 H
          refine onl (beq_iff_eq.mpr c202) [176] [pN] hr fun a hr => ?_
          have hc := worker_World_Halted_nil_ok (H := e204) (h := h)
          refine cl (wgt hr (beq_iff_eq.mpr c202)) hr hc ?_; clear hc h
          rintro _ w ⟨rfl, h⟩; refine ⟨_, rfl, fun a hr => ?_⟩
          refine onl (beq_iff_eq.mpr c202) [178] [vB (!r203)] hr fun a hr => ?_
          refine opv (wn rfl) hr (vB (!r203)) (rp_t (b := (r200 == (-1))) rfl (by kernel_rfl) (beq_iff_eq.mpr c202) (by kernel_rfl)) fun a hr => ?_
          refine o1 hr (vB (!r203)) fun a hr => ?_
          by_cases c205 : r203 = true
          ·
           replace H := ifT c205 H
           refine offl (show (!r203) = false from (by rw [show r203 = true from (c205)]; rfl)) [181, 182, 183, 184, 185] hr fun a hr => ?_
           refine opv (wn rfl) hr (vB false) (rp_f (b := (!r203)) rfl (by kernel_rfl) (by rw [show r203 = true from (c205)]; rfl) (by kernel_rfl)) fun a hr => ?_
           refine o1 hr (vB false) fun a hr => ?_
           refine ln ?_
           refine wp_ret ?_
           refine end_ret1 (v := vB false) rfl hr (by kernel_rfl) ?_
           replace H := ej1 H; subst H
           exact ⟨rfl, h.se 1 []⟩
          ·
           replace H := ifF c205 H
           refine onl (show (!r203) = true from (by rw [show r203 = false from (bF c205)]; rfl)) [181, 182] [pN, pA b1 2] hr fun a hr => ?_
           refine ld (wgt hr (x := !r203) (c := true) (by rw [show r203 = false from (bF c205)]; rfl)) hr (vI p1.Workers) (h.cell 2 rfl) fun a hr => ?_
           obtain ⟨r206, e207, H⟩ := bd1 H
           have hc := worker_World_Halted_nil_ok (H := e207) (h := h)
           refine cl (wgt hr (x := !r203) (c := true) (by rw [show r203 = false from (bF c205)]; rfl)) hr hc ?_; clear hc h
           rintro _ w ⟨rfl, h⟩; refine ⟨_, rfl, fun a hr => ?_⟩
           refine onl (show (!r203) = true from (by rw [show r203 = false from (bF c205)]; rfl)) [185] [vB (!r206)] hr fun a hr => ?_
           refine opv (wn rfl) hr (vB (!r206)) (rp_t (b := (!r203)) rfl (by kernel_rfl) (by rw [show r203 = false from (bF c205)]; rfl) (by kernel_rfl)) fun a hr => ?_
           refine o1 hr (vB (!r206)) fun a hr => ?_
           refine ln ?_
           refine wp_ret ?_
           refine end_ret1 (v := vB (!r206)) rfl hr (by kernel_rfl) ?_
           replace H := ej1 H; subst H
           exact ⟨rfl, h.se 1 []⟩
         ·
          replace H := ifF c202 H
          refine offl (beq_eq_false_iff_ne.mpr c202) [176, 177, 178] hr fun a hr => ?_
          refine opv (wn rfl) hr (vB false) (rp_f (b := (r200 == (-1))) rfl (by kernel_rfl) (beq_eq_false_iff_ne.mpr c202) (by kernel_rfl)) fun a hr => ?_
          refine o1 hr (vB false) fun a hr => ?_
          refine offl (rfl : false = false) [181, 182, 183, 184, 185] hr fun a hr => ?_
          refine oo [186, 4] [vB false, vB false] hr fun a hr => ?_
          refine ln ?_
          refine wp_ret ?_
          refine end_ret1 (v := vB false) rfl hr (by kernel_rfl) ?_
          replace H := ej1 H; subst H
          exact ⟨rfl, h.se 1 []⟩
        ·
         replace H := ifF c199 H
         refine offl (beq_eq_false_iff_ne.mpr c199) [169, 170, 171, 172, 173] hr fun a hr => ?_
         refine opv (wn rfl) hr (vB false) (rp_f (b := (r197 == (-1))) rfl (by kernel_rfl) (beq_eq_false_iff_ne.mpr c199) (by kernel_rfl)) fun a hr => ?_
         refine o1 hr (vB false) fun a hr => ?_
         refine offl (rfl : false = false) [176, 177, 178] hr fun a hr => ?_
         refine oo [179, 180] [vB false, vB false] hr fun a hr => ?_
         refine offl (rfl : false = false) [181, 182, 183, 184, 185] hr fun a hr => ?_
         refine oo [186, 4] [vB false, vB false] hr fun a hr => ?_
         refine ln ?_
         refine wp_ret ?_
         refine end_ret1 (v := vB false) rfl hr (by kernel_rfl) ?_
         replace H := ej1 H; subst H
         exact ⟨rfl, h.se 1 []⟩
      ·
       refine sr ?_
       refine o1 hr (vB false) fun a hr => ?_
       refine ln ?_
       refine wp_ret ?_
       refine then_ret ?_
       refine end_ret1 (v := vB false) rfl hr (by kernel_rfl) ?_
       replace H := ej1 H; subst H
       exact ⟨rfl, h.se 13 []⟩
     ·
      refine sr ?_
      refine o1 hr (vB true) fun a hr => ?_
      refine ln ?_
      refine wp_ret ?_
      refine then_ret ?_
      refine end_ret1 (v := vB true) rfl hr (by kernel_rfl) ?_
      replace H := ej1 H; subst H
      exact ⟨rfl, h.se 6 []⟩
    ·
     refine sr ?_
     refine o1 hr (vB false) fun a hr => ?_
     refine ln ?_
     refine wp_ret ?_
     refine then_ret ?_
     refine end_ret1 (v := vB false) rfl hr (by kernel_rfl) ?_
     replace H := ej1 H; subst H
     exact ⟨rfl, h.se 6 []⟩
  | none =>
   have hc := cells_New_ok1 (H := e11) (h := h)
   refine cl (wn rfl) hr hc ?_; clear hc h
   rintro _ w ⟨rfl, h⟩; refine ⟨_, rfl, fun a hr => ?_⟩
   refine oo [38, 41, 42, 7, 8] [.tuple #[pN, vI r10], pN, vI r10, pN, vI r10] hr fun a hr => ?_
   refine ln ?_
   refine wp_seq ?_
   refine sr ?_
   refine oo [43, 44] [pN, vB true] hr fun a hr => ?_
   refine ln ?_
   refine cond_tt hr (b := true) rfl ?_
   refine sr ?_
   refine o1 hr (vB false) fun a hr => ?_
   refine ln ?_
   refine wp_ret ?_
   refine then_ret ?_
   refine end_ret1 (v := vB false) rfl hr (by kernel_rfl) ?_
   replace H := ej1 H; subst H
   exact ⟨rfl, h.se 1 []⟩
 ·
  refine sr ?_
  refine o1 hr (vB false) fun a hr => ?_
  refine ln ?_
  refine wp_ret ?_
  refine then_ret ?_
  refine end_ret1 (v := vB false) rfl hr (by kernel_rfl) ?_
  replace H := ej1 H; subst H
  exact ⟨rfl, h.se 1 []⟩


end
end Go.Proofs.YtpikpffbcjpmcaaDoor.Mo
