/- what the functions compute, as plain Lean functions, and that they do -/
import Derived.Test.YtacgigkonoegiaaMp2
namespace Go.Proofs.Ytacgigkonoegiaa.Mo
open Go Go.RowKit Go.Proofs.Ytacgigkonoegiaa.SL Go.Proofs.Ytacgigkonoegiaa.GX
set_option linter.unusedVariables false
set_option linter.unusedSimpArgs false

def plunderlaw2_CellsMemory_l1 (K : Nat) (r3 : List T_api_Act) (r7 : T_api_CellRun) : Nat → (List Int) → Int → Option (((List Int)) ⊕ (Bool))
  | 0, _, _ => none
  | k1 + 1, l33, g34 => (if g34 < ((r3.length : Nat) : Int) then if inr_ g34 r3.length then if inr_ g34 r7.Log.length then if inr_ g34 r7.Effects.length then if inr_ ((at_ r3 g34.toNat).Addr) l33.length then jn0 ((if ((at_ r7.Log g34.toNat).Who) = ((at_ r3 g34.toNat).Who) then (if ((at_ r7.Log g34.toNat).Kind) = ((at_ r3 g34.toNat).Kind) then (if ((at_ r7.Log g34.toNat).Addr) = ((at_ r3 g34.toNat).Addr) then (if ((at_ r7.Effects g34.toNat).Err) = (0 : Int) then (if ((at_ r7.Effects g34.toNat).OK) = ((at_ r7.Log g34.toNat).OK) then some (.inl ()) else some (.inr (.inr false))) else some (.inr (.inr false))) else some (.inr (.inr false))) else some (.inr (.inr false))) else some (.inr (.inr false)))) ((if ((at_ r3 g34.toNat).Kind) = (0 : Int) then (if ((at_ r7.Log g34.toNat).OK) = true then (if ((at_ r7.Log g34.toNat).A) = (at_ l33 (((at_ r3 g34.toNat).Addr).toNat)) then (if ((at_ r7.Log g34.toNat).B) = (0 : Int) then (if ((at_ r7.Effects g34.toNat).V) = (at_ l33 (((at_ r3 g34.toNat).Addr).toNat)) then (plunderlaw2_CellsMemory_l1 K r3 r7 k1 l33 (wi (g34 + (1 : Int)))) else some (.inr false)) else some (.inr false)) else some (.inr false)) else some (.inr false)) else (if ((at_ r3 g34.toNat).Kind) = (1 : Int) then (if ((at_ r7.Log g34.toNat).OK) = true then (if ((at_ r7.Log g34.toNat).A) = ((at_ r3 g34.toNat).A) then (if ((at_ r7.Log g34.toNat).B) = (0 : Int) then (if ((at_ r7.Effects g34.toNat).V) = (0 : Int) then (plunderlaw2_CellsMemory_l1 K r3 r7 k1 (l33.set (((at_ r3 g34.toNat).Addr).toNat) ((at_ r3 g34.toNat).A)) (wi (g34 + (1 : Int)))) else some (.inr false)) else some (.inr false)) else some (.inr false)) else some (.inr false)) else (if ((at_ r3 g34.toNat).Kind) = (2 : Int) then (if ((at_ r7.Log g34.toNat).OK) = ((at_ l33 (((at_ r3 g34.toNat).Addr).toNat)) == ((at_ r3 g34.toNat).A)) then (if ((at_ r7.Log g34.toNat).A) = ((at_ r3 g34.toNat).A) then (if ((at_ r7.Log g34.toNat).B) = ((at_ r3 g34.toNat).B) then (if ((at_ r7.Log g34.toNat).OK) = true then (if ((at_ r7.Effects g34.toNat).V) = (0 : Int) then (plunderlaw2_CellsMemory_l1 K r3 r7 k1 (l33.set (((at_ r3 g34.toNat).Addr).toNat) ((at_ r3 g34.toNat).B)) (wi (g34 + (1 : Int)))) else some (.inr false)) else (if ((at_ r7.Effects g34.toNat).V) = (0 : Int) then (plunderlaw2_CellsMemory_l1 K r3 r7 k1 l33 (wi (g34 + (1 : Int)))) else some (.inr false))) else (if ((at_ r7.Log g34.toNat).OK) = true then some (.inr false) else some (.inr false))) else (if ((at_ r7.Log g34.toNat).OK) = true then some (.inr false) else some (.inr false))) else (if ((at_ r7.Log g34.toNat).OK) = true then some (.inr false) else some (.inr false))) else (if ((at_ r7.Log g34.toNat).OK) = true then (if ((at_ r7.Log g34.toNat).A) = ((at_ r3 g34.toNat).A) then (if (wi (((at_ r7.Log g34.toNat).B) - (at_ l33 (((at_ r3 g34.toNat).Addr).toNat)))) = ((at_ r3 g34.toNat).A) then (if ((at_ r7.Effects g34.toNat).V) = ((at_ r7.Log g34.toNat).B) then (plunderlaw2_CellsMemory_l1 K r3 r7 k1 (l33.set (((at_ r3 g34.toNat).Addr).toNat) ((at_ r7.Log g34.toNat).B)) (wi (g34 + (1 : Int)))) else some (.inr false)) else some (.inr false)) else some (.inr false)) else some (.inr false)))))) else none else none else none else none else some (.inl l33))
def plunderlaw2_CellsMemory_l2 (K : Nat) (r1 : Int) (r7 : T_api_CellRun) (l30 : List Int) : Nat → Int → Option (Bool)
  | 0, _ => none
  | k2 + 1, g74 => (if g74 < (wi ((1 : Int) + r1)) then if inr_ g74 r7.Cells.length then if inr_ g74 l30.length then (if (at_ r7.Cells g74.toNat) = (at_ l30 g74.toNat) then (plunderlaw2_CellsMemory_l2 K r1 r7 l30 k2 (wi (g74 + (1 : Int)))) else some false) else none else none else some true)
/-- plunder/plunderlaw2.CellsMemory -/
def plunderlaw2_CellsMemory (K : Nat) (p0 : Int) (p1 : List T_api_Act) : Option (Bool) :=
  ob1 (plunderlaw2_mod p0 64) (fun r1 => ob1 (plunderlaw2_within K (wi ((1 : Int) + r1)) p1 4096) (fun r3 => ob2 (cells_Play K (wi ((1 : Int) + r1)) r3) (fun r7 r8 => jn0 ((if r8 = (0 : Int) then (if ((r7.Effects.length : Nat) : Int) = ((r3.length : Nat) : Int) then (if ((r7.Log.length : Nat) : Int) = ((r3.length : Nat) : Int) then (if ((r7.Cells.length : Nat) : Int) = (wi ((1 : Int) + r1)) then some (.inl ()) else some (.inr false)) else some (.inr false)) else some (.inr false)) else some (.inr false))) (if inr_ (0 : Int) r3.length then jn0 (if inr_ (0 : Int) r7.Log.length then (if at_ r7.Log 0 = (⟨(at_ r3 0).Who, 4, 0, wi ((1 : Int) + r1), 0, true⟩ : T_api_Access) then if inr_ (0 : Int) r7.Effects.length then (if at_ r7.Effects 0 = (⟨0, true, 0⟩ : T_api_Effect) then some (.inl ()) else some (.inr false)) else none else some (.inr false)) else none) (jn1 ((plunderlaw2_CellsMemory_l1 K r3 r7 K (List.replicate 64 (0 : Int)) 1)) (fun l30 => (plunderlaw2_CellsMemory_l2 K r1 r7 l30 K 0))) else none))))
set_option maxRecDepth 100000 in
set_option maxHeartbeats 4000000 in
theorem plunderlaw2_CellsMemory_ok {z w : World} {L : List HProp} {K : Nat} {p0 : Int} {p1 : List T_api_Act} {va1 : Option Addr} {vc1 : Nat} {r0 : Bool} (H : plunderlaw2_CellsMemory K p0 p1 = some r0) (h : Fit z (sepL (L)) w) (hv1 : RdRow L 5 enc_T_api_Act va1 p1) :
    Calls Try.prog 12 #[.int .i64 p0, .slice va1 p1.length vc1] w fun e w => e = .returned (.bool r0) ∧ Fit z (sepL (L)) w := by
  unfold plunderlaw2_CellsMemory at H
  refine enter Try.func12 rfl 259 rfl rfl [(0, .int .i64 p0), (1, .slice va1 p1.length vc1)] ⟨rfl, rfl, trivial⟩ ?_
  intro j a hr
  refine wp_seq ?_
  refine wp_region_lit ?_
  refine ov hr (.bool false) (by kernel_rfl) ?_; clear hr a; intro a hr
  refine wpList_nil ?_
  refine then_normal ?_
  refine wp_seq ?_
  refine wp_region_lit ?_
  replace H := bd1 H; obtain ⟨r1, e2, H⟩ := H
  refine ov hr (.int .i64 p0) (by kernel_rfl) ?_; clear hr a; intro a hr
  have hc := plunderlaw2_mod_ok (H := e2) (h := h)
  refine op_call (wn rfl) rfl rfl hr (f := 23) (args := #[.int .i64 p0, .int .i64 64]) (by kernel_rfl) hc ?_; clear hc h
  rintro _ w ⟨rfl, h⟩; refine ⟨_, rfl, ?_⟩
  clear hr a; intro a hr
  refine ovs [19, 0] [.int .i64 (wi ((1 : Int) + r1)), .int .i64 (wi ((1 : Int) + r1))] hr ⟨rfl, rfl⟩ (by kernel_rfl) ?_; clear hr a; intro a hr
  refine wpList_nil ?_
  refine then_normal ?_
  refine wp_seq ?_
  refine wp_region_lit ?_
  replace H := bd1 H; obtain ⟨r3, e4, H⟩ := H
  refine ovs [20, 21] [.int .i64 (wi ((1 : Int) + r1)), .slice va1 p1.length vc1] hr ⟨rfl, rfl⟩ (by kernel_rfl) ?_; clear hr a; intro a hr
  have hc := plunderlaw2_within_ok (va1 := va1) (vc1 := vc1) (hv1 := (RdRow.up 0 hv1)) (H := e4) (h := h)
  refine op_call (wn rfl) rfl rfl hr (f := 47) (args := #[.int .i64 (wi ((1 : Int) + r1)), .slice va1 p1.length vc1, .int .i64 4096]) (by kernel_rfl) hc ?_; clear hc h
  rintro _ w ⟨car5, ccr6, rfl, h⟩; refine ⟨_, rfl, ?_⟩
  clear hr a; intro a hr
  refine ov hr (.slice car5 r3.length ccr6) (by kernel_rfl) ?_; clear hr a; intro a hr
  refine wpList_nil ?_
  refine then_normal ?_
  refine wp_seq ?_
  refine wp_region_lit ?_
  replace H := bd2 H; obtain ⟨r7, r8, e9, H⟩ := H
  refine ovs [24, 25] [.int .i64 (wi ((1 : Int) + r1)), .slice car5 r3.length ccr6] hr ⟨rfl, rfl⟩ (by kernel_rfl) ?_; clear hr a; intro a hr
  have hc := cells_Play_ok (va1 := car5) (vc1 := ccr6) (hv1 := (RdRow.of_row enc_T_api_Act_ok h (fun h => h))) (H := e9) (h := h)
  refine op_call (wn rfl) rfl rfl hr (f := 38) (args := #[.int .i64 (wi ((1 : Int) + r1)), .slice car5 r3.length ccr6]) (by kernel_rfl) hc ?_; clear hc h
  rintro _ w ⟨car10, ccr11, car12, car13, rfl, h⟩; refine ⟨_, rfl, ?_⟩
  clear hr a; intro a hr
  refine ovs [23, 27, 28] [.tuple #[.agg #[.slice car10 r7.Effects.length ccr11, .slice car12 r7.Cells.length r7.Cells.length, .slice car13 r7.Log.length r7.Log.length], .int .i64 r8], .agg #[.slice car10 r7.Effects.length ccr11, .slice car12 r7.Cells.length r7.Cells.length, .slice car13 r7.Log.length r7.Log.length], .int .i64 r8] hr ⟨rfl, rfl⟩ (by kernel_rfl) ?_; clear hr a; intro a hr
  refine op_new (wn rfl) rfl rfl hr h (vf := fun b => .pointer (some ⟨b, 0, none⟩)) (cs := #[.slice none 0 0, .slice none 0 0, .slice none 0 0]) (T := 70) (by kernel_rfl) ?_; clear h hr a; intro b14 w a h hr
  refine op_stores (wn rfl) rfl hr rfl (by kernel_rfl) (by kernel_rfl) (vs := [.slice car10 r7.Effects.length ccr11, .slice car12 r7.Cells.length r7.Cells.length, .slice car13 r7.Log.length r7.Log.length]) rfl rfl (by kernel_rfl) h (i := 0) (cs' := #[.slice car10 r7.Effects.length ccr11, .slice car12 r7.Cells.length r7.Cells.length, .slice car13 r7.Log.length r7.Log.length]) rfl ?_; clear h; intro w h
  refine ov hr (.int .i64 r8) (by kernel_rfl) ?_; clear hr a; intro a hr
  refine wpList_nil ?_
  replace h : Fit z (sepL (ob70 b14 r7 car10 ccr11 car12 r7.Cells.length car13 r7.Log.length :: ro39 car10 ccr11 r7.Effects :: ro2 car12 r7.Cells.length r7.Cells :: ro90 car13 r7.Log.length r7.Log :: ro57 car5 ccr6 r3 :: L)) _ := h
  refine then_normal ?_
  replace H := jd0 H; obtain ⟨o16, H, hK15⟩ := H
  refine cut_rule (β := Unit) (fun _ a w => .inl () = o16 ∧ ∃ j, Rep 259 (lk [(0, .int .i64 (wi ((1 : Int) + r1))), (5, .slice car5 r3.length ccr6), (6, .pointer (some ⟨b14, 0, none⟩))] j) a ∧ Fit z (sepL (ro57 car5 ccr6 r3 :: ob70 b14 r7 car10 ccr11 car12 r7.Cells.length car13 r7.Log.length :: ro39 car10 ccr11 r7.Effects :: ro2 car12 r7.Cells.length r7.Cells :: ro90 car13 r7.Log.length r7.Log :: L)) w) ?_ ?_
  ·
    refine wp_seq ?_
    refine wp_region_lit ?_
    refine ovs [29, 30, 31] [.int .i64 r8, .bool (r8 != (0 : Int)), .bool (r8 != (0 : Int))] hr ⟨rfl, rfl⟩ (by kernel_rfl) ?_; clear hr a; intro a hr
    by_cases c17 : r8 = (0 : Int)
    ·
      replace H := ifT c17 H
      refine op_val ((wg hr rfl rfl rfl (b' := (r8 != (0 : Int))) (by kernel_rfl)).trans (by rw [show (r8 != (0 : Int)) = false from (bne_eq_false_iff_eq.mpr c17)]; rfl)) rfl rfl hr (v := .pointer (some ⟨b14, 0, none⟩)) (by kernel_rfl) ?_; clear hr a; intro a hr
      refine op_val ((wg hr rfl rfl rfl (b' := (r8 != (0 : Int))) (by kernel_rfl)).trans (by rw [show (r8 != (0 : Int)) = false from (bne_eq_false_iff_eq.mpr c17)]; rfl)) rfl rfl hr (v := .slice car10 r7.Effects.length ccr11) (rl rfl (by kernel_rfl) (by kernel_rfl) (h.cell 0 rfl)) ?_; clear hr a; intro a hr
      refine op_val ((wg hr rfl rfl rfl (b' := (r8 != (0 : Int))) (by kernel_rfl)).trans (by rw [show (r8 != (0 : Int)) = false from (bne_eq_false_iff_eq.mpr c17)]; rfl)) rfl rfl hr (v := .int .i64 ((r7.Effects.length : Nat) : Int)) (by kernel_rfl) ?_; clear hr a; intro a hr
      refine op_val ((wg hr rfl rfl rfl (b' := (r8 != (0 : Int))) (by kernel_rfl)).trans (by rw [show (r8 != (0 : Int)) = false from (bne_eq_false_iff_eq.mpr c17)]; rfl)) rfl rfl hr (v := .slice car5 r3.length ccr6) (by kernel_rfl) ?_; clear hr a; intro a hr
      refine op_val ((wg hr rfl rfl rfl (b' := (r8 != (0 : Int))) (by kernel_rfl)).trans (by rw [show (r8 != (0 : Int)) = false from (bne_eq_false_iff_eq.mpr c17)]; rfl)) rfl rfl hr (v := .int .i64 ((r3.length : Nat) : Int)) (by kernel_rfl) ?_; clear hr a; intro a hr
      refine op_val ((wg hr rfl rfl rfl (b' := (r8 != (0 : Int))) (by kernel_rfl)).trans (by rw [show (r8 != (0 : Int)) = false from (bne_eq_false_iff_eq.mpr c17)]; rfl)) rfl rfl hr (v := .bool (((r7.Effects.length : Nat) : Int) != ((r3.length : Nat) : Int))) (by kernel_rfl) ?_; clear hr a; intro a hr
      refine op_val (wn rfl) rfl rfl hr (v := .bool (((r7.Effects.length : Nat) : Int) != ((r3.length : Nat) : Int))) (rp_f (b := (r8 != (0 : Int))) rfl (by kernel_rfl) (bne_eq_false_iff_eq.mpr c17) (by kernel_rfl)) ?_; clear hr a; intro a hr
      refine ov hr (.bool (((r7.Effects.length : Nat) : Int) != ((r3.length : Nat) : Int))) (by kernel_rfl) ?_; clear hr a; intro a hr
      by_cases c18 : ((r7.Effects.length : Nat) : Int) = ((r3.length : Nat) : Int)
      ·
        replace H := ifT c18 H
        refine op_val ((wg hr rfl rfl rfl (b' := (((r7.Effects.length : Nat) : Int) != ((r3.length : Nat) : Int))) (by kernel_rfl)).trans (by rw [show (((r7.Effects.length : Nat) : Int) != ((r3.length : Nat) : Int)) = false from (bne_eq_false_iff_eq.mpr c18)]; rfl)) rfl rfl hr (v := .pointer (some ⟨b14, 2, none⟩)) (by kernel_rfl) ?_; clear hr a; intro a hr
        refine op_val ((wg hr rfl rfl rfl (b' := (((r7.Effects.length : Nat) : Int) != ((r3.length : Nat) : Int))) (by kernel_rfl)).trans (by rw [show (((r7.Effects.length : Nat) : Int) != ((r3.length : Nat) : Int)) = false from (bne_eq_false_iff_eq.mpr c18)]; rfl)) rfl rfl hr (v := .slice car13 r7.Log.length r7.Log.length) (rl rfl (by kernel_rfl) (by kernel_rfl) (h.cell 2 rfl)) ?_; clear hr a; intro a hr
        refine op_val ((wg hr rfl rfl rfl (b' := (((r7.Effects.length : Nat) : Int) != ((r3.length : Nat) : Int))) (by kernel_rfl)).trans (by rw [show (((r7.Effects.length : Nat) : Int) != ((r3.length : Nat) : Int)) = false from (bne_eq_false_iff_eq.mpr c18)]; rfl)) rfl rfl hr (v := .int .i64 ((r7.Log.length : Nat) : Int)) (by kernel_rfl) ?_; clear hr a; intro a hr
        refine op_val ((wg hr rfl rfl rfl (b' := (((r7.Effects.length : Nat) : Int) != ((r3.length : Nat) : Int))) (by kernel_rfl)).trans (by rw [show (((r7.Effects.length : Nat) : Int) != ((r3.length : Nat) : Int)) = false from (bne_eq_false_iff_eq.mpr c18)]; rfl)) rfl rfl hr (v := .slice car5 r3.length ccr6) (by kernel_rfl) ?_; clear hr a; intro a hr
        refine op_val ((wg hr rfl rfl rfl (b' := (((r7.Effects.length : Nat) : Int) != ((r3.length : Nat) : Int))) (by kernel_rfl)).trans (by rw [show (((r7.Effects.length : Nat) : Int) != ((r3.length : Nat) : Int)) = false from (bne_eq_false_iff_eq.mpr c18)]; rfl)) rfl rfl hr (v := .int .i64 ((r3.length : Nat) : Int)) (by kernel_rfl) ?_; clear hr a; intro a hr
        refine op_val ((wg hr rfl rfl rfl (b' := (((r7.Effects.length : Nat) : Int) != ((r3.length : Nat) : Int))) (by kernel_rfl)).trans (by rw [show (((r7.Effects.length : Nat) : Int) != ((r3.length : Nat) : Int)) = false from (bne_eq_false_iff_eq.mpr c18)]; rfl)) rfl rfl hr (v := .bool (((r7.Log.length : Nat) : Int) != ((r3.length : Nat) : Int))) (by kernel_rfl) ?_; clear hr a; intro a hr
        refine op_val (wn rfl) rfl rfl hr (v := .bool (((r7.Log.length : Nat) : Int) != ((r3.length : Nat) : Int))) (rp_f (b := (((r7.Effects.length : Nat) : Int) != ((r3.length : Nat) : Int))) rfl (by kernel_rfl) (bne_eq_false_iff_eq.mpr c18) (by kernel_rfl)) ?_; clear hr a; intro a hr
        refine ov hr (.bool (((r7.Log.length : Nat) : Int) != ((r3.length : Nat) : Int))) (by kernel_rfl) ?_; clear hr a; intro a hr
        by_cases c19 : ((r7.Log.length : Nat) : Int) = ((r3.length : Nat) : Int)
        ·
          replace H := ifT c19 H
          refine op_val ((wg hr rfl rfl rfl (b' := (((r7.Log.length : Nat) : Int) != ((r3.length : Nat) : Int))) (by kernel_rfl)).trans (by rw [show (((r7.Log.length : Nat) : Int) != ((r3.length : Nat) : Int)) = false from (bne_eq_false_iff_eq.mpr c19)]; rfl)) rfl rfl hr (v := .pointer (some ⟨b14, 1, none⟩)) (by kernel_rfl) ?_; clear hr a; intro a hr
          refine op_val ((wg hr rfl rfl rfl (b' := (((r7.Log.length : Nat) : Int) != ((r3.length : Nat) : Int))) (by kernel_rfl)).trans (by rw [show (((r7.Log.length : Nat) : Int) != ((r3.length : Nat) : Int)) = false from (bne_eq_false_iff_eq.mpr c19)]; rfl)) rfl rfl hr (v := .slice car12 r7.Cells.length r7.Cells.length) (rl rfl (by kernel_rfl) (by kernel_rfl) (h.cell 1 rfl)) ?_; clear hr a; intro a hr
          refine op_val ((wg hr rfl rfl rfl (b' := (((r7.Log.length : Nat) : Int) != ((r3.length : Nat) : Int))) (by kernel_rfl)).trans (by rw [show (((r7.Log.length : Nat) : Int) != ((r3.length : Nat) : Int)) = false from (bne_eq_false_iff_eq.mpr c19)]; rfl)) rfl rfl hr (v := .int .i64 ((r7.Cells.length : Nat) : Int)) (by kernel_rfl) ?_; clear hr a; intro a hr
          refine op_val ((wg hr rfl rfl rfl (b' := (((r7.Log.length : Nat) : Int) != ((r3.length : Nat) : Int))) (by kernel_rfl)).trans (by rw [show (((r7.Log.length : Nat) : Int) != ((r3.length : Nat) : Int)) = false from (bne_eq_false_iff_eq.mpr c19)]; rfl)) rfl rfl hr (v := .int .i64 (wi ((1 : Int) + r1))) (by kernel_rfl) ?_; clear hr a; intro a hr
          refine op_val ((wg hr rfl rfl rfl (b' := (((r7.Log.length : Nat) : Int) != ((r3.length : Nat) : Int))) (by kernel_rfl)).trans (by rw [show (((r7.Log.length : Nat) : Int) != ((r3.length : Nat) : Int)) = false from (bne_eq_false_iff_eq.mpr c19)]; rfl)) rfl rfl hr (v := .bool (((r7.Cells.length : Nat) : Int) != (wi ((1 : Int) + r1)))) (by kernel_rfl) ?_; clear hr a; intro a hr
          refine op_val (wn rfl) rfl rfl hr (v := .bool (((r7.Cells.length : Nat) : Int) != (wi ((1 : Int) + r1)))) (rp_f (b := (((r7.Log.length : Nat) : Int) != ((r3.length : Nat) : Int))) rfl (by kernel_rfl) (bne_eq_false_iff_eq.mpr c19) (by kernel_rfl)) ?_; clear hr a; intro a hr
          refine wpList_nil ?_
          refine then_normal ?_
          by_cases c20 : ((r7.Cells.length : Nat) : Int) = (wi ((1 : Int) + r1))
          ·
            replace H := ifT c20 H
            refine cond_ff hr (b := (((r7.Cells.length : Nat) : Int) != (wi ((1 : Int) + r1)))) (bne_eq_false_iff_eq.mpr c20) ?_
            refine wp_skip ?_
            refine then_normal ?_
            replace hr := hr.fold2 [(0, .int .i64 (wi ((1 : Int) + r1))), (5, .slice car5 r3.length ccr6), (6, .pointer (some ⟨b14, 0, none⟩))] (by kernel_rfl); obtain ⟨j, hr⟩ := hr
            replace h : Fit z (sepL (ro57 car5 ccr6 r3 :: ob70 b14 r7 car10 ccr11 car12 r7.Cells.length car13 r7.Log.length :: ro39 car10 ccr11 r7.Effects :: ro2 car12 r7.Cells.length r7.Cells :: ro90 car13 r7.Log.length r7.Log :: L)) _ := h.sel 5 [4, 0, 1, 2, 3] (by kernel_rfl) (by kernel_rfl)
            exact ⟨(), sinj H, j, hr, h⟩
          ·
            replace H := ifF c20 H
            refine cond_tt hr (b := (((r7.Cells.length : Nat) : Int) != (wi ((1 : Int) + r1)))) (bne_iff_ne.mpr c20) ?_
            refine wp_seq ?_
            refine wp_region_lit ?_
            refine ov hr (.bool false) (by kernel_rfl) ?_; clear hr a; intro a hr
            refine wpList_nil ?_
            refine then_normal ?_
            refine wp_ret ?_
            refine then_ret ?_
            refine end_ret1 (v := .bool false) rfl hr (by kernel_rfl) ?_
            replace H := jx0 H hK15
            replace h : Fit z (sepL (L)) _ := h.sel 5 [] (by kernel_rfl) (by kernel_rfl)
            replace H := ej1 H; subst H
            exact ⟨rfl, h⟩
        ·
          replace H := ifF c19 H
          refine op_off ((wg hr rfl rfl rfl (b' := (((r7.Log.length : Nat) : Int) != ((r3.length : Nat) : Int))) (by kernel_rfl)).trans (by rw [show (((r7.Log.length : Nat) : Int) != ((r3.length : Nat) : Int)) = true from (bne_iff_ne.mpr c19)]; rfl)) rfl rfl hr ?_; clear hr a; intro a hr
          refine op_off ((wg hr rfl rfl rfl (b' := (((r7.Log.length : Nat) : Int) != ((r3.length : Nat) : Int))) (by kernel_rfl)).trans (by rw [show (((r7.Log.length : Nat) : Int) != ((r3.length : Nat) : Int)) = true from (bne_iff_ne.mpr c19)]; rfl)) rfl rfl hr ?_; clear hr a; intro a hr
          refine op_off ((wg hr rfl rfl rfl (b' := (((r7.Log.length : Nat) : Int) != ((r3.length : Nat) : Int))) (by kernel_rfl)).trans (by rw [show (((r7.Log.length : Nat) : Int) != ((r3.length : Nat) : Int)) = true from (bne_iff_ne.mpr c19)]; rfl)) rfl rfl hr ?_; clear hr a; intro a hr
          refine op_off ((wg hr rfl rfl rfl (b' := (((r7.Log.length : Nat) : Int) != ((r3.length : Nat) : Int))) (by kernel_rfl)).trans (by rw [show (((r7.Log.length : Nat) : Int) != ((r3.length : Nat) : Int)) = true from (bne_iff_ne.mpr c19)]; rfl)) rfl rfl hr ?_; clear hr a; intro a hr
          refine op_off ((wg hr rfl rfl rfl (b' := (((r7.Log.length : Nat) : Int) != ((r3.length : Nat) : Int))) (by kernel_rfl)).trans (by rw [show (((r7.Log.length : Nat) : Int) != ((r3.length : Nat) : Int)) = true from (bne_iff_ne.mpr c19)]; rfl)) rfl rfl hr ?_; clear hr a; intro a hr
          refine op_val (wn rfl) rfl rfl hr (v := .bool true) (rp_t (b := (((r7.Log.length : Nat) : Int) != ((r3.length : Nat) : Int))) rfl (by kernel_rfl) (bne_iff_ne.mpr c19) (by kernel_rfl)) ?_; clear hr a; intro a hr
          refine wpList_nil ?_
          refine then_normal ?_
          refine cond_tt hr (b := true) rfl ?_
          refine wp_seq ?_
          refine wp_region_lit ?_
          refine ov hr (.bool false) (by kernel_rfl) ?_; clear hr a; intro a hr
          refine wpList_nil ?_
          refine then_normal ?_
          refine wp_ret ?_
          refine then_ret ?_
          refine end_ret1 (v := .bool false) rfl hr (by kernel_rfl) ?_
          replace H := jx0 H hK15
          replace h : Fit z (sepL (L)) _ := h.sel 5 [] (by kernel_rfl) (by kernel_rfl)
          replace H := ej1 H; subst H
          exact ⟨rfl, h⟩
      ·
        replace H := ifF c18 H
        refine op_off ((wg hr rfl rfl rfl (b' := (((r7.Effects.length : Nat) : Int) != ((r3.length : Nat) : Int))) (by kernel_rfl)).trans (by rw [show (((r7.Effects.length : Nat) : Int) != ((r3.length : Nat) : Int)) = true from (bne_iff_ne.mpr c18)]; rfl)) rfl rfl hr ?_; clear hr a; intro a hr
        refine op_off ((wg hr rfl rfl rfl (b' := (((r7.Effects.length : Nat) : Int) != ((r3.length : Nat) : Int))) (by kernel_rfl)).trans (by rw [show (((r7.Effects.length : Nat) : Int) != ((r3.length : Nat) : Int)) = true from (bne_iff_ne.mpr c18)]; rfl)) rfl rfl hr ?_; clear hr a; intro a hr
        refine op_off ((wg hr rfl rfl rfl (b' := (((r7.Effects.length : Nat) : Int) != ((r3.length : Nat) : Int))) (by kernel_rfl)).trans (by rw [show (((r7.Effects.length : Nat) : Int) != ((r3.length : Nat) : Int)) = true from (bne_iff_ne.mpr c18)]; rfl)) rfl rfl hr ?_; clear hr a; intro a hr
        refine op_off ((wg hr rfl rfl rfl (b' := (((r7.Effects.length : Nat) : Int) != ((r3.length : Nat) : Int))) (by kernel_rfl)).trans (by rw [show (((r7.Effects.length : Nat) : Int) != ((r3.length : Nat) : Int)) = true from (bne_iff_ne.mpr c18)]; rfl)) rfl rfl hr ?_; clear hr a; intro a hr
        refine op_off ((wg hr rfl rfl rfl (b' := (((r7.Effects.length : Nat) : Int) != ((r3.length : Nat) : Int))) (by kernel_rfl)).trans (by rw [show (((r7.Effects.length : Nat) : Int) != ((r3.length : Nat) : Int)) = true from (bne_iff_ne.mpr c18)]; rfl)) rfl rfl hr ?_; clear hr a; intro a hr
        refine op_off ((wg hr rfl rfl rfl (b' := (((r7.Effects.length : Nat) : Int) != ((r3.length : Nat) : Int))) (by kernel_rfl)).trans (by rw [show (((r7.Effects.length : Nat) : Int) != ((r3.length : Nat) : Int)) = true from (bne_iff_ne.mpr c18)]; rfl)) rfl rfl hr ?_; clear hr a; intro a hr
        refine op_val (wn rfl) rfl rfl hr (v := .bool true) (rp_t (b := (((r7.Effects.length : Nat) : Int) != ((r3.length : Nat) : Int))) rfl (by kernel_rfl) (bne_iff_ne.mpr c18) (by kernel_rfl)) ?_; clear hr a; intro a hr
        refine ov hr (.bool true) (by kernel_rfl) ?_; clear hr a; intro a hr
        refine op_off ((wg hr rfl rfl rfl (b' := true) (by kernel_rfl)).trans rfl) rfl rfl hr ?_; clear hr a; intro a hr
        refine op_off ((wg hr rfl rfl rfl (b' := true) (by kernel_rfl)).trans rfl) rfl rfl hr ?_; clear hr a; intro a hr
        refine op_off ((wg hr rfl rfl rfl (b' := true) (by kernel_rfl)).trans rfl) rfl rfl hr ?_; clear hr a; intro a hr
        refine op_off ((wg hr rfl rfl rfl (b' := true) (by kernel_rfl)).trans rfl) rfl rfl hr ?_; clear hr a; intro a hr
        refine op_off ((wg hr rfl rfl rfl (b' := true) (by kernel_rfl)).trans rfl) rfl rfl hr ?_; clear hr a; intro a hr
        refine ov hr (.bool true) (by kernel_rfl) ?_; clear hr a; intro a hr
        refine wpList_nil ?_
        refine then_normal ?_
        refine cond_tt hr (b := true) rfl ?_
        refine wp_seq ?_
        refine wp_region_lit ?_
        refine ov hr (.bool false) (by kernel_rfl) ?_; clear hr a; intro a hr
        refine wpList_nil ?_
        refine then_normal ?_
        refine wp_ret ?_
        refine then_ret ?_
        refine end_ret1 (v := .bool false) rfl hr (by kernel_rfl) ?_
        replace H := jx0 H hK15
        replace h : Fit z (sepL (L)) _ := h.sel 5 [] (by kernel_rfl) (by kernel_rfl)
        replace H := ej1 H; subst H
        exact ⟨rfl, h⟩
    ·
      replace H := ifF c17 H
      refine op_off ((wg hr rfl rfl rfl (b' := (r8 != (0 : Int))) (by kernel_rfl)).trans (by rw [show (r8 != (0 : Int)) = true from (bne_iff_ne.mpr c17)]; rfl)) rfl rfl hr ?_; clear hr a; intro a hr
      refine op_off ((wg hr rfl rfl rfl (b' := (r8 != (0 : Int))) (by kernel_rfl)).trans (by rw [show (r8 != (0 : Int)) = true from (bne_iff_ne.mpr c17)]; rfl)) rfl rfl hr ?_; clear hr a; intro a hr
      refine op_off ((wg hr rfl rfl rfl (b' := (r8 != (0 : Int))) (by kernel_rfl)).trans (by rw [show (r8 != (0 : Int)) = true from (bne_iff_ne.mpr c17)]; rfl)) rfl rfl hr ?_; clear hr a; intro a hr
      refine op_off ((wg hr rfl rfl rfl (b' := (r8 != (0 : Int))) (by kernel_rfl)).trans (by rw [show (r8 != (0 : Int)) = true from (bne_iff_ne.mpr c17)]; rfl)) rfl rfl hr ?_; clear hr a; intro a hr
      refine op_off ((wg hr rfl rfl rfl (b' := (r8 != (0 : Int))) (by kernel_rfl)).trans (by rw [show (r8 != (0 : Int)) = true from (bne_iff_ne.mpr c17)]; rfl)) rfl rfl hr ?_; clear hr a; intro a hr
      refine op_off ((wg hr rfl rfl rfl (b' := (r8 != (0 : Int))) (by kernel_rfl)).trans (by rw [show (r8 != (0 : Int)) = true from (bne_iff_ne.mpr c17)]; rfl)) rfl rfl hr ?_; clear hr a; intro a hr
      refine op_val (wn rfl) rfl rfl hr (v := .bool true) (rp_t (b := (r8 != (0 : Int))) rfl (by kernel_rfl) (bne_iff_ne.mpr c17) (by kernel_rfl)) ?_; clear hr a; intro a hr
      refine ov hr (.bool true) (by kernel_rfl) ?_; clear hr a; intro a hr
      refine op_off ((wg hr rfl rfl rfl (b' := true) (by kernel_rfl)).trans rfl) rfl rfl hr ?_; clear hr a; intro a hr
      refine op_off ((wg hr rfl rfl rfl (b' := true) (by kernel_rfl)).trans rfl) rfl rfl hr ?_; clear hr a; intro a hr
      refine op_off ((wg hr rfl rfl rfl (b' := true) (by kernel_rfl)).trans rfl) rfl rfl hr ?_; clear hr a; intro a hr
      refine op_off ((wg hr rfl rfl rfl (b' := true) (by kernel_rfl)).trans rfl) rfl rfl hr ?_; clear hr a; intro a hr
      refine op_off ((wg hr rfl rfl rfl (b' := true) (by kernel_rfl)).trans rfl) rfl rfl hr ?_; clear hr a; intro a hr
      refine op_off ((wg hr rfl rfl rfl (b' := true) (by kernel_rfl)).trans rfl) rfl rfl hr ?_; clear hr a; intro a hr
      refine ovs [46, 47] [.bool true, .bool true] hr ⟨rfl, rfl⟩ (by kernel_rfl) ?_; clear hr a; intro a hr
      refine op_off ((wg hr rfl rfl rfl (b' := true) (by kernel_rfl)).trans rfl) rfl rfl hr ?_; clear hr a; intro a hr
      refine op_off ((wg hr rfl rfl rfl (b' := true) (by kernel_rfl)).trans rfl) rfl rfl hr ?_; clear hr a; intro a hr
      refine op_off ((wg hr rfl rfl rfl (b' := true) (by kernel_rfl)).trans rfl) rfl rfl hr ?_; clear hr a; intro a hr
      refine op_off ((wg hr rfl rfl rfl (b' := true) (by kernel_rfl)).trans rfl) rfl rfl hr ?_; clear hr a; intro a hr
      refine op_off ((wg hr rfl rfl rfl (b' := true) (by kernel_rfl)).trans rfl) rfl rfl hr ?_; clear hr a; intro a hr
      refine ov hr (.bool true) (by kernel_rfl) ?_; clear hr a; intro a hr
      refine wpList_nil ?_
      refine then_normal ?_
      refine cond_tt hr (b := true) rfl ?_
      refine wp_seq ?_
      refine wp_region_lit ?_
      refine ov hr (.bool false) (by kernel_rfl) ?_; clear hr a; intro a hr
      refine wpList_nil ?_
      refine then_normal ?_
      refine wp_ret ?_
      refine then_ret ?_
      refine end_ret1 (v := .bool false) rfl hr (by kernel_rfl) ?_
      replace H := jx0 H hK15
      replace h : Fit z (sepL (L)) _ := h.sel 5 [] (by kernel_rfl) (by kernel_rfl)
      replace H := ej1 H; subst H
      exact ⟨rfl, h⟩
  clear h hr a; rintro _ a w ⟨rfl, j, hr, h⟩
  replace H := jk0 hK15
  refine wp_seq ?_
  refine wp_region_lit ?_
  refine op_new (wn rfl) rfl rfl hr h (vf := fun b => .pointer (some ⟨b, 0, none⟩)) (cs := #[.int .i64 0, .int .i64 0, .int .i64 0, .int .i64 0, .int .i64 0, .int .i64 0, .int .i64 0, .int .i64 0, .int .i64 0, .int .i64 0, .int .i64 0, .int .i64 0, .int .i64 0, .int .i64 0, .int .i64 0, .int .i64 0, .int .i64 0, .int .i64 0, .int .i64 0, .int .i64 0, .int .i64 0, .int .i64 0, .int .i64 0, .int .i64 0, .int .i64 0, .int .i64 0, .int .i64 0, .int .i64 0, .int .i64 0, .int .i64 0, .int .i64 0, .int .i64 0, .int .i64 0, .int .i64 0, .int .i64 0, .int .i64 0, .int .i64 0, .int .i64 0, .int .i64 0, .int .i64 0, .int .i64 0, .int .i64 0, .int .i64 0, .int .i64 0, .int .i64 0, .int .i64 0, .int .i64 0, .int .i64 0, .int .i64 0, .int .i64 0, .int .i64 0, .int .i64 0, .int .i64 0, .int .i64 0, .int .i64 0, .int .i64 0, .int .i64 0, .int .i64 0, .int .i64 0, .int .i64 0, .int .i64 0, .int .i64 0, .int .i64 0, .int .i64 0]) (T := 88) (by kernel_rfl) ?_; clear h hr a; intro b21 w a h hr
  replace h : Fit z (sepL (rowOf 88 1 encZ_i64 (.slice (some ⟨b21, 0, none⟩) 64 64) (List.replicate 64 (0 : Int)) :: ro57 car5 ccr6 r3 :: ob70 b14 r7 car10 ccr11 car12 r7.Cells.length car13 r7.Log.length :: ro39 car10 ccr11 r7.Effects :: ro2 car12 r7.Cells.length r7.Cells :: ro90 car13 r7.Log.length r7.Log :: L)) _ := Fit.pts_row (by simp) (by rfl) encZ_i64_ok (by decide) h
  refine wpList_nil ?_
  refine then_normal ?_
  refine wp_seq ?_
  refine wp_region_lit ?_
  replace H := gd H; obtain ⟨c22, H⟩ := H
  refine ov hr (.slice car5 r3.length ccr6) (by kernel_rfl) ?_; clear hr a; intro a hr
  refine op_val (wn rfl) rfl rfl hr (v := .pointer (some ⟨blk car5, 0 * 5, none⟩)) (ri_row (k := .i64) (E := 57) rfl (by kernel_rfl) (by kernel_rfl) (by kernel_rfl) (by kernel_rfl) (h.pick 1) c22) ?_; clear hr a; intro a hr
  refine ov hr (.pointer (some ⟨blk car5, 0 * 5, none⟩)) (by kernel_rfl) ?_; clear hr a; intro a hr
  refine op_val (wn rfl) rfl rfl hr (v := .int .i64 ((at_ r3 0).Who)) (rl rfl (by kernel_rfl) (by kernel_rfl) ((h.pick 1).row_cell enc_T_api_Act_ok (f := 0) (at_ok c22) rfl)) ?_; clear hr a; intro a hr
  refine ovs [58, 59] [.int .i64 (wi ((1 : Int) + r1)), .agg #[.int .i64 ((at_ r3 0).Who), .int .i64 4, .int .i64 0, .int .i64 (wi ((1 : Int) + r1)), .int .i64 0, .bool true]] hr ⟨rfl, rfl⟩ (by kernel_rfl) ?_; clear hr a; intro a hr
  refine op_new (wn rfl) rfl rfl hr h (vf := fun b => .pointer (some ⟨b, 0, none⟩)) (cs := #[.int .i64 0, .int .i64 0, .int .i64 0, .int .i64 0, .int .i64 0, .bool false]) (T := 90) (by kernel_rfl) ?_; clear h hr a; intro b23 w a h hr
  refine op_stores (wn rfl) rfl hr rfl (by kernel_rfl) (by kernel_rfl) (vs := [.int .i64 ((at_ r3 0).Who), .int .i64 4, .int .i64 0, .int .i64 (wi ((1 : Int) + r1)), .int .i64 0, .bool true]) rfl rfl (by kernel_rfl) h (i := 0) (cs' := #[.int .i64 ((at_ r3 0).Who), .int .i64 4, .int .i64 0, .int .i64 (wi ((1 : Int) + r1)), .int .i64 0, .bool true]) rfl ?_; clear h; intro w h
  refine wpList_nil ?_
  replace h : Fit z (sepL (pts b23 (.cells #[.int .i64 ((at_ r3 0).Who), .int .i64 4, .int .i64 0, .int .i64 (wi ((1 : Int) + r1)), .int .i64 0, .bool true] 90) :: rowOf 88 1 encZ_i64 (.slice (some ⟨b21, 0, none⟩) 64 64) (List.replicate 64 (0 : Int)) :: ro57 car5 ccr6 r3 :: ob70 b14 r7 car10 ccr11 car12 r7.Cells.length car13 r7.Log.length :: ro39 car10 ccr11 r7.Effects :: ro2 car12 r7.Cells.length r7.Cells :: ro90 car13 r7.Log.length r7.Log :: L)) _ := h
  refine then_normal ?_
  replace H := jd0 H; obtain ⟨o25, H, hK24⟩ := H
  refine cut_rule (β := Unit) (fun _ a w => .inl () = o25 ∧ ∃ j, Rep 259 (lk [(0, .int .i64 (wi ((1 : Int) + r1))), (5, .slice car5 r3.length ccr6), (6, .pointer (some ⟨b14, 0, none⟩)), (8, .pointer (some ⟨b21, 0, none⟩))] j) a ∧ Fit z (sepL (ro57 car5 ccr6 r3 :: ob70 b14 r7 car10 ccr11 car12 r7.Cells.length car13 r7.Log.length :: ro39 car10 ccr11 r7.Effects :: ro2 car12 r7.Cells.length r7.Cells :: ro90 car13 r7.Log.length r7.Log :: rowOf 88 1 encZ_i64 (.slice (some ⟨b21, 0, none⟩) 64 64) (List.replicate 64 (0 : Int)) :: L)) w) ?_ ?_
  ·
    refine wp_seq ?_
    replace H := gd H; obtain ⟨c26, H⟩ := H
    by_cases c27 : at_ r7.Log 0 = (⟨(at_ r3 0).Who, 4, 0, wi ((1 : Int) + r1), 0, true⟩ : T_api_Access)
    ·
      replace H := ifT c27 H
      replace H := gd H; obtain ⟨c28, H⟩ := H
      refine reg_E (fun w => heldC w b14 2 [.slice car13 r7.Log.length r7.Log.length] ∧ heldC w (blk car13) (0 * 6) [.int .i64 ((at_ r7.Log 0).Who), .int .i64 ((at_ r7.Log 0).Kind), .int .i64 ((at_ r7.Log 0).Addr), .int .i64 ((at_ r7.Log 0).A), .int .i64 ((at_ r7.Log 0).B), .bool ((at_ r7.Log 0).OK)] ∧ heldC w b23 0 [.int .i64 ((at_ r3 0).Who), .int .i64 4, .int .i64 0, .int .i64 (wi ((1 : Int) + r1)), .int .i64 0, .bool true] ∧ heldC w b14 0 [.slice car10 r7.Effects.length ccr11] ∧ heldC w (blk car10) (0 * 3) [.int .i64 ((at_ r7.Effects 0).V), .bool ((at_ r7.Effects 0).OK), .int .i64 ((at_ r7.Effects 0).Err)] ∧ True) [0, 2, 5, 7, 9, 11] h (by kernel_rfl) ?_; intro w h
      change wpAnyE _ _ _ _ _ _ 14 (Array.replicate 14 false) a w
      have hgo : ∀ w w', CellsGo w w' → (heldC w b14 2 [.slice car13 r7.Log.length r7.Log.length] ∧ heldC w (blk car13) (0 * 6) [.int .i64 ((at_ r7.Log 0).Who), .int .i64 ((at_ r7.Log 0).Kind), .int .i64 ((at_ r7.Log 0).Addr), .int .i64 ((at_ r7.Log 0).A), .int .i64 ((at_ r7.Log 0).B), .bool ((at_ r7.Log 0).OK)] ∧ heldC w b23 0 [.int .i64 ((at_ r3 0).Who), .int .i64 4, .int .i64 0, .int .i64 (wi ((1 : Int) + r1)), .int .i64 0, .bool true] ∧ heldC w b14 0 [.slice car10 r7.Effects.length ccr11] ∧ heldC w (blk car10) (0 * 3) [.int .i64 ((at_ r7.Effects 0).V), .bool ((at_ r7.Effects 0).OK), .int .i64 ((at_ r7.Effects 0).Err)] ∧ True) → heldC w' b14 2 [.slice car13 r7.Log.length r7.Log.length] ∧ heldC w' (blk car13) (0 * 6) [.int .i64 ((at_ r7.Log 0).Who), .int .i64 ((at_ r7.Log 0).Kind), .int .i64 ((at_ r7.Log 0).Addr), .int .i64 ((at_ r7.Log 0).A), .int .i64 ((at_ r7.Log 0).B), .bool ((at_ r7.Log 0).OK)] ∧ heldC w' b23 0 [.int .i64 ((at_ r3 0).Who), .int .i64 4, .int .i64 0, .int .i64 (wi ((1 : Int) + r1)), .int .i64 0, .bool true] ∧ heldC w' b14 0 [.slice car10 r7.Effects.length ccr11] ∧ heldC w' (blk car10) (0 * 3) [.int .i64 ((at_ r7.Effects 0).V), .bool ((at_ r7.Effects 0).OK), .int .i64 ((at_ r7.Effects 0).Err)] ∧ True := fun w w' g hD => ⟨heldC_go _ _ _ _ _ g hD.1, heldC_go _ _ _ _ _ g hD.2.1, heldC_go _ _ _ _ _ g hD.2.2.1, heldC_go _ _ _ _ _ g hD.2.2.2.1, heldC_go _ _ _ _ _ g hD.2.2.2.2.1, trivial⟩
      refine evD hgo ⟨⟨(h.pick 3).cell 2 rfl, trivial⟩, ⟨(h.pick 6).row_cell enc_T_api_Access_ok (f := 0) (at_ok c26) rfl, (h.pick 6).row_cell enc_T_api_Access_ok (f := 1) (at_ok c26) rfl, (h.pick 6).row_cell enc_T_api_Access_ok (f := 2) (at_ok c26) rfl, (h.pick 6).row_cell enc_T_api_Access_ok (f := 3) (at_ok c26) rfl, (h.pick 6).row_cell enc_T_api_Access_ok (f := 4) (at_ok c26) rfl, (h.pick 6).row_cell enc_T_api_Access_ok (f := 5) (at_ok c26) rfl, trivial⟩, ⟨h.cell 0 rfl, h.cell 1 rfl, h.cell 2 rfl, h.cell 3 rfl, h.cell 4 rfl, h.cell 5 rfl, trivial⟩, ⟨(h.pick 3).cell 0 rfl, trivial⟩, ⟨(h.pick 4).row_cell enc_T_api_Effect_ok (f := 0) (at_ok c28) rfl, (h.pick 4).row_cell enc_T_api_Effect_ok (f := 1) (at_ok c28) rfl, (h.pick 4).row_cell enc_T_api_Effect_ok (f := 2) (at_ok c28) rfl, trivial⟩, trivial⟩ 13 0 rfl (by kernel_rfl) (wn rfl) hr (.pointer (some ⟨b14, 2, none⟩)) (fun w => by kernel_rfl) ?_; clear hr a; intro a hr
      refine el [0, 2, 5, 7, 9, 11] (b := b14) (off := 2) (cs := [.slice car13 r7.Log.length r7.Log.length]) (fun _ hk => ⟨hk, fun w hD => hD.1⟩) 12 1 rfl (by kernel_rfl) (wn rfl) hr (.slice car13 r7.Log.length r7.Log.length) ⟨(h.pick 3).cell 2 rfl, trivial⟩ (fun w hc => rl rfl (by kernel_rfl) (by kernel_rfl) hc.1) ?_; clear hr a; intro a hr
      refine evD hgo ⟨⟨(h.pick 3).cell 2 rfl, trivial⟩, ⟨(h.pick 6).row_cell enc_T_api_Access_ok (f := 0) (at_ok c26) rfl, (h.pick 6).row_cell enc_T_api_Access_ok (f := 1) (at_ok c26) rfl, (h.pick 6).row_cell enc_T_api_Access_ok (f := 2) (at_ok c26) rfl, (h.pick 6).row_cell enc_T_api_Access_ok (f := 3) (at_ok c26) rfl, (h.pick 6).row_cell enc_T_api_Access_ok (f := 4) (at_ok c26) rfl, (h.pick 6).row_cell enc_T_api_Access_ok (f := 5) (at_ok c26) rfl, trivial⟩, ⟨h.cell 0 rfl, h.cell 1 rfl, h.cell 2 rfl, h.cell 3 rfl, h.cell 4 rfl, h.cell 5 rfl, trivial⟩, ⟨(h.pick 3).cell 0 rfl, trivial⟩, ⟨(h.pick 4).row_cell enc_T_api_Effect_ok (f := 0) (at_ok c28) rfl, (h.pick 4).row_cell enc_T_api_Effect_ok (f := 1) (at_ok c28) rfl, (h.pick 4).row_cell enc_T_api_Effect_ok (f := 2) (at_ok c28) rfl, trivial⟩, trivial⟩ 11 2 rfl (by kernel_rfl) (wn rfl) hr (.pointer (some ⟨blk car13, 0 * 6, none⟩)) (fun w => ri_row (k := .i64) (E := 90) rfl (by kernel_rfl) (by kernel_rfl) (by kernel_rfl) (by kernel_rfl) (h.pick 6) c26) ?_; clear hr a; intro a hr
      refine el [0, 2, 5, 7, 9, 11] (b := blk car13) (off := 0 * 6) (cs := [.int .i64 ((at_ r7.Log 0).Who), .int .i64 ((at_ r7.Log 0).Kind), .int .i64 ((at_ r7.Log 0).Addr), .int .i64 ((at_ r7.Log 0).A), .int .i64 ((at_ r7.Log 0).B), .bool ((at_ r7.Log 0).OK)]) (fun _ hk => ⟨hk, fun w hD => hD.2.1⟩) 10 3 rfl (by kernel_rfl) (wn rfl) hr (.agg #[.int .i64 ((at_ r7.Log 0).Who), .int .i64 ((at_ r7.Log 0).Kind), .int .i64 ((at_ r7.Log 0).Addr), .int .i64 ((at_ r7.Log 0).A), .int .i64 ((at_ r7.Log 0).B), .bool ((at_ r7.Log 0).OK)]) ⟨(h.pick 6).row_cell enc_T_api_Access_ok (f := 0) (at_ok c26) rfl, (h.pick 6).row_cell enc_T_api_Access_ok (f := 1) (at_ok c26) rfl, (h.pick 6).row_cell enc_T_api_Access_ok (f := 2) (at_ok c26) rfl, (h.pick 6).row_cell enc_T_api_Access_ok (f := 3) (at_ok c26) rfl, (h.pick 6).row_cell enc_T_api_Access_ok (f := 4) (at_ok c26) rfl, (h.pick 6).row_cell enc_T_api_Access_ok (f := 5) (at_ok c26) rfl, trivial⟩ (fun w hc => rlm (cs := [.int .i64 ((at_ r7.Log 0).Who), .int .i64 ((at_ r7.Log 0).Kind), .int .i64 ((at_ r7.Log 0).Addr), .int .i64 ((at_ r7.Log 0).A), .int .i64 ((at_ r7.Log 0).B), .bool ((at_ r7.Log 0).OK)]) rfl (by kernel_rfl) (by kernel_rfl) (by kernel_rfl) hc) ?_; clear hr a; intro a hr
      refine el [0, 2, 5, 7, 9, 11] (b := b23) (off := 0) (cs := [.int .i64 ((at_ r3 0).Who), .int .i64 4, .int .i64 0, .int .i64 (wi ((1 : Int) + r1)), .int .i64 0, .bool true]) (fun _ hk => ⟨hk, fun w hD => hD.2.2.1⟩) 9 4 rfl (by kernel_rfl) (wn rfl) hr (.agg #[.int .i64 ((at_ r3 0).Who), .int .i64 4, .int .i64 0, .int .i64 (wi ((1 : Int) + r1)), .int .i64 0, .bool true]) ⟨h.cell 0 rfl, h.cell 1 rfl, h.cell 2 rfl, h.cell 3 rfl, h.cell 4 rfl, h.cell 5 rfl, trivial⟩ (fun w hc => rlm (cs := [.int .i64 ((at_ r3 0).Who), .int .i64 4, .int .i64 0, .int .i64 (wi ((1 : Int) + r1)), .int .i64 0, .bool true]) rfl (by kernel_rfl) (by kernel_rfl) (by kernel_rfl) hc) ?_; clear hr a; intro a hr
      refine evD hgo ⟨⟨(h.pick 3).cell 2 rfl, trivial⟩, ⟨(h.pick 6).row_cell enc_T_api_Access_ok (f := 0) (at_ok c26) rfl, (h.pick 6).row_cell enc_T_api_Access_ok (f := 1) (at_ok c26) rfl, (h.pick 6).row_cell enc_T_api_Access_ok (f := 2) (at_ok c26) rfl, (h.pick 6).row_cell enc_T_api_Access_ok (f := 3) (at_ok c26) rfl, (h.pick 6).row_cell enc_T_api_Access_ok (f := 4) (at_ok c26) rfl, (h.pick 6).row_cell enc_T_api_Access_ok (f := 5) (at_ok c26) rfl, trivial⟩, ⟨h.cell 0 rfl, h.cell 1 rfl, h.cell 2 rfl, h.cell 3 rfl, h.cell 4 rfl, h.cell 5 rfl, trivial⟩, ⟨(h.pick 3).cell 0 rfl, trivial⟩, ⟨(h.pick 4).row_cell enc_T_api_Effect_ok (f := 0) (at_ok c28) rfl, (h.pick 4).row_cell enc_T_api_Effect_ok (f := 1) (at_ok c28) rfl, (h.pick 4).row_cell enc_T_api_Effect_ok (f := 2) (at_ok c28) rfl, trivial⟩, trivial⟩ 8 5 rfl (by kernel_rfl) (wn rfl) hr (.bool (!(decide (at_ r7.Log 0 = (⟨(at_ r3 0).Who, 4, 0, wi ((1 : Int) + r1), 0, true⟩ : T_api_Access))))) (fun w => rb (rne rfl (by kernel_rfl) (by kernel_rfl) (by kernel_rfl) (by kernel_rfl) (by kernel_rfl) (by kernel_rfl)) (congrArg (!·) (eq_T_api_Access (at_ r7.Log 0) (⟨(at_ r3 0).Who, 4, 0, wi ((1 : Int) + r1), 0, true⟩ : T_api_Access)))) ?_; clear hr a; intro a hr
      refine ev 7 6 rfl (by kernel_rfl) (wn rfl) hr (.bool (!(decide (at_ r7.Log 0 = (⟨(at_ r3 0).Who, 4, 0, wi ((1 : Int) + r1), 0, true⟩ : T_api_Access))))) (fun w => by kernel_rfl) ?_; clear hr a; intro a hr
      refine evD hgo ⟨⟨(h.pick 3).cell 2 rfl, trivial⟩, ⟨(h.pick 6).row_cell enc_T_api_Access_ok (f := 0) (at_ok c26) rfl, (h.pick 6).row_cell enc_T_api_Access_ok (f := 1) (at_ok c26) rfl, (h.pick 6).row_cell enc_T_api_Access_ok (f := 2) (at_ok c26) rfl, (h.pick 6).row_cell enc_T_api_Access_ok (f := 3) (at_ok c26) rfl, (h.pick 6).row_cell enc_T_api_Access_ok (f := 4) (at_ok c26) rfl, (h.pick 6).row_cell enc_T_api_Access_ok (f := 5) (at_ok c26) rfl, trivial⟩, ⟨h.cell 0 rfl, h.cell 1 rfl, h.cell 2 rfl, h.cell 3 rfl, h.cell 4 rfl, h.cell 5 rfl, trivial⟩, ⟨(h.pick 3).cell 0 rfl, trivial⟩, ⟨(h.pick 4).row_cell enc_T_api_Effect_ok (f := 0) (at_ok c28) rfl, (h.pick 4).row_cell enc_T_api_Effect_ok (f := 1) (at_ok c28) rfl, (h.pick 4).row_cell enc_T_api_Effect_ok (f := 2) (at_ok c28) rfl, trivial⟩, trivial⟩ 6 7 rfl (by kernel_rfl) ((wg hr rfl rfl rfl (b' := (!(decide (at_ r7.Log 0 = (⟨(at_ r3 0).Who, 4, 0, wi ((1 : Int) + r1), 0, true⟩ : T_api_Access))))) (by kernel_rfl)).trans (by rw [show (!(decide (at_ r7.Log 0 = (⟨(at_ r3 0).Who, 4, 0, wi ((1 : Int) + r1), 0, true⟩ : T_api_Access)))) = false from (by rw [show (decide (at_ r7.Log 0 = (⟨(at_ r3 0).Who, 4, 0, wi ((1 : Int) + r1), 0, true⟩ : T_api_Access))) = true from (decide_eq_true c27)]; rfl)]; rfl)) hr (.pointer (some ⟨b14, 0, none⟩)) (fun w => by kernel_rfl) ?_; clear hr a; intro a hr
      refine evD hgo ⟨⟨(h.pick 3).cell 2 rfl, trivial⟩, ⟨(h.pick 6).row_cell enc_T_api_Access_ok (f := 0) (at_ok c26) rfl, (h.pick 6).row_cell enc_T_api_Access_ok (f := 1) (at_ok c26) rfl, (h.pick 6).row_cell enc_T_api_Access_ok (f := 2) (at_ok c26) rfl, (h.pick 6).row_cell enc_T_api_Access_ok (f := 3) (at_ok c26) rfl, (h.pick 6).row_cell enc_T_api_Access_ok (f := 4) (at_ok c26) rfl, (h.pick 6).row_cell enc_T_api_Access_ok (f := 5) (at_ok c26) rfl, trivial⟩, ⟨h.cell 0 rfl, h.cell 1 rfl, h.cell 2 rfl, h.cell 3 rfl, h.cell 4 rfl, h.cell 5 rfl, trivial⟩, ⟨(h.pick 3).cell 0 rfl, trivial⟩, ⟨(h.pick 4).row_cell enc_T_api_Effect_ok (f := 0) (at_ok c28) rfl, (h.pick 4).row_cell enc_T_api_Effect_ok (f := 1) (at_ok c28) rfl, (h.pick 4).row_cell enc_T_api_Effect_ok (f := 2) (at_ok c28) rfl, trivial⟩, trivial⟩ 5 11 rfl (by kernel_rfl) ((wg hr rfl rfl rfl (b' := (!(decide (at_ r7.Log 0 = (⟨(at_ r3 0).Who, 4, 0, wi ((1 : Int) + r1), 0, true⟩ : T_api_Access))))) (by kernel_rfl)).trans (by rw [show (!(decide (at_ r7.Log 0 = (⟨(at_ r3 0).Who, 4, 0, wi ((1 : Int) + r1), 0, true⟩ : T_api_Access)))) = false from (by rw [show (decide (at_ r7.Log 0 = (⟨(at_ r3 0).Who, 4, 0, wi ((1 : Int) + r1), 0, true⟩ : T_api_Access))) = true from (decide_eq_true c27)]; rfl)]; rfl)) hr (.agg #[.int .i64 0, .bool true, .int .i64 0]) (fun w => by kernel_rfl) ?_; clear hr a; intro a hr
      refine el [0, 2, 5, 7, 9, 11] (b := b14) (off := 0) (cs := [.slice car10 r7.Effects.length ccr11]) (fun _ hk => ⟨hk, fun w hD => hD.2.2.2.1⟩) 4 8 rfl (by kernel_rfl) ((wg hr rfl rfl rfl (b' := (!(decide (at_ r7.Log 0 = (⟨(at_ r3 0).Who, 4, 0, wi ((1 : Int) + r1), 0, true⟩ : T_api_Access))))) (by kernel_rfl)).trans (by rw [show (!(decide (at_ r7.Log 0 = (⟨(at_ r3 0).Who, 4, 0, wi ((1 : Int) + r1), 0, true⟩ : T_api_Access)))) = false from (by rw [show (decide (at_ r7.Log 0 = (⟨(at_ r3 0).Who, 4, 0, wi ((1 : Int) + r1), 0, true⟩ : T_api_Access))) = true from (decide_eq_true c27)]; rfl)]; rfl)) hr (.slice car10 r7.Effects.length ccr11) ⟨(h.pick 3).cell 0 rfl, trivial⟩ (fun w hc => rl rfl (by kernel_rfl) (by kernel_rfl) hc.1) ?_; clear hr a; intro a hr
      refine evD hgo ⟨⟨(h.pick 3).cell 2 rfl, trivial⟩, ⟨(h.pick 6).row_cell enc_T_api_Access_ok (f := 0) (at_ok c26) rfl, (h.pick 6).row_cell enc_T_api_Access_ok (f := 1) (at_ok c26) rfl, (h.pick 6).row_cell enc_T_api_Access_ok (f := 2) (at_ok c26) rfl, (h.pick 6).row_cell enc_T_api_Access_ok (f := 3) (at_ok c26) rfl, (h.pick 6).row_cell enc_T_api_Access_ok (f := 4) (at_ok c26) rfl, (h.pick 6).row_cell enc_T_api_Access_ok (f := 5) (at_ok c26) rfl, trivial⟩, ⟨h.cell 0 rfl, h.cell 1 rfl, h.cell 2 rfl, h.cell 3 rfl, h.cell 4 rfl, h.cell 5 rfl, trivial⟩, ⟨(h.pick 3).cell 0 rfl, trivial⟩, ⟨(h.pick 4).row_cell enc_T_api_Effect_ok (f := 0) (at_ok c28) rfl, (h.pick 4).row_cell enc_T_api_Effect_ok (f := 1) (at_ok c28) rfl, (h.pick 4).row_cell enc_T_api_Effect_ok (f := 2) (at_ok c28) rfl, trivial⟩, trivial⟩ 3 9 rfl (by kernel_rfl) ((wg hr rfl rfl rfl (b' := (!(decide (at_ r7.Log 0 = (⟨(at_ r3 0).Who, 4, 0, wi ((1 : Int) + r1), 0, true⟩ : T_api_Access))))) (by kernel_rfl)).trans (by rw [show (!(decide (at_ r7.Log 0 = (⟨(at_ r3 0).Who, 4, 0, wi ((1 : Int) + r1), 0, true⟩ : T_api_Access)))) = false from (by rw [show (decide (at_ r7.Log 0 = (⟨(at_ r3 0).Who, 4, 0, wi ((1 : Int) + r1), 0, true⟩ : T_api_Access))) = true from (decide_eq_true c27)]; rfl)]; rfl)) hr (.pointer (some ⟨blk car10, 0 * 3, none⟩)) (fun w => ri_row (k := .i64) (E := 39) rfl (by kernel_rfl) (by kernel_rfl) (by kernel_rfl) (by kernel_rfl) (h.pick 4) c28) ?_; clear hr a; intro a hr
      refine el [0, 2, 5, 7, 9, 11] (b := blk car10) (off := 0 * 3) (cs := [.int .i64 ((at_ r7.Effects 0).V), .bool ((at_ r7.Effects 0).OK), .int .i64 ((at_ r7.Effects 0).Err)]) (fun _ hk => ⟨hk, fun w hD => hD.2.2.2.2.1⟩) 2 10 rfl (by kernel_rfl) ((wg hr rfl rfl rfl (b' := (!(decide (at_ r7.Log 0 = (⟨(at_ r3 0).Who, 4, 0, wi ((1 : Int) + r1), 0, true⟩ : T_api_Access))))) (by kernel_rfl)).trans (by rw [show (!(decide (at_ r7.Log 0 = (⟨(at_ r3 0).Who, 4, 0, wi ((1 : Int) + r1), 0, true⟩ : T_api_Access)))) = false from (by rw [show (decide (at_ r7.Log 0 = (⟨(at_ r3 0).Who, 4, 0, wi ((1 : Int) + r1), 0, true⟩ : T_api_Access))) = true from (decide_eq_true c27)]; rfl)]; rfl)) hr (.agg #[.int .i64 ((at_ r7.Effects 0).V), .bool ((at_ r7.Effects 0).OK), .int .i64 ((at_ r7.Effects 0).Err)]) ⟨(h.pick 4).row_cell enc_T_api_Effect_ok (f := 0) (at_ok c28) rfl, (h.pick 4).row_cell enc_T_api_Effect_ok (f := 1) (at_ok c28) rfl, (h.pick 4).row_cell enc_T_api_Effect_ok (f := 2) (at_ok c28) rfl, trivial⟩ (fun w hc => rlm (cs := [.int .i64 ((at_ r7.Effects 0).V), .bool ((at_ r7.Effects 0).OK), .int .i64 ((at_ r7.Effects 0).Err)]) rfl (by kernel_rfl) (by kernel_rfl) (by kernel_rfl) hc) ?_; clear hr a; intro a hr
      refine ev 1 12 rfl (by kernel_rfl) ((wg hr rfl rfl rfl (b' := (!(decide (at_ r7.Log 0 = (⟨(at_ r3 0).Who, 4, 0, wi ((1 : Int) + r1), 0, true⟩ : T_api_Access))))) (by kernel_rfl)).trans (by rw [show (!(decide (at_ r7.Log 0 = (⟨(at_ r3 0).Who, 4, 0, wi ((1 : Int) + r1), 0, true⟩ : T_api_Access)))) = false from (by rw [show (decide (at_ r7.Log 0 = (⟨(at_ r3 0).Who, 4, 0, wi ((1 : Int) + r1), 0, true⟩ : T_api_Access))) = true from (decide_eq_true c27)]; rfl)]; rfl)) hr (.bool (!(decide (at_ r7.Effects 0 = (⟨0, true, 0⟩ : T_api_Effect))))) (fun w => rb (rne rfl (by kernel_rfl) (by kernel_rfl) (by kernel_rfl) (by kernel_rfl) (by kernel_rfl) (by kernel_rfl)) (congrArg (!·) (eq_T_api_Effect (at_ r7.Effects 0) (⟨0, true, 0⟩ : T_api_Effect)))) ?_; clear hr a; intro a hr
      refine ev 0 13 rfl (by kernel_rfl) (wn rfl) hr (.bool (!(decide (at_ r7.Effects 0 = (⟨0, true, 0⟩ : T_api_Effect))))) (fun w => rp_f (b := (!(decide (at_ r7.Log 0 = (⟨(at_ r3 0).Who, 4, 0, wi ((1 : Int) + r1), 0, true⟩ : T_api_Access))))) rfl (by kernel_rfl) (by rw [show (decide (at_ r7.Log 0 = (⟨(at_ r3 0).Who, 4, 0, wi ((1 : Int) + r1), 0, true⟩ : T_api_Access))) = true from (decide_eq_true c27)]; rfl) (by kernel_rfl)) ?_; clear hr a; intro a hr
      refine e_end (by kernel_rfl) ?_
      refine then_normal ?_
      by_cases c29 : at_ r7.Effects 0 = (⟨0, true, 0⟩ : T_api_Effect)
      ·
        replace H := ifT c29 H
        refine cond_ff hr (b := (!(decide (at_ r7.Effects 0 = (⟨0, true, 0⟩ : T_api_Effect))))) (by rw [show (decide (at_ r7.Effects 0 = (⟨0, true, 0⟩ : T_api_Effect))) = true from (decide_eq_true c29)]; rfl) ?_
        refine wp_skip ?_
        refine then_normal ?_
        replace hr := hr.fold2 [(0, .int .i64 (wi ((1 : Int) + r1))), (5, .slice car5 r3.length ccr6), (6, .pointer (some ⟨b14, 0, none⟩)), (8, .pointer (some ⟨b21, 0, none⟩))] (by kernel_rfl); obtain ⟨j, hr⟩ := hr
        replace h : Fit z (sepL (ro57 car5 ccr6 r3 :: ob70 b14 r7 car10 ccr11 car12 r7.Cells.length car13 r7.Log.length :: ro39 car10 ccr11 r7.Effects :: ro2 car12 r7.Cells.length r7.Cells :: ro90 car13 r7.Log.length r7.Log :: rowOf 88 1 encZ_i64 (.slice (some ⟨b21, 0, none⟩) 64 64) (List.replicate 64 (0 : Int)) :: L)) _ := h.sel 7 [2, 3, 4, 5, 6, 1] (by kernel_rfl) (by kernel_rfl)
        exact ⟨(), sinj H, j, hr, h⟩
      ·
        replace H := ifF c29 H
        refine cond_tt hr (b := (!(decide (at_ r7.Effects 0 = (⟨0, true, 0⟩ : T_api_Effect))))) (by rw [show (decide (at_ r7.Effects 0 = (⟨0, true, 0⟩ : T_api_Effect))) = false from (decide_eq_false c29)]; rfl) ?_
        refine wp_seq ?_
        refine wp_region_lit ?_
        refine ov hr (.bool false) (by kernel_rfl) ?_; clear hr a; intro a hr
        refine wpList_nil ?_
        refine then_normal ?_
        refine wp_ret ?_
        refine then_ret ?_
        refine end_ret1 (v := .bool false) rfl hr (by kernel_rfl) ?_
        replace H := jx0 H hK24
        replace h : Fit z (sepL (L)) _ := h.sel 7 [] (by kernel_rfl) (by kernel_rfl)
        replace H := ej1 H; subst H
        exact ⟨rfl, h⟩
    ·
      replace H := ifF c27 H
      refine reg_E (fun w => heldC w b14 2 [.slice car13 r7.Log.length r7.Log.length] ∧ heldC w (blk car13) (0 * 6) [.int .i64 ((at_ r7.Log 0).Who), .int .i64 ((at_ r7.Log 0).Kind), .int .i64 ((at_ r7.Log 0).Addr), .int .i64 ((at_ r7.Log 0).A), .int .i64 ((at_ r7.Log 0).B), .bool ((at_ r7.Log 0).OK)] ∧ heldC w b23 0 [.int .i64 ((at_ r3 0).Who), .int .i64 4, .int .i64 0, .int .i64 (wi ((1 : Int) + r1)), .int .i64 0, .bool true] ∧ True) [0, 2] h (by kernel_rfl) ?_; intro w h
      change wpAnyE _ _ _ _ _ _ 14 (Array.replicate 14 false) a w
      have hgo : ∀ w w', CellsGo w w' → (heldC w b14 2 [.slice car13 r7.Log.length r7.Log.length] ∧ heldC w (blk car13) (0 * 6) [.int .i64 ((at_ r7.Log 0).Who), .int .i64 ((at_ r7.Log 0).Kind), .int .i64 ((at_ r7.Log 0).Addr), .int .i64 ((at_ r7.Log 0).A), .int .i64 ((at_ r7.Log 0).B), .bool ((at_ r7.Log 0).OK)] ∧ heldC w b23 0 [.int .i64 ((at_ r3 0).Who), .int .i64 4, .int .i64 0, .int .i64 (wi ((1 : Int) + r1)), .int .i64 0, .bool true] ∧ True) → heldC w' b14 2 [.slice car13 r7.Log.length r7.Log.length] ∧ heldC w' (blk car13) (0 * 6) [.int .i64 ((at_ r7.Log 0).Who), .int .i64 ((at_ r7.Log 0).Kind), .int .i64 ((at_ r7.Log 0).Addr), .int .i64 ((at_ r7.Log 0).A), .int .i64 ((at_ r7.Log 0).B), .bool ((at_ r7.Log 0).OK)] ∧ heldC w' b23 0 [.int .i64 ((at_ r3 0).Who), .int .i64 4, .int .i64 0, .int .i64 (wi ((1 : Int) + r1)), .int .i64 0, .bool true] ∧ True := fun w w' g hD => ⟨heldC_go _ _ _ _ _ g hD.1, heldC_go _ _ _ _ _ g hD.2.1, heldC_go _ _ _ _ _ g hD.2.2.1, trivial⟩
      refine evD hgo ⟨⟨(h.pick 3).cell 2 rfl, trivial⟩, ⟨(h.pick 6).row_cell enc_T_api_Access_ok (f := 0) (at_ok c26) rfl, (h.pick 6).row_cell enc_T_api_Access_ok (f := 1) (at_ok c26) rfl, (h.pick 6).row_cell enc_T_api_Access_ok (f := 2) (at_ok c26) rfl, (h.pick 6).row_cell enc_T_api_Access_ok (f := 3) (at_ok c26) rfl, (h.pick 6).row_cell enc_T_api_Access_ok (f := 4) (at_ok c26) rfl, (h.pick 6).row_cell enc_T_api_Access_ok (f := 5) (at_ok c26) rfl, trivial⟩, ⟨h.cell 0 rfl, h.cell 1 rfl, h.cell 2 rfl, h.cell 3 rfl, h.cell 4 rfl, h.cell 5 rfl, trivial⟩, trivial⟩ 13 0 rfl (by kernel_rfl) (wn rfl) hr (.pointer (some ⟨b14, 2, none⟩)) (fun w => by kernel_rfl) ?_; clear hr a; intro a hr
      refine el [0, 2] (b := b14) (off := 2) (cs := [.slice car13 r7.Log.length r7.Log.length]) (fun _ hk => ⟨hk, fun w hD => hD.1⟩) 12 1 rfl (by kernel_rfl) (wn rfl) hr (.slice car13 r7.Log.length r7.Log.length) ⟨(h.pick 3).cell 2 rfl, trivial⟩ (fun w hc => rl rfl (by kernel_rfl) (by kernel_rfl) hc.1) ?_; clear hr a; intro a hr
      refine evD hgo ⟨⟨(h.pick 3).cell 2 rfl, trivial⟩, ⟨(h.pick 6).row_cell enc_T_api_Access_ok (f := 0) (at_ok c26) rfl, (h.pick 6).row_cell enc_T_api_Access_ok (f := 1) (at_ok c26) rfl, (h.pick 6).row_cell enc_T_api_Access_ok (f := 2) (at_ok c26) rfl, (h.pick 6).row_cell enc_T_api_Access_ok (f := 3) (at_ok c26) rfl, (h.pick 6).row_cell enc_T_api_Access_ok (f := 4) (at_ok c26) rfl, (h.pick 6).row_cell enc_T_api_Access_ok (f := 5) (at_ok c26) rfl, trivial⟩, ⟨h.cell 0 rfl, h.cell 1 rfl, h.cell 2 rfl, h.cell 3 rfl, h.cell 4 rfl, h.cell 5 rfl, trivial⟩, trivial⟩ 11 2 rfl (by kernel_rfl) (wn rfl) hr (.pointer (some ⟨blk car13, 0 * 6, none⟩)) (fun w => ri_row (k := .i64) (E := 90) rfl (by kernel_rfl) (by kernel_rfl) (by kernel_rfl) (by kernel_rfl) (h.pick 6) c26) ?_; clear hr a; intro a hr
      refine el [0, 2] (b := blk car13) (off := 0 * 6) (cs := [.int .i64 ((at_ r7.Log 0).Who), .int .i64 ((at_ r7.Log 0).Kind), .int .i64 ((at_ r7.Log 0).Addr), .int .i64 ((at_ r7.Log 0).A), .int .i64 ((at_ r7.Log 0).B), .bool ((at_ r7.Log 0).OK)]) (fun _ hk => ⟨hk, fun w hD => hD.2.1⟩) 10 3 rfl (by kernel_rfl) (wn rfl) hr (.agg #[.int .i64 ((at_ r7.Log 0).Who), .int .i64 ((at_ r7.Log 0).Kind), .int .i64 ((at_ r7.Log 0).Addr), .int .i64 ((at_ r7.Log 0).A), .int .i64 ((at_ r7.Log 0).B), .bool ((at_ r7.Log 0).OK)]) ⟨(h.pick 6).row_cell enc_T_api_Access_ok (f := 0) (at_ok c26) rfl, (h.pick 6).row_cell enc_T_api_Access_ok (f := 1) (at_ok c26) rfl, (h.pick 6).row_cell enc_T_api_Access_ok (f := 2) (at_ok c26) rfl, (h.pick 6).row_cell enc_T_api_Access_ok (f := 3) (at_ok c26) rfl, (h.pick 6).row_cell enc_T_api_Access_ok (f := 4) (at_ok c26) rfl, (h.pick 6).row_cell enc_T_api_Access_ok (f := 5) (at_ok c26) rfl, trivial⟩ (fun w hc => rlm (cs := [.int .i64 ((at_ r7.Log 0).Who), .int .i64 ((at_ r7.Log 0).Kind), .int .i64 ((at_ r7.Log 0).Addr), .int .i64 ((at_ r7.Log 0).A), .int .i64 ((at_ r7.Log 0).B), .bool ((at_ r7.Log 0).OK)]) rfl (by kernel_rfl) (by kernel_rfl) (by kernel_rfl) hc) ?_; clear hr a; intro a hr
      refine el [0, 2] (b := b23) (off := 0) (cs := [.int .i64 ((at_ r3 0).Who), .int .i64 4, .int .i64 0, .int .i64 (wi ((1 : Int) + r1)), .int .i64 0, .bool true]) (fun _ hk => ⟨hk, fun w hD => hD.2.2.1⟩) 9 4 rfl (by kernel_rfl) (wn rfl) hr (.agg #[.int .i64 ((at_ r3 0).Who), .int .i64 4, .int .i64 0, .int .i64 (wi ((1 : Int) + r1)), .int .i64 0, .bool true]) ⟨h.cell 0 rfl, h.cell 1 rfl, h.cell 2 rfl, h.cell 3 rfl, h.cell 4 rfl, h.cell 5 rfl, trivial⟩ (fun w hc => rlm (cs := [.int .i64 ((at_ r3 0).Who), .int .i64 4, .int .i64 0, .int .i64 (wi ((1 : Int) + r1)), .int .i64 0, .bool true]) rfl (by kernel_rfl) (by kernel_rfl) (by kernel_rfl) hc) ?_; clear hr a; intro a hr
      refine ev 8 5 rfl (by kernel_rfl) (wn rfl) hr (.bool (!(decide (at_ r7.Log 0 = (⟨(at_ r3 0).Who, 4, 0, wi ((1 : Int) + r1), 0, true⟩ : T_api_Access))))) (fun w => rb (rne rfl (by kernel_rfl) (by kernel_rfl) (by kernel_rfl) (by kernel_rfl) (by kernel_rfl) (by kernel_rfl)) (congrArg (!·) (eq_T_api_Access (at_ r7.Log 0) (⟨(at_ r3 0).Who, 4, 0, wi ((1 : Int) + r1), 0, true⟩ : T_api_Access)))) ?_; clear hr a; intro a hr
      refine ev 7 6 rfl (by kernel_rfl) (wn rfl) hr (.bool (!(decide (at_ r7.Log 0 = (⟨(at_ r3 0).Who, 4, 0, wi ((1 : Int) + r1), 0, true⟩ : T_api_Access))))) (fun w => by kernel_rfl) ?_; clear hr a; intro a hr
      refine eo 6 7 rfl (by kernel_rfl) ((wg hr rfl rfl rfl (b' := (!(decide (at_ r7.Log 0 = (⟨(at_ r3 0).Who, 4, 0, wi ((1 : Int) + r1), 0, true⟩ : T_api_Access))))) (by kernel_rfl)).trans (by rw [show (!(decide (at_ r7.Log 0 = (⟨(at_ r3 0).Who, 4, 0, wi ((1 : Int) + r1), 0, true⟩ : T_api_Access)))) = true from (by rw [show (decide (at_ r7.Log 0 = (⟨(at_ r3 0).Who, 4, 0, wi ((1 : Int) + r1), 0, true⟩ : T_api_Access))) = false from (decide_eq_false c27)]; rfl)]; rfl)) hr ?_; clear hr a; intro a hr
      refine eo 5 11 rfl (by kernel_rfl) ((wg hr rfl rfl rfl (b' := (!(decide (at_ r7.Log 0 = (⟨(at_ r3 0).Who, 4, 0, wi ((1 : Int) + r1), 0, true⟩ : T_api_Access))))) (by kernel_rfl)).trans (by rw [show (!(decide (at_ r7.Log 0 = (⟨(at_ r3 0).Who, 4, 0, wi ((1 : Int) + r1), 0, true⟩ : T_api_Access)))) = true from (by rw [show (decide (at_ r7.Log 0 = (⟨(at_ r3 0).Who, 4, 0, wi ((1 : Int) + r1), 0, true⟩ : T_api_Access))) = false from (decide_eq_false c27)]; rfl)]; rfl)) hr ?_; clear hr a; intro a hr
      refine eo 4 8 rfl (by kernel_rfl) ((wg hr rfl rfl rfl (b' := (!(decide (at_ r7.Log 0 = (⟨(at_ r3 0).Who, 4, 0, wi ((1 : Int) + r1), 0, true⟩ : T_api_Access))))) (by kernel_rfl)).trans (by rw [show (!(decide (at_ r7.Log 0 = (⟨(at_ r3 0).Who, 4, 0, wi ((1 : Int) + r1), 0, true⟩ : T_api_Access)))) = true from (by rw [show (decide (at_ r7.Log 0 = (⟨(at_ r3 0).Who, 4, 0, wi ((1 : Int) + r1), 0, true⟩ : T_api_Access))) = false from (decide_eq_false c27)]; rfl)]; rfl)) hr ?_; clear hr a; intro a hr
      refine eo 3 9 rfl (by kernel_rfl) ((wg hr rfl rfl rfl (b' := (!(decide (at_ r7.Log 0 = (⟨(at_ r3 0).Who, 4, 0, wi ((1 : Int) + r1), 0, true⟩ : T_api_Access))))) (by kernel_rfl)).trans (by rw [show (!(decide (at_ r7.Log 0 = (⟨(at_ r3 0).Who, 4, 0, wi ((1 : Int) + r1), 0, true⟩ : T_api_Access)))) = true from (by rw [show (decide (at_ r7.Log 0 = (⟨(at_ r3 0).Who, 4, 0, wi ((1 : Int) + r1), 0, true⟩ : T_api_Access))) = false from (decide_eq_false c27)]; rfl)]; rfl)) hr ?_; clear hr a; intro a hr
      refine eo 2 10 rfl (by kernel_rfl) ((wg hr rfl rfl rfl (b' := (!(decide (at_ r7.Log 0 = (⟨(at_ r3 0).Who, 4, 0, wi ((1 : Int) + r1), 0, true⟩ : T_api_Access))))) (by kernel_rfl)).trans (by rw [show (!(decide (at_ r7.Log 0 = (⟨(at_ r3 0).Who, 4, 0, wi ((1 : Int) + r1), 0, true⟩ : T_api_Access)))) = true from (by rw [show (decide (at_ r7.Log 0 = (⟨(at_ r3 0).Who, 4, 0, wi ((1 : Int) + r1), 0, true⟩ : T_api_Access))) = false from (decide_eq_false c27)]; rfl)]; rfl)) hr ?_; clear hr a; intro a hr
      refine eo 1 12 rfl (by kernel_rfl) ((wg hr rfl rfl rfl (b' := (!(decide (at_ r7.Log 0 = (⟨(at_ r3 0).Who, 4, 0, wi ((1 : Int) + r1), 0, true⟩ : T_api_Access))))) (by kernel_rfl)).trans (by rw [show (!(decide (at_ r7.Log 0 = (⟨(at_ r3 0).Who, 4, 0, wi ((1 : Int) + r1), 0, true⟩ : T_api_Access)))) = true from (by rw [show (decide (at_ r7.Log 0 = (⟨(at_ r3 0).Who, 4, 0, wi ((1 : Int) + r1), 0, true⟩ : T_api_Access))) = false from (decide_eq_false c27)]; rfl)]; rfl)) hr ?_; clear hr a; intro a hr
      refine ev 0 13 rfl (by kernel_rfl) (wn rfl) hr (.bool true) (fun w => rp_t (b := (!(decide (at_ r7.Log 0 = (⟨(at_ r3 0).Who, 4, 0, wi ((1 : Int) + r1), 0, true⟩ : T_api_Access))))) rfl (by kernel_rfl) (by rw [show (decide (at_ r7.Log 0 = (⟨(at_ r3 0).Who, 4, 0, wi ((1 : Int) + r1), 0, true⟩ : T_api_Access))) = false from (decide_eq_false c27)]; rfl) (by kernel_rfl)) ?_; clear hr a; intro a hr
      refine e_end (by kernel_rfl) ?_
      refine then_normal ?_
      refine cond_tt hr (b := true) rfl ?_
      refine wp_seq ?_
      refine wp_region_lit ?_
      refine ov hr (.bool false) (by kernel_rfl) ?_; clear hr a; intro a hr
      refine wpList_nil ?_
      refine then_normal ?_
      refine wp_ret ?_
      refine then_ret ?_
      refine end_ret1 (v := .bool false) rfl hr (by kernel_rfl) ?_
      replace H := jx0 H hK24
      replace h : Fit z (sepL (L)) _ := h.sel 7 [] (by kernel_rfl) (by kernel_rfl)
      replace H := ej1 H; subst H
      exact ⟨rfl, h⟩
  clear h hr a; rintro _ a w ⟨rfl, j, hr, h⟩
  replace H := jk0 hK24
  replace H := jd1 H; obtain ⟨o32, H, hK31⟩ := H
  refine cut_rule (β := Unit) (fun _ a w => ∃ l30 : List Int, .inl l30 = o32 ∧ ∃ j, Rep 259 (lk [(0, .int .i64 (wi ((1 : Int) + r1))), (6, .pointer (some ⟨b14, 0, none⟩)), (8, .pointer (some ⟨b21, 0, none⟩))] j) a ∧ Fit z (sepL (ob70 b14 r7 car10 ccr11 car12 r7.Cells.length car13 r7.Log.length :: ro39 car10 ccr11 r7.Effects :: ro2 car12 r7.Cells.length r7.Cells :: ro90 car13 r7.Log.length r7.Log :: rowOf 88 1 encZ_i64 (.slice (some ⟨b21, 0, none⟩) 64 64) l30 :: L)) w) ?_ ?_
  ·
    refine wp_seq ?_
    refine wp_region_lit ?_
    refine ov hr (.int .i64 1) (by kernel_rfl) ?_; clear hr a; intro a hr
    refine wpList_nil ?_
    refine then_normal ?_
    refine wp_block ?_
    replace hr := hr.fold2 [(0, .int .i64 (wi ((1 : Int) + r1))), (5, .slice car5 r3.length ccr6), (6, .pointer (some ⟨b14, 0, none⟩)), (8, .pointer (some ⟨b21, 0, none⟩)), (10, .int .i64 1)] (by kernel_rfl); obtain ⟨j, hr⟩ := hr
    refine loop_rule (β := Nat) id (fun m a w => ∃ l33 : List Int, ∃ g34 : Int, (plunderlaw2_CellsMemory_l1 K r3 r7 m l33 g34) = some o32 ∧ ∃ j, Rep 259 (lk [(0, .int .i64 (wi ((1 : Int) + r1))), (5, .slice car5 r3.length ccr6), (6, .pointer (some ⟨b14, 0, none⟩)), (8, .pointer (some ⟨b21, 0, none⟩)), (10, .int .i64 g34)] j) a ∧ Fit z (sepL (ro57 car5 ccr6 r3 :: ob70 b14 r7 car10 ccr11 car12 r7.Cells.length car13 r7.Log.length :: ro39 car10 ccr11 r7.Effects :: ro2 car12 r7.Cells.length r7.Cells :: ro90 car13 r7.Log.length r7.Log :: rowOf 88 1 encZ_i64 (.slice (some ⟨b21, 0, none⟩) 64 64) l33 :: L)) w) K ⟨(List.replicate 64 (0 : Int)), 1, H, j, hr, h⟩ ?_
    clear h hr a H; rintro k1 a w ⟨l33, g34, H, j, hr, h⟩
    cases k1 with
    | zero => exact absurd H (by simp [plunderlaw2_CellsMemory_l1])
    | succ k1 =>
      rw [plunderlaw2_CellsMemory_l1] at H
      refine wp_seq ?_
      refine wp_seq ?_
      refine wp_region_lit ?_
      refine ovs [74, 75, 76, 77] [.int .i64 g34, .slice car5 r3.length ccr6, .int .i64 ((r3.length : Nat) : Int), .bool (decide (g34 < ((r3.length : Nat) : Int)))] hr ⟨rfl, rfl⟩ (by kernel_rfl) ?_; clear hr a; intro a hr
      refine wpList_nil ?_
      refine then_normal ?_
      by_cases c35 : g34 < ((r3.length : Nat) : Int)
      ·
        replace H := ifT c35 H
        refine cond_tt hr (b := (decide (g34 < ((r3.length : Nat) : Int)))) (decide_eq_true c35) ?_
        refine wp_skip ?_
        refine then_normal ?_
        refine wp_seq ?_
        refine wp_block ?_
        refine wp_seq ?_
        refine wp_region_lit ?_
        replace H := gd H; obtain ⟨c36, H⟩ := H
        refine ovs [80, 81] [.slice car5 r3.length ccr6, .int .i64 g34] hr ⟨rfl, rfl⟩ (by kernel_rfl) ?_; clear hr a; intro a hr
        refine op_val (wn rfl) rfl rfl hr (v := .pointer (some ⟨blk car5, g34.toNat * 5, none⟩)) (ri_row (k := .i64) (E := 57) rfl (by kernel_rfl) (by kernel_rfl) (by kernel_rfl) (by kernel_rfl) h c36) ?_; clear hr a; intro a hr
        refine op_val (wn rfl) rfl rfl hr (v := .agg #[.int .i64 ((at_ r3 g34.toNat).Who), .int .i64 ((at_ r3 g34.toNat).Kind), .int .i64 ((at_ r3 g34.toNat).Addr), .int .i64 ((at_ r3 g34.toNat).A), .int .i64 ((at_ r3 g34.toNat).B)]) (rlm (cs := [.int .i64 ((at_ r3 g34.toNat).Who), .int .i64 ((at_ r3 g34.toNat).Kind), .int .i64 ((at_ r3 g34.toNat).Addr), .int .i64 ((at_ r3 g34.toNat).A), .int .i64 ((at_ r3 g34.toNat).B)]) rfl (by kernel_rfl) (by kernel_rfl) (by kernel_rfl) ⟨h.row_cell enc_T_api_Act_ok (f := 0) (at_ok c36) rfl, h.row_cell enc_T_api_Act_ok (f := 1) (at_ok c36) rfl, h.row_cell enc_T_api_Act_ok (f := 2) (at_ok c36) rfl, h.row_cell enc_T_api_Act_ok (f := 3) (at_ok c36) rfl, h.row_cell enc_T_api_Act_ok (f := 4) (at_ok c36) rfl, trivial⟩) ?_; clear hr a; intro a hr
        refine op_new (wn rfl) rfl rfl hr h (vf := fun b => .pointer (some ⟨b, 0, none⟩)) (cs := #[.int .i64 0, .int .i64 0, .int .i64 0, .int .i64 0, .int .i64 0]) (T := 57) (by kernel_rfl) ?_; clear h hr a; intro b37 w a h hr
        refine op_stores (wn rfl) rfl hr rfl (by kernel_rfl) (by kernel_rfl) (vs := [.int .i64 ((at_ r3 g34.toNat).Who), .int .i64 ((at_ r3 g34.toNat).Kind), .int .i64 ((at_ r3 g34.toNat).Addr), .int .i64 ((at_ r3 g34.toNat).A), .int .i64 ((at_ r3 g34.toNat).B)]) rfl rfl (by kernel_rfl) h (i := 0) (cs' := #[.int .i64 ((at_ r3 g34.toNat).Who), .int .i64 ((at_ r3 g34.toNat).Kind), .int .i64 ((at_ r3 g34.toNat).Addr), .int .i64 ((at_ r3 g34.toNat).A), .int .i64 ((at_ r3 g34.toNat).B)]) rfl ?_; clear h; intro w h
        refine wpList_nil ?_
        replace h : Fit z (sepL (ob57 b37 (at_ r3 g34.toNat) :: ro57 car5 ccr6 r3 :: ob70 b14 r7 car10 ccr11 car12 r7.Cells.length car13 r7.Log.length :: ro39 car10 ccr11 r7.Effects :: ro2 car12 r7.Cells.length r7.Cells :: ro90 car13 r7.Log.length r7.Log :: rowOf 88 1 encZ_i64 (.slice (some ⟨b21, 0, none⟩) 64 64) l33 :: L)) _ := h
        refine then_normal ?_
        refine wp_seq ?_
        refine wp_region_lit ?_
        refine ov hr (.pointer (some ⟨b14, 2, none⟩)) (by kernel_rfl) ?_; clear hr a; intro a hr
        refine op_val (wn rfl) rfl rfl hr (v := .slice car13 r7.Log.length r7.Log.length) (rl rfl (by kernel_rfl) (by kernel_rfl) ((h.pick 2).cell 2 rfl)) ?_; clear hr a; intro a hr
        replace H := gd H; obtain ⟨c38, H⟩ := H
        refine ov hr (.int .i64 g34) (by kernel_rfl) ?_; clear hr a; intro a hr
        refine op_val (wn rfl) rfl rfl hr (v := .pointer (some ⟨blk car13, g34.toNat * 6, none⟩)) (ri_row (k := .i64) (E := 90) rfl (by kernel_rfl) (by kernel_rfl) (by kernel_rfl) (by kernel_rfl) (h.pick 5) c38) ?_; clear hr a; intro a hr
        refine op_val (wn rfl) rfl rfl hr (v := .agg #[.int .i64 ((at_ r7.Log g34.toNat).Who), .int .i64 ((at_ r7.Log g34.toNat).Kind), .int .i64 ((at_ r7.Log g34.toNat).Addr), .int .i64 ((at_ r7.Log g34.toNat).A), .int .i64 ((at_ r7.Log g34.toNat).B), .bool ((at_ r7.Log g34.toNat).OK)]) (rlm (cs := [.int .i64 ((at_ r7.Log g34.toNat).Who), .int .i64 ((at_ r7.Log g34.toNat).Kind), .int .i64 ((at_ r7.Log g34.toNat).Addr), .int .i64 ((at_ r7.Log g34.toNat).A), .int .i64 ((at_ r7.Log g34.toNat).B), .bool ((at_ r7.Log g34.toNat).OK)]) rfl (by kernel_rfl) (by kernel_rfl) (by kernel_rfl) ⟨(h.pick 5).row_cell enc_T_api_Access_ok (f := 0) (at_ok c38) rfl, (h.pick 5).row_cell enc_T_api_Access_ok (f := 1) (at_ok c38) rfl, (h.pick 5).row_cell enc_T_api_Access_ok (f := 2) (at_ok c38) rfl, (h.pick 5).row_cell enc_T_api_Access_ok (f := 3) (at_ok c38) rfl, (h.pick 5).row_cell enc_T_api_Access_ok (f := 4) (at_ok c38) rfl, (h.pick 5).row_cell enc_T_api_Access_ok (f := 5) (at_ok c38) rfl, trivial⟩) ?_; clear hr a; intro a hr
        refine op_new (wn rfl) rfl rfl hr h (vf := fun b => .pointer (some ⟨b, 0, none⟩)) (cs := #[.int .i64 0, .int .i64 0, .int .i64 0, .int .i64 0, .int .i64 0, .bool false]) (T := 90) (by kernel_rfl) ?_; clear h hr a; intro b39 w a h hr
        refine op_stores (wn rfl) rfl hr rfl (by kernel_rfl) (by kernel_rfl) (vs := [.int .i64 ((at_ r7.Log g34.toNat).Who), .int .i64 ((at_ r7.Log g34.toNat).Kind), .int .i64 ((at_ r7.Log g34.toNat).Addr), .int .i64 ((at_ r7.Log g34.toNat).A), .int .i64 ((at_ r7.Log g34.toNat).B), .bool ((at_ r7.Log g34.toNat).OK)]) rfl rfl (by kernel_rfl) h (i := 0) (cs' := #[.int .i64 ((at_ r7.Log g34.toNat).Who), .int .i64 ((at_ r7.Log g34.toNat).Kind), .int .i64 ((at_ r7.Log g34.toNat).Addr), .int .i64 ((at_ r7.Log g34.toNat).A), .int .i64 ((at_ r7.Log g34.toNat).B), .bool ((at_ r7.Log g34.toNat).OK)]) rfl ?_; clear h; intro w h
        refine wpList_nil ?_
        replace h : Fit z (sepL (ob90 b39 (at_ r7.Log g34.toNat) :: ob57 b37 (at_ r3 g34.toNat) :: ro57 car5 ccr6 r3 :: ob70 b14 r7 car10 ccr11 car12 r7.Cells.length car13 r7.Log.length :: ro39 car10 ccr11 r7.Effects :: ro2 car12 r7.Cells.length r7.Cells :: ro90 car13 r7.Log.length r7.Log :: rowOf 88 1 encZ_i64 (.slice (some ⟨b21, 0, none⟩) 64 64) l33 :: L)) _ := h
        refine then_normal ?_
        refine wp_seq ?_
        refine wp_region_lit ?_
        refine ov hr (.pointer (some ⟨b14, 0, none⟩)) (by kernel_rfl) ?_; clear hr a; intro a hr
        refine op_val (wn rfl) rfl rfl hr (v := .slice car10 r7.Effects.length ccr11) (rl rfl (by kernel_rfl) (by kernel_rfl) ((h.pick 3).cell 0 rfl)) ?_; clear hr a; intro a hr
        replace H := gd H; obtain ⟨c40, H⟩ := H
        refine ov hr (.int .i64 g34) (by kernel_rfl) ?_; clear hr a; intro a hr
        refine op_val (wn rfl) rfl rfl hr (v := .pointer (some ⟨blk car10, g34.toNat * 3, none⟩)) (ri_row (k := .i64) (E := 39) rfl (by kernel_rfl) (by kernel_rfl) (by kernel_rfl) (by kernel_rfl) (h.pick 4) c40) ?_; clear hr a; intro a hr
        refine op_val (wn rfl) rfl rfl hr (v := .agg #[.int .i64 ((at_ r7.Effects g34.toNat).V), .bool ((at_ r7.Effects g34.toNat).OK), .int .i64 ((at_ r7.Effects g34.toNat).Err)]) (rlm (cs := [.int .i64 ((at_ r7.Effects g34.toNat).V), .bool ((at_ r7.Effects g34.toNat).OK), .int .i64 ((at_ r7.Effects g34.toNat).Err)]) rfl (by kernel_rfl) (by kernel_rfl) (by kernel_rfl) ⟨(h.pick 4).row_cell enc_T_api_Effect_ok (f := 0) (at_ok c40) rfl, (h.pick 4).row_cell enc_T_api_Effect_ok (f := 1) (at_ok c40) rfl, (h.pick 4).row_cell enc_T_api_Effect_ok (f := 2) (at_ok c40) rfl, trivial⟩) ?_; clear hr a; intro a hr
        refine op_new (wn rfl) rfl rfl hr h (vf := fun b => .pointer (some ⟨b, 0, none⟩)) (cs := #[.int .i64 0, .bool false, .int .i64 0]) (T := 39) (by kernel_rfl) ?_; clear h hr a; intro b41 w a h hr
        refine op_stores (wn rfl) rfl hr rfl (by kernel_rfl) (by kernel_rfl) (vs := [.int .i64 ((at_ r7.Effects g34.toNat).V), .bool ((at_ r7.Effects g34.toNat).OK), .int .i64 ((at_ r7.Effects g34.toNat).Err)]) rfl rfl (by kernel_rfl) h (i := 0) (cs' := #[.int .i64 ((at_ r7.Effects g34.toNat).V), .bool ((at_ r7.Effects g34.toNat).OK), .int .i64 ((at_ r7.Effects g34.toNat).Err)]) rfl ?_; clear h; intro w h
        refine wpList_nil ?_
        replace h : Fit z (sepL (ob39 b41 (at_ r7.Effects g34.toNat) :: ob90 b39 (at_ r7.Log g34.toNat) :: ob57 b37 (at_ r3 g34.toNat) :: ro57 car5 ccr6 r3 :: ob70 b14 r7 car10 ccr11 car12 r7.Cells.length car13 r7.Log.length :: ro39 car10 ccr11 r7.Effects :: ro2 car12 r7.Cells.length r7.Cells :: ro90 car13 r7.Log.length r7.Log :: rowOf 88 1 encZ_i64 (.slice (some ⟨b21, 0, none⟩) 64 64) l33 :: L)) _ := h
        refine then_normal ?_
        refine wp_seq ?_
        refine wp_region_lit ?_
        refine ov hr (.pointer (some ⟨b37, 2, none⟩)) (by kernel_rfl) ?_; clear hr a; intro a hr
        refine op_val (wn rfl) rfl rfl hr (v := .int .i64 ((at_ r3 g34.toNat).Addr)) (rl rfl (by kernel_rfl) (by kernel_rfl) ((h.pick 2).cell 2 rfl)) ?_; clear hr a; intro a hr
        replace H := gd H; obtain ⟨c42, H⟩ := H
        refine op_val (wn rfl) rfl rfl hr (v := .pointer (some ⟨blk (some ⟨b21, 0, none⟩), (((at_ r3 g34.toNat).Addr).toNat) * 1, none⟩)) (ri_arr (k := .i64) (E := 2) rfl (by kernel_rfl) (by kernel_rfl) (by kernel_rfl) (by kernel_rfl) (h.pick 8).row_n.symm c42) ?_; clear hr a; intro a hr
        refine op_val (wn rfl) rfl rfl hr (v := .int .i64 (at_ l33 (((at_ r3 g34.toNat).Addr).toNat))) (rl rfl (by kernel_rfl) (by kernel_rfl) ((h.pick 8).row_cell encZ_i64_ok (f := 0) (at_ok c42) rfl)) ?_; clear hr a; intro a hr
        refine ov hr (.int .i64 (at_ l33 (((at_ r3 g34.toNat).Addr).toNat))) (by kernel_rfl) ?_; clear hr a; intro a hr
        refine wpList_nil ?_
        refine then_normal ?_
        replace H := jd0 H; obtain ⟨o44, H, hK43⟩ := H
        refine cut_rule (β := Unit) (fun _ a w => .inl () = o44 ∧ ∃ j, Rep 259 (lk [(0, .int .i64 (wi ((1 : Int) + r1))), (5, .slice car5 r3.length ccr6), (6, .pointer (some ⟨b14, 0, none⟩)), (8, .pointer (some ⟨b21, 0, none⟩)), (10, .int .i64 g34), (11, .pointer (some ⟨b37, 0, none⟩)), (12, .pointer (some ⟨b39, 0, none⟩)), (13, .pointer (some ⟨b41, 0, none⟩)), (14, .int .i64 (at_ l33 (((at_ r3 g34.toNat).Addr).toNat))), (104, .pointer (some ⟨b39, 1, none⟩)), (105, .int .i64 ((at_ r7.Log g34.toNat).Kind)), (106, .pointer (some ⟨b37, 1, none⟩)), (107, .int .i64 ((at_ r3 g34.toNat).Kind)), (108, .bool (((at_ r7.Log g34.toNat).Kind) != ((at_ r3 g34.toNat).Kind))), (111, .pointer (some ⟨b39, 2, none⟩)), (112, .int .i64 ((at_ r7.Log g34.toNat).Addr)), (113, .pointer (some ⟨b37, 2, none⟩)), (114, .int .i64 ((at_ r3 g34.toNat).Addr)), (115, .bool (((at_ r7.Log g34.toNat).Addr) != ((at_ r3 g34.toNat).Addr))), (118, .pointer (some ⟨b41, 2, none⟩)), (119, .int .i64 ((at_ r7.Effects g34.toNat).Err)), (120, .bool (((at_ r7.Effects g34.toNat).Err) != (0 : Int))), (123, .pointer (some ⟨b41, 1, none⟩)), (124, .bool ((at_ r7.Effects g34.toNat).OK)), (125, .pointer (some ⟨b39, 5, none⟩)), (126, .bool ((at_ r7.Log g34.toNat).OK)), (127, .bool (!(((at_ r7.Effects g34.toNat).OK) == ((at_ r7.Log g34.toNat).OK))))] j) a ∧ Fit z (sepL (ro57 car5 ccr6 r3 :: ob70 b14 r7 car10 ccr11 car12 r7.Cells.length car13 r7.Log.length :: ro39 car10 ccr11 r7.Effects :: ro2 car12 r7.Cells.length r7.Cells :: ro90 car13 r7.Log.length r7.Log :: rowOf 88 1 encZ_i64 (.slice (some ⟨b21, 0, none⟩) 64 64) l33 :: ob57 b37 (at_ r3 g34.toNat) :: ob90 b39 (at_ r7.Log g34.toNat) :: ob39 b41 (at_ r7.Effects g34.toNat) :: L)) w) ?_ ?_
        ·
          refine wp_seq ?_
          refine wp_region_lit ?_
          refine ov hr (.pointer (some ⟨b39, 0, none⟩)) (by kernel_rfl) ?_; clear hr a; intro a hr
          refine op_val (wn rfl) rfl rfl hr (v := .int .i64 ((at_ r7.Log g34.toNat).Who)) (rl rfl (by kernel_rfl) (by kernel_rfl) ((h.pick 1).cell 0 rfl)) ?_; clear hr a; intro a hr
          refine ov hr (.pointer (some ⟨b37, 0, none⟩)) (by kernel_rfl) ?_; clear hr a; intro a hr
          refine op_val (wn rfl) rfl rfl hr (v := .int .i64 ((at_ r3 g34.toNat).Who)) (rl rfl (by kernel_rfl) (by kernel_rfl) ((h.pick 2).cell 0 rfl)) ?_; clear hr a; intro a hr
          refine ovs [102, 103] [.bool (((at_ r7.Log g34.toNat).Who) != ((at_ r3 g34.toNat).Who)), .bool (((at_ r7.Log g34.toNat).Who) != ((at_ r3 g34.toNat).Who))] hr ⟨rfl, rfl⟩ (by kernel_rfl) ?_; clear hr a; intro a hr
          by_cases c45 : ((at_ r7.Log g34.toNat).Who) = ((at_ r3 g34.toNat).Who)
          ·
            replace H := ifT c45 H
            refine op_val ((wg hr rfl rfl rfl (b' := (((at_ r7.Log g34.toNat).Who) != ((at_ r3 g34.toNat).Who))) (by kernel_rfl)).trans (by rw [show (((at_ r7.Log g34.toNat).Who) != ((at_ r3 g34.toNat).Who)) = false from (bne_eq_false_iff_eq.mpr c45)]; rfl)) rfl rfl hr (v := .pointer (some ⟨b39, 1, none⟩)) (by kernel_rfl) ?_; clear hr a; intro a hr
            refine op_val ((wg hr rfl rfl rfl (b' := (((at_ r7.Log g34.toNat).Who) != ((at_ r3 g34.toNat).Who))) (by kernel_rfl)).trans (by rw [show (((at_ r7.Log g34.toNat).Who) != ((at_ r3 g34.toNat).Who)) = false from (bne_eq_false_iff_eq.mpr c45)]; rfl)) rfl rfl hr (v := .int .i64 ((at_ r7.Log g34.toNat).Kind)) (rl rfl (by kernel_rfl) (by kernel_rfl) ((h.pick 1).cell 1 rfl)) ?_; clear hr a; intro a hr
            refine op_val ((wg hr rfl rfl rfl (b' := (((at_ r7.Log g34.toNat).Who) != ((at_ r3 g34.toNat).Who))) (by kernel_rfl)).trans (by rw [show (((at_ r7.Log g34.toNat).Who) != ((at_ r3 g34.toNat).Who)) = false from (bne_eq_false_iff_eq.mpr c45)]; rfl)) rfl rfl hr (v := .pointer (some ⟨b37, 1, none⟩)) (by kernel_rfl) ?_; clear hr a; intro a hr
            refine op_val ((wg hr rfl rfl rfl (b' := (((at_ r7.Log g34.toNat).Who) != ((at_ r3 g34.toNat).Who))) (by kernel_rfl)).trans (by rw [show (((at_ r7.Log g34.toNat).Who) != ((at_ r3 g34.toNat).Who)) = false from (bne_eq_false_iff_eq.mpr c45)]; rfl)) rfl rfl hr (v := .int .i64 ((at_ r3 g34.toNat).Kind)) (rl rfl (by kernel_rfl) (by kernel_rfl) ((h.pick 2).cell 1 rfl)) ?_; clear hr a; intro a hr
            refine op_val ((wg hr rfl rfl rfl (b' := (((at_ r7.Log g34.toNat).Who) != ((at_ r3 g34.toNat).Who))) (by kernel_rfl)).trans (by rw [show (((at_ r7.Log g34.toNat).Who) != ((at_ r3 g34.toNat).Who)) = false from (bne_eq_false_iff_eq.mpr c45)]; rfl)) rfl rfl hr (v := .bool (((at_ r7.Log g34.toNat).Kind) != ((at_ r3 g34.toNat).Kind))) (by kernel_rfl) ?_; clear hr a; intro a hr
            refine op_val (wn rfl) rfl rfl hr (v := .bool (((at_ r7.Log g34.toNat).Kind) != ((at_ r3 g34.toNat).Kind))) (rp_f (b := (((at_ r7.Log g34.toNat).Who) != ((at_ r3 g34.toNat).Who))) rfl (by kernel_rfl) (bne_eq_false_iff_eq.mpr c45) (by kernel_rfl)) ?_; clear hr a; intro a hr
            refine ov hr (.bool (((at_ r7.Log g34.toNat).Kind) != ((at_ r3 g34.toNat).Kind))) (by kernel_rfl) ?_; clear hr a; intro a hr
            by_cases c46 : ((at_ r7.Log g34.toNat).Kind) = ((at_ r3 g34.toNat).Kind)
            ·
              replace H := ifT c46 H
              refine op_val ((wg hr rfl rfl rfl (b' := (((at_ r7.Log g34.toNat).Kind) != ((at_ r3 g34.toNat).Kind))) (by kernel_rfl)).trans (by rw [show (((at_ r7.Log g34.toNat).Kind) != ((at_ r3 g34.toNat).Kind)) = false from (bne_eq_false_iff_eq.mpr c46)]; rfl)) rfl rfl hr (v := .pointer (some ⟨b39, 2, none⟩)) (by kernel_rfl) ?_; clear hr a; intro a hr
              refine op_val ((wg hr rfl rfl rfl (b' := (((at_ r7.Log g34.toNat).Kind) != ((at_ r3 g34.toNat).Kind))) (by kernel_rfl)).trans (by rw [show (((at_ r7.Log g34.toNat).Kind) != ((at_ r3 g34.toNat).Kind)) = false from (bne_eq_false_iff_eq.mpr c46)]; rfl)) rfl rfl hr (v := .int .i64 ((at_ r7.Log g34.toNat).Addr)) (rl rfl (by kernel_rfl) (by kernel_rfl) ((h.pick 1).cell 2 rfl)) ?_; clear hr a; intro a hr
              refine op_val ((wg hr rfl rfl rfl (b' := (((at_ r7.Log g34.toNat).Kind) != ((at_ r3 g34.toNat).Kind))) (by kernel_rfl)).trans (by rw [show (((at_ r7.Log g34.toNat).Kind) != ((at_ r3 g34.toNat).Kind)) = false from (bne_eq_false_iff_eq.mpr c46)]; rfl)) rfl rfl hr (v := .pointer (some ⟨b37, 2, none⟩)) (by kernel_rfl) ?_; clear hr a; intro a hr
              refine op_val ((wg hr rfl rfl rfl (b' := (((at_ r7.Log g34.toNat).Kind) != ((at_ r3 g34.toNat).Kind))) (by kernel_rfl)).trans (by rw [show (((at_ r7.Log g34.toNat).Kind) != ((at_ r3 g34.toNat).Kind)) = false from (bne_eq_false_iff_eq.mpr c46)]; rfl)) rfl rfl hr (v := .int .i64 ((at_ r3 g34.toNat).Addr)) (rl rfl (by kernel_rfl) (by kernel_rfl) ((h.pick 2).cell 2 rfl)) ?_; clear hr a; intro a hr
              refine op_val ((wg hr rfl rfl rfl (b' := (((at_ r7.Log g34.toNat).Kind) != ((at_ r3 g34.toNat).Kind))) (by kernel_rfl)).trans (by rw [show (((at_ r7.Log g34.toNat).Kind) != ((at_ r3 g34.toNat).Kind)) = false from (bne_eq_false_iff_eq.mpr c46)]; rfl)) rfl rfl hr (v := .bool (((at_ r7.Log g34.toNat).Addr) != ((at_ r3 g34.toNat).Addr))) (by kernel_rfl) ?_; clear hr a; intro a hr
              refine op_val (wn rfl) rfl rfl hr (v := .bool (((at_ r7.Log g34.toNat).Addr) != ((at_ r3 g34.toNat).Addr))) (rp_f (b := (((at_ r7.Log g34.toNat).Kind) != ((at_ r3 g34.toNat).Kind))) rfl (by kernel_rfl) (bne_eq_false_iff_eq.mpr c46) (by kernel_rfl)) ?_; clear hr a; intro a hr
              refine ov hr (.bool (((at_ r7.Log g34.toNat).Addr) != ((at_ r3 g34.toNat).Addr))) (by kernel_rfl) ?_; clear hr a; intro a hr
              by_cases c47 : ((at_ r7.Log g34.toNat).Addr) = ((at_ r3 g34.toNat).Addr)
              ·
                replace H := ifT c47 H
                refine op_val ((wg hr rfl rfl rfl (b' := (((at_ r7.Log g34.toNat).Addr) != ((at_ r3 g34.toNat).Addr))) (by kernel_rfl)).trans (by rw [show (((at_ r7.Log g34.toNat).Addr) != ((at_ r3 g34.toNat).Addr)) = false from (bne_eq_false_iff_eq.mpr c47)]; rfl)) rfl rfl hr (v := .pointer (some ⟨b41, 2, none⟩)) (by kernel_rfl) ?_; clear hr a; intro a hr
                refine op_val ((wg hr rfl rfl rfl (b' := (((at_ r7.Log g34.toNat).Addr) != ((at_ r3 g34.toNat).Addr))) (by kernel_rfl)).trans (by rw [show (((at_ r7.Log g34.toNat).Addr) != ((at_ r3 g34.toNat).Addr)) = false from (bne_eq_false_iff_eq.mpr c47)]; rfl)) rfl rfl hr (v := .int .i64 ((at_ r7.Effects g34.toNat).Err)) (rl rfl (by kernel_rfl) (by kernel_rfl) (h.cell 2 rfl)) ?_; clear hr a; intro a hr
                refine op_val ((wg hr rfl rfl rfl (b' := (((at_ r7.Log g34.toNat).Addr) != ((at_ r3 g34.toNat).Addr))) (by kernel_rfl)).trans (by rw [show (((at_ r7.Log g34.toNat).Addr) != ((at_ r3 g34.toNat).Addr)) = false from (bne_eq_false_iff_eq.mpr c47)]; rfl)) rfl rfl hr (v := .bool (((at_ r7.Effects g34.toNat).Err) != (0 : Int))) (by kernel_rfl) ?_; clear hr a; intro a hr
                refine op_val (wn rfl) rfl rfl hr (v := .bool (((at_ r7.Effects g34.toNat).Err) != (0 : Int))) (rp_f (b := (((at_ r7.Log g34.toNat).Addr) != ((at_ r3 g34.toNat).Addr))) rfl (by kernel_rfl) (bne_eq_false_iff_eq.mpr c47) (by kernel_rfl)) ?_; clear hr a; intro a hr
                refine ov hr (.bool (((at_ r7.Effects g34.toNat).Err) != (0 : Int))) (by kernel_rfl) ?_; clear hr a; intro a hr
                by_cases c48 : ((at_ r7.Effects g34.toNat).Err) = (0 : Int)
                ·
                  replace H := ifT c48 H
                  refine op_val ((wg hr rfl rfl rfl (b' := (((at_ r7.Effects g34.toNat).Err) != (0 : Int))) (by kernel_rfl)).trans (by rw [show (((at_ r7.Effects g34.toNat).Err) != (0 : Int)) = false from (bne_eq_false_iff_eq.mpr c48)]; rfl)) rfl rfl hr (v := .pointer (some ⟨b41, 1, none⟩)) (by kernel_rfl) ?_; clear hr a; intro a hr
                  refine op_val ((wg hr rfl rfl rfl (b' := (((at_ r7.Effects g34.toNat).Err) != (0 : Int))) (by kernel_rfl)).trans (by rw [show (((at_ r7.Effects g34.toNat).Err) != (0 : Int)) = false from (bne_eq_false_iff_eq.mpr c48)]; rfl)) rfl rfl hr (v := .bool ((at_ r7.Effects g34.toNat).OK)) (rl rfl (by kernel_rfl) (by kernel_rfl) (h.cell 1 rfl)) ?_; clear hr a; intro a hr
                  refine op_val ((wg hr rfl rfl rfl (b' := (((at_ r7.Effects g34.toNat).Err) != (0 : Int))) (by kernel_rfl)).trans (by rw [show (((at_ r7.Effects g34.toNat).Err) != (0 : Int)) = false from (bne_eq_false_iff_eq.mpr c48)]; rfl)) rfl rfl hr (v := .pointer (some ⟨b39, 5, none⟩)) (by kernel_rfl) ?_; clear hr a; intro a hr
                  refine op_val ((wg hr rfl rfl rfl (b' := (((at_ r7.Effects g34.toNat).Err) != (0 : Int))) (by kernel_rfl)).trans (by rw [show (((at_ r7.Effects g34.toNat).Err) != (0 : Int)) = false from (bne_eq_false_iff_eq.mpr c48)]; rfl)) rfl rfl hr (v := .bool ((at_ r7.Log g34.toNat).OK)) (rl rfl (by kernel_rfl) (by kernel_rfl) ((h.pick 1).cell 5 rfl)) ?_; clear hr a; intro a hr
                  refine op_val ((wg hr rfl rfl rfl (b' := (((at_ r7.Effects g34.toNat).Err) != (0 : Int))) (by kernel_rfl)).trans (by rw [show (((at_ r7.Effects g34.toNat).Err) != (0 : Int)) = false from (bne_eq_false_iff_eq.mpr c48)]; rfl)) rfl rfl hr (v := .bool (!(((at_ r7.Effects g34.toNat).OK) == ((at_ r7.Log g34.toNat).OK)))) (by kernel_rfl) ?_; clear hr a; intro a hr
                  refine op_val (wn rfl) rfl rfl hr (v := .bool (!(((at_ r7.Effects g34.toNat).OK) == ((at_ r7.Log g34.toNat).OK)))) (rp_f (b := (((at_ r7.Effects g34.toNat).Err) != (0 : Int))) rfl (by kernel_rfl) (bne_eq_false_iff_eq.mpr c48) (by kernel_rfl)) ?_; clear hr a; intro a hr
                  refine wpList_nil ?_
                  refine then_normal ?_
                  by_cases c49 : ((at_ r7.Effects g34.toNat).OK) = ((at_ r7.Log g34.toNat).OK)
                  ·
                    replace H := ifT c49 H
                    refine cond_ff hr (b := (!(((at_ r7.Effects g34.toNat).OK) == ((at_ r7.Log g34.toNat).OK)))) (by rw [show (((at_ r7.Effects g34.toNat).OK) == ((at_ r7.Log g34.toNat).OK)) = true from (beq_iff_eq.mpr c49)]; rfl) ?_
                    refine wp_skip ?_
                    refine then_normal ?_
                    replace hr := hr.fold2 [(0, .int .i64 (wi ((1 : Int) + r1))), (5, .slice car5 r3.length ccr6), (6, .pointer (some ⟨b14, 0, none⟩)), (8, .pointer (some ⟨b21, 0, none⟩)), (10, .int .i64 g34), (11, .pointer (some ⟨b37, 0, none⟩)), (12, .pointer (some ⟨b39, 0, none⟩)), (13, .pointer (some ⟨b41, 0, none⟩)), (14, .int .i64 (at_ l33 (((at_ r3 g34.toNat).Addr).toNat))), (104, .pointer (some ⟨b39, 1, none⟩)), (105, .int .i64 ((at_ r7.Log g34.toNat).Kind)), (106, .pointer (some ⟨b37, 1, none⟩)), (107, .int .i64 ((at_ r3 g34.toNat).Kind)), (108, .bool (((at_ r7.Log g34.toNat).Kind) != ((at_ r3 g34.toNat).Kind))), (111, .pointer (some ⟨b39, 2, none⟩)), (112, .int .i64 ((at_ r7.Log g34.toNat).Addr)), (113, .pointer (some ⟨b37, 2, none⟩)), (114, .int .i64 ((at_ r3 g34.toNat).Addr)), (115, .bool (((at_ r7.Log g34.toNat).Addr) != ((at_ r3 g34.toNat).Addr))), (118, .pointer (some ⟨b41, 2, none⟩)), (119, .int .i64 ((at_ r7.Effects g34.toNat).Err)), (120, .bool (((at_ r7.Effects g34.toNat).Err) != (0 : Int))), (123, .pointer (some ⟨b41, 1, none⟩)), (124, .bool ((at_ r7.Effects g34.toNat).OK)), (125, .pointer (some ⟨b39, 5, none⟩)), (126, .bool ((at_ r7.Log g34.toNat).OK)), (127, .bool (!(((at_ r7.Effects g34.toNat).OK) == ((at_ r7.Log g34.toNat).OK))))] (by kernel_rfl); obtain ⟨j, hr⟩ := hr
                    replace h : Fit z (sepL (ro57 car5 ccr6 r3 :: ob70 b14 r7 car10 ccr11 car12 r7.Cells.length car13 r7.Log.length :: ro39 car10 ccr11 r7.Effects :: ro2 car12 r7.Cells.length r7.Cells :: ro90 car13 r7.Log.length r7.Log :: rowOf 88 1 encZ_i64 (.slice (some ⟨b21, 0, none⟩) 64 64) l33 :: ob57 b37 (at_ r3 g34.toNat) :: ob90 b39 (at_ r7.Log g34.toNat) :: ob39 b41 (at_ r7.Effects g34.toNat) :: L)) _ := h.sel 9 [3, 4, 5, 6, 7, 8, 2, 1, 0] (by kernel_rfl) (by kernel_rfl)
                    exact ⟨(), sinj H, j, hr, h⟩
                  ·
                    replace H := ifF c49 H
                    refine cond_tt hr (b := (!(((at_ r7.Effects g34.toNat).OK) == ((at_ r7.Log g34.toNat).OK)))) (by rw [show (((at_ r7.Effects g34.toNat).OK) == ((at_ r7.Log g34.toNat).OK)) = false from (beq_eq_false_iff_ne.mpr c49)]; rfl) ?_
                    refine wp_seq ?_
                    refine wp_region_lit ?_
                    refine ov hr (.bool false) (by kernel_rfl) ?_; clear hr a; intro a hr
                    refine wpList_nil ?_
                    refine then_normal ?_
                    refine wp_ret ?_
                    refine then_ret ?_
                    refine blk_ret ?_
                    refine then_ret ?_
                    refine then_ret ?_
                    refine blk_ret ?_
                    refine then_ret ?_
                    refine end_ret1 (v := .bool false) rfl hr (by kernel_rfl) ?_
                    replace H := jx0 H hK43
                    replace H := jx1 H hK31
                    replace h : Fit z (sepL (L)) _ := h.sel 9 [] (by kernel_rfl) (by kernel_rfl)
                    replace H := ej1 H; subst H
                    exact ⟨rfl, h⟩
                ·
                  replace H := ifF c48 H
                  refine op_off ((wg hr rfl rfl rfl (b' := (((at_ r7.Effects g34.toNat).Err) != (0 : Int))) (by kernel_rfl)).trans (by rw [show (((at_ r7.Effects g34.toNat).Err) != (0 : Int)) = true from (bne_iff_ne.mpr c48)]; rfl)) rfl rfl hr ?_; clear hr a; intro a hr
                  refine op_off ((wg hr rfl rfl rfl (b' := (((at_ r7.Effects g34.toNat).Err) != (0 : Int))) (by kernel_rfl)).trans (by rw [show (((at_ r7.Effects g34.toNat).Err) != (0 : Int)) = true from (bne_iff_ne.mpr c48)]; rfl)) rfl rfl hr ?_; clear hr a; intro a hr
                  refine op_off ((wg hr rfl rfl rfl (b' := (((at_ r7.Effects g34.toNat).Err) != (0 : Int))) (by kernel_rfl)).trans (by rw [show (((at_ r7.Effects g34.toNat).Err) != (0 : Int)) = true from (bne_iff_ne.mpr c48)]; rfl)) rfl rfl hr ?_; clear hr a; intro a hr
                  refine op_off ((wg hr rfl rfl rfl (b' := (((at_ r7.Effects g34.toNat).Err) != (0 : Int))) (by kernel_rfl)).trans (by rw [show (((at_ r7.Effects g34.toNat).Err) != (0 : Int)) = true from (bne_iff_ne.mpr c48)]; rfl)) rfl rfl hr ?_; clear hr a; intro a hr
                  refine op_off ((wg hr rfl rfl rfl (b' := (((at_ r7.Effects g34.toNat).Err) != (0 : Int))) (by kernel_rfl)).trans (by rw [show (((at_ r7.Effects g34.toNat).Err) != (0 : Int)) = true from (bne_iff_ne.mpr c48)]; rfl)) rfl rfl hr ?_; clear hr a; intro a hr
                  refine op_val (wn rfl) rfl rfl hr (v := .bool true) (rp_t (b := (((at_ r7.Effects g34.toNat).Err) != (0 : Int))) rfl (by kernel_rfl) (bne_iff_ne.mpr c48) (by kernel_rfl)) ?_; clear hr a; intro a hr
                  refine wpList_nil ?_
                  refine then_normal ?_
                  refine cond_tt hr (b := true) rfl ?_
                  refine wp_seq ?_
                  refine wp_region_lit ?_
                  refine ov hr (.bool false) (by kernel_rfl) ?_; clear hr a; intro a hr
                  refine wpList_nil ?_
                  refine then_normal ?_
                  refine wp_ret ?_
                  refine then_ret ?_
                  refine blk_ret ?_
                  refine then_ret ?_
                  refine then_ret ?_
                  refine blk_ret ?_
                  refine then_ret ?_
                  refine end_ret1 (v := .bool false) rfl hr (by kernel_rfl) ?_
                  replace H := jx0 H hK43
                  replace H := jx1 H hK31
                  replace h : Fit z (sepL (L)) _ := h.sel 9 [] (by kernel_rfl) (by kernel_rfl)
                  replace H := ej1 H; subst H
                  exact ⟨rfl, h⟩
              ·
                replace H := ifF c47 H
                refine op_off ((wg hr rfl rfl rfl (b' := (((at_ r7.Log g34.toNat).Addr) != ((at_ r3 g34.toNat).Addr))) (by kernel_rfl)).trans (by rw [show (((at_ r7.Log g34.toNat).Addr) != ((at_ r3 g34.toNat).Addr)) = true from (bne_iff_ne.mpr c47)]; rfl)) rfl rfl hr ?_; clear hr a; intro a hr
                refine op_off ((wg hr rfl rfl rfl (b' := (((at_ r7.Log g34.toNat).Addr) != ((at_ r3 g34.toNat).Addr))) (by kernel_rfl)).trans (by rw [show (((at_ r7.Log g34.toNat).Addr) != ((at_ r3 g34.toNat).Addr)) = true from (bne_iff_ne.mpr c47)]; rfl)) rfl rfl hr ?_; clear hr a; intro a hr
                refine op_off ((wg hr rfl rfl rfl (b' := (((at_ r7.Log g34.toNat).Addr) != ((at_ r3 g34.toNat).Addr))) (by kernel_rfl)).trans (by rw [show (((at_ r7.Log g34.toNat).Addr) != ((at_ r3 g34.toNat).Addr)) = true from (bne_iff_ne.mpr c47)]; rfl)) rfl rfl hr ?_; clear hr a; intro a hr
                refine op_val (wn rfl) rfl rfl hr (v := .bool true) (rp_t (b := (((at_ r7.Log g34.toNat).Addr) != ((at_ r3 g34.toNat).Addr))) rfl (by kernel_rfl) (bne_iff_ne.mpr c47) (by kernel_rfl)) ?_; clear hr a; intro a hr
                refine ov hr (.bool true) (by kernel_rfl) ?_; clear hr a; intro a hr
                refine op_off ((wg hr rfl rfl rfl (b' := true) (by kernel_rfl)).trans rfl) rfl rfl hr ?_; clear hr a; intro a hr
                refine op_off ((wg hr rfl rfl rfl (b' := true) (by kernel_rfl)).trans rfl) rfl rfl hr ?_; clear hr a; intro a hr
                refine op_off ((wg hr rfl rfl rfl (b' := true) (by kernel_rfl)).trans rfl) rfl rfl hr ?_; clear hr a; intro a hr
                refine op_off ((wg hr rfl rfl rfl (b' := true) (by kernel_rfl)).trans rfl) rfl rfl hr ?_; clear hr a; intro a hr
                refine op_off ((wg hr rfl rfl rfl (b' := true) (by kernel_rfl)).trans rfl) rfl rfl hr ?_; clear hr a; intro a hr
                refine ov hr (.bool true) (by kernel_rfl) ?_; clear hr a; intro a hr
                refine wpList_nil ?_
                refine then_normal ?_
                refine cond_tt hr (b := true) rfl ?_
                refine wp_seq ?_
                refine wp_region_lit ?_
                refine ov hr (.bool false) (by kernel_rfl) ?_; clear hr a; intro a hr
                refine wpList_nil ?_
                refine then_normal ?_
                refine wp_ret ?_
                refine then_ret ?_
                refine blk_ret ?_
                refine then_ret ?_
                refine then_ret ?_
                refine blk_ret ?_
                refine then_ret ?_
                refine end_ret1 (v := .bool false) rfl hr (by kernel_rfl) ?_
                replace H := jx0 H hK43
                replace H := jx1 H hK31
                replace h : Fit z (sepL (L)) _ := h.sel 9 [] (by kernel_rfl) (by kernel_rfl)
                replace H := ej1 H; subst H
                exact ⟨rfl, h⟩
            ·
              replace H := ifF c46 H
              refine op_off ((wg hr rfl rfl rfl (b' := (((at_ r7.Log g34.toNat).Kind) != ((at_ r3 g34.toNat).Kind))) (by kernel_rfl)).trans (by rw [show (((at_ r7.Log g34.toNat).Kind) != ((at_ r3 g34.toNat).Kind)) = true from (bne_iff_ne.mpr c46)]; rfl)) rfl rfl hr ?_; clear hr a; intro a hr
              refine op_off ((wg hr rfl rfl rfl (b' := (((at_ r7.Log g34.toNat).Kind) != ((at_ r3 g34.toNat).Kind))) (by kernel_rfl)).trans (by rw [show (((at_ r7.Log g34.toNat).Kind) != ((at_ r3 g34.toNat).Kind)) = true from (bne_iff_ne.mpr c46)]; rfl)) rfl rfl hr ?_; clear hr a; intro a hr
              refine op_off ((wg hr rfl rfl rfl (b' := (((at_ r7.Log g34.toNat).Kind) != ((at_ r3 g34.toNat).Kind))) (by kernel_rfl)).trans (by rw [show (((at_ r7.Log g34.toNat).Kind) != ((at_ r3 g34.toNat).Kind)) = true from (bne_iff_ne.mpr c46)]; rfl)) rfl rfl hr ?_; clear hr a; intro a hr
              refine op_off ((wg hr rfl rfl rfl (b' := (((at_ r7.Log g34.toNat).Kind) != ((at_ r3 g34.toNat).Kind))) (by kernel_rfl)).trans (by rw [show (((at_ r7.Log g34.toNat).Kind) != ((at_ r3 g34.toNat).Kind)) = true from (bne_iff_ne.mpr c46)]; rfl)) rfl rfl hr ?_; clear hr a; intro a hr
              refine op_off ((wg hr rfl rfl rfl (b' := (((at_ r7.Log g34.toNat).Kind) != ((at_ r3 g34.toNat).Kind))) (by kernel_rfl)).trans (by rw [show (((at_ r7.Log g34.toNat).Kind) != ((at_ r3 g34.toNat).Kind)) = true from (bne_iff_ne.mpr c46)]; rfl)) rfl rfl hr ?_; clear hr a; intro a hr
              refine op_val (wn rfl) rfl rfl hr (v := .bool true) (rp_t (b := (((at_ r7.Log g34.toNat).Kind) != ((at_ r3 g34.toNat).Kind))) rfl (by kernel_rfl) (bne_iff_ne.mpr c46) (by kernel_rfl)) ?_; clear hr a; intro a hr
              refine ov hr (.bool true) (by kernel_rfl) ?_; clear hr a; intro a hr
              refine op_off ((wg hr rfl rfl rfl (b' := true) (by kernel_rfl)).trans rfl) rfl rfl hr ?_; clear hr a; intro a hr
              refine op_off ((wg hr rfl rfl rfl (b' := true) (by kernel_rfl)).trans rfl) rfl rfl hr ?_; clear hr a; intro a hr
              refine op_off ((wg hr rfl rfl rfl (b' := true) (by kernel_rfl)).trans rfl) rfl rfl hr ?_; clear hr a; intro a hr
              refine ovs [121, 122] [.bool true, .bool true] hr ⟨rfl, rfl⟩ (by kernel_rfl) ?_; clear hr a; intro a hr
              refine op_off ((wg hr rfl rfl rfl (b' := true) (by kernel_rfl)).trans rfl) rfl rfl hr ?_; clear hr a; intro a hr
              refine op_off ((wg hr rfl rfl rfl (b' := true) (by kernel_rfl)).trans rfl) rfl rfl hr ?_; clear hr a; intro a hr
              refine op_off ((wg hr rfl rfl rfl (b' := true) (by kernel_rfl)).trans rfl) rfl rfl hr ?_; clear hr a; intro a hr
              refine op_off ((wg hr rfl rfl rfl (b' := true) (by kernel_rfl)).trans rfl) rfl rfl hr ?_; clear hr a; intro a hr
              refine op_off ((wg hr rfl rfl rfl (b' := true) (by kernel_rfl)).trans rfl) rfl rfl hr ?_; clear hr a; intro a hr
              refine ov hr (.bool true) (by kernel_rfl) ?_; clear hr a; intro a hr
              refine wpList_nil ?_
              refine then_normal ?_
              refine cond_tt hr (b := true) rfl ?_
              refine wp_seq ?_
              refine wp_region_lit ?_
              refine ov hr (.bool false) (by kernel_rfl) ?_; clear hr a; intro a hr
              refine wpList_nil ?_
              refine then_normal ?_
              refine wp_ret ?_
              refine then_ret ?_
              refine blk_ret ?_
              refine then_ret ?_
              refine then_ret ?_
              refine blk_ret ?_
              refine then_ret ?_
              refine end_ret1 (v := .bool false) rfl hr (by kernel_rfl) ?_
              replace H := jx0 H hK43
              replace H := jx1 H hK31
              replace h : Fit z (sepL (L)) _ := h.sel 9 [] (by kernel_rfl) (by kernel_rfl)
              replace H := ej1 H; subst H
              exact ⟨rfl, h⟩
          ·
            replace H := ifF c45 H
            refine op_off ((wg hr rfl rfl rfl (b' := (((at_ r7.Log g34.toNat).Who) != ((at_ r3 g34.toNat).Who))) (by kernel_rfl)).trans (by rw [show (((at_ r7.Log g34.toNat).Who) != ((at_ r3 g34.toNat).Who)) = true from (bne_iff_ne.mpr c45)]; rfl)) rfl rfl hr ?_; clear hr a; intro a hr
            refine op_off ((wg hr rfl rfl rfl (b' := (((at_ r7.Log g34.toNat).Who) != ((at_ r3 g34.toNat).Who))) (by kernel_rfl)).trans (by rw [show (((at_ r7.Log g34.toNat).Who) != ((at_ r3 g34.toNat).Who)) = true from (bne_iff_ne.mpr c45)]; rfl)) rfl rfl hr ?_; clear hr a; intro a hr
            refine op_off ((wg hr rfl rfl rfl (b' := (((at_ r7.Log g34.toNat).Who) != ((at_ r3 g34.toNat).Who))) (by kernel_rfl)).trans (by rw [show (((at_ r7.Log g34.toNat).Who) != ((at_ r3 g34.toNat).Who)) = true from (bne_iff_ne.mpr c45)]; rfl)) rfl rfl hr ?_; clear hr a; intro a hr
            refine op_off ((wg hr rfl rfl rfl (b' := (((at_ r7.Log g34.toNat).Who) != ((at_ r3 g34.toNat).Who))) (by kernel_rfl)).trans (by rw [show (((at_ r7.Log g34.toNat).Who) != ((at_ r3 g34.toNat).Who)) = true from (bne_iff_ne.mpr c45)]; rfl)) rfl rfl hr ?_; clear hr a; intro a hr
            refine op_off ((wg hr rfl rfl rfl (b' := (((at_ r7.Log g34.toNat).Who) != ((at_ r3 g34.toNat).Who))) (by kernel_rfl)).trans (by rw [show (((at_ r7.Log g34.toNat).Who) != ((at_ r3 g34.toNat).Who)) = true from (bne_iff_ne.mpr c45)]; rfl)) rfl rfl hr ?_; clear hr a; intro a hr
            refine op_val (wn rfl) rfl rfl hr (v := .bool true) (rp_t (b := (((at_ r7.Log g34.toNat).Who) != ((at_ r3 g34.toNat).Who))) rfl (by kernel_rfl) (bne_iff_ne.mpr c45) (by kernel_rfl)) ?_; clear hr a; intro a hr
            refine ov hr (.bool true) (by kernel_rfl) ?_; clear hr a; intro a hr
            refine op_off ((wg hr rfl rfl rfl (b' := true) (by kernel_rfl)).trans rfl) rfl rfl hr ?_; clear hr a; intro a hr
            refine op_off ((wg hr rfl rfl rfl (b' := true) (by kernel_rfl)).trans rfl) rfl rfl hr ?_; clear hr a; intro a hr
            refine op_off ((wg hr rfl rfl rfl (b' := true) (by kernel_rfl)).trans rfl) rfl rfl hr ?_; clear hr a; intro a hr
            refine op_off ((wg hr rfl rfl rfl (b' := true) (by kernel_rfl)).trans rfl) rfl rfl hr ?_; clear hr a; intro a hr
            refine op_off ((wg hr rfl rfl rfl (b' := true) (by kernel_rfl)).trans rfl) rfl rfl hr ?_; clear hr a; intro a hr
            refine ovs [116, 117] [.bool true, .bool true] hr ⟨rfl, rfl⟩ (by kernel_rfl) ?_; clear hr a; intro a hr
            refine op_off ((wg hr rfl rfl rfl (b' := true) (by kernel_rfl)).trans rfl) rfl rfl hr ?_; clear hr a; intro a hr
            refine op_off ((wg hr rfl rfl rfl (b' := true) (by kernel_rfl)).trans rfl) rfl rfl hr ?_; clear hr a; intro a hr
            refine op_off ((wg hr rfl rfl rfl (b' := true) (by kernel_rfl)).trans rfl) rfl rfl hr ?_; clear hr a; intro a hr
            refine ovs [121, 122] [.bool true, .bool true] hr ⟨rfl, rfl⟩ (by kernel_rfl) ?_; clear hr a; intro a hr
            refine op_off ((wg hr rfl rfl rfl (b' := true) (by kernel_rfl)).trans rfl) rfl rfl hr ?_; clear hr a; intro a hr
            refine op_off ((wg hr rfl rfl rfl (b' := true) (by kernel_rfl)).trans rfl) rfl rfl hr ?_; clear hr a; intro a hr
            refine op_off ((wg hr rfl rfl rfl (b' := true) (by kernel_rfl)).trans rfl) rfl rfl hr ?_; clear hr a; intro a hr
            refine op_off ((wg hr rfl rfl rfl (b' := true) (by kernel_rfl)).trans rfl) rfl rfl hr ?_; clear hr a; intro a hr
            refine op_off ((wg hr rfl rfl rfl (b' := true) (by kernel_rfl)).trans rfl) rfl rfl hr ?_; clear hr a; intro a hr
            refine ov hr (.bool true) (by kernel_rfl) ?_; clear hr a; intro a hr
            refine wpList_nil ?_
            refine then_normal ?_
            refine cond_tt hr (b := true) rfl ?_
            refine wp_seq ?_
            refine wp_region_lit ?_
            refine ov hr (.bool false) (by kernel_rfl) ?_; clear hr a; intro a hr
            refine wpList_nil ?_
            refine then_normal ?_
            refine wp_ret ?_
            refine then_ret ?_
            refine blk_ret ?_
            refine then_ret ?_
            refine then_ret ?_
            refine blk_ret ?_
            refine then_ret ?_
            refine end_ret1 (v := .bool false) rfl hr (by kernel_rfl) ?_
            replace H := jx0 H hK43
            replace H := jx1 H hK31
            replace h : Fit z (sepL (L)) _ := h.sel 9 [] (by kernel_rfl) (by kernel_rfl)
            replace H := ej1 H; subst H
            exact ⟨rfl, h⟩
        clear h hr a; rintro _ a w ⟨rfl, j, hr, h⟩
        replace H := jk0 hK43
        refine wp_seq ?_
        refine wp_region_lit ?_
        refine ov hr (.bool true) (by kernel_rfl) ?_; clear hr a; intro a hr
        refine wpList_nil ?_
        refine then_normal ?_
        refine wp_seq ?_
        refine wp_seq ?_
        refine wp_region_lit ?_
        refine ov hr (.pointer (some ⟨b37, 1, none⟩)) (by kernel_rfl) ?_; clear hr a; intro a hr
        refine op_val (wn rfl) rfl rfl hr (v := .int .i64 ((at_ r3 g34.toNat).Kind)) (rl rfl (by kernel_rfl) (by kernel_rfl) ((h.pick 6).cell 1 rfl)) ?_; clear hr a; intro a hr
        refine wpList_nil ?_
        refine then_normal ?_
        refine wp_block ?_
        refine wp_seq ?_
        refine wp_region_lit ?_
        refine ovs [162, 161] [.bool (((at_ r3 g34.toNat).Kind) == (0 : Int)), .bool (((at_ r3 g34.toNat).Kind) == (0 : Int))] hr ⟨rfl, rfl⟩ (by kernel_rfl) ?_; clear hr a; intro a hr
        refine wpList_nil ?_
        refine then_normal ?_
        by_cases c50 : ((at_ r3 g34.toNat).Kind) = (0 : Int)
        ·
          replace H := ifT c50 H
          refine cond_tt hr (b := (((at_ r3 g34.toNat).Kind) == (0 : Int))) (beq_iff_eq.mpr c50) ?_
          refine wp_region_lit ?_
          refine ov hr (.pointer (some ⟨b39, 5, none⟩)) (by kernel_rfl) ?_; clear hr a; intro a hr
          refine op_val (wn rfl) rfl rfl hr (v := .bool ((at_ r7.Log g34.toNat).OK)) (rl rfl (by kernel_rfl) (by kernel_rfl) ((h.pick 7).cell 5 rfl)) ?_; clear hr a; intro a hr
          refine ov hr (.bool ((at_ r7.Log g34.toNat).OK)) (by kernel_rfl) ?_; clear hr a; intro a hr
          by_cases c51 : ((at_ r7.Log g34.toNat).OK) = true
          ·
            replace H := ifT c51 H
            refine op_val ((wg hr rfl rfl rfl (b' := ((at_ r7.Log g34.toNat).OK)) (by kernel_rfl)).trans (by rw [show ((at_ r7.Log g34.toNat).OK) = true from (c51)]; rfl)) rfl rfl hr (v := .pointer (some ⟨b39, 3, none⟩)) (by kernel_rfl) ?_; clear hr a; intro a hr
            refine op_val ((wg hr rfl rfl rfl (b' := ((at_ r7.Log g34.toNat).OK)) (by kernel_rfl)).trans (by rw [show ((at_ r7.Log g34.toNat).OK) = true from (c51)]; rfl)) rfl rfl hr (v := .int .i64 ((at_ r7.Log g34.toNat).A)) (rl rfl (by kernel_rfl) (by kernel_rfl) ((h.pick 7).cell 3 rfl)) ?_; clear hr a; intro a hr
            refine op_val ((wg hr rfl rfl rfl (b' := ((at_ r7.Log g34.toNat).OK)) (by kernel_rfl)).trans (by rw [show ((at_ r7.Log g34.toNat).OK) = true from (c51)]; rfl)) rfl rfl hr (v := .int .i64 (at_ l33 (((at_ r3 g34.toNat).Addr).toNat))) (by kernel_rfl) ?_; clear hr a; intro a hr
            refine op_val ((wg hr rfl rfl rfl (b' := ((at_ r7.Log g34.toNat).OK)) (by kernel_rfl)).trans (by rw [show ((at_ r7.Log g34.toNat).OK) = true from (c51)]; rfl)) rfl rfl hr (v := .bool (((at_ r7.Log g34.toNat).A) == (at_ l33 (((at_ r3 g34.toNat).Addr).toNat)))) (by kernel_rfl) ?_; clear hr a; intro a hr
            refine op_val (wn rfl) rfl rfl hr (v := .bool (((at_ r7.Log g34.toNat).A) == (at_ l33 (((at_ r3 g34.toNat).Addr).toNat)))) (rp_t (b := ((at_ r7.Log g34.toNat).OK)) rfl (by kernel_rfl) (c51) (by kernel_rfl)) ?_; clear hr a; intro a hr
            refine ov hr (.bool (((at_ r7.Log g34.toNat).A) == (at_ l33 (((at_ r3 g34.toNat).Addr).toNat)))) (by kernel_rfl) ?_; clear hr a; intro a hr
            by_cases c52 : ((at_ r7.Log g34.toNat).A) = (at_ l33 (((at_ r3 g34.toNat).Addr).toNat))
            ·
              replace H := ifT c52 H
              refine op_val ((wg hr rfl rfl rfl (b' := (((at_ r7.Log g34.toNat).A) == (at_ l33 (((at_ r3 g34.toNat).Addr).toNat)))) (by kernel_rfl)).trans (by rw [show (((at_ r7.Log g34.toNat).A) == (at_ l33 (((at_ r3 g34.toNat).Addr).toNat))) = true from (beq_iff_eq.mpr c52)]; rfl)) rfl rfl hr (v := .pointer (some ⟨b39, 4, none⟩)) (by kernel_rfl) ?_; clear hr a; intro a hr
              refine op_val ((wg hr rfl rfl rfl (b' := (((at_ r7.Log g34.toNat).A) == (at_ l33 (((at_ r3 g34.toNat).Addr).toNat)))) (by kernel_rfl)).trans (by rw [show (((at_ r7.Log g34.toNat).A) == (at_ l33 (((at_ r3 g34.toNat).Addr).toNat))) = true from (beq_iff_eq.mpr c52)]; rfl)) rfl rfl hr (v := .int .i64 ((at_ r7.Log g34.toNat).B)) (rl rfl (by kernel_rfl) (by kernel_rfl) ((h.pick 7).cell 4 rfl)) ?_; clear hr a; intro a hr
              refine op_val ((wg hr rfl rfl rfl (b' := (((at_ r7.Log g34.toNat).A) == (at_ l33 (((at_ r3 g34.toNat).Addr).toNat)))) (by kernel_rfl)).trans (by rw [show (((at_ r7.Log g34.toNat).A) == (at_ l33 (((at_ r3 g34.toNat).Addr).toNat))) = true from (beq_iff_eq.mpr c52)]; rfl)) rfl rfl hr (v := .bool (((at_ r7.Log g34.toNat).B) == (0 : Int))) (by kernel_rfl) ?_; clear hr a; intro a hr
              refine op_val (wn rfl) rfl rfl hr (v := .bool (((at_ r7.Log g34.toNat).B) == (0 : Int))) (rp_t (b := (((at_ r7.Log g34.toNat).A) == (at_ l33 (((at_ r3 g34.toNat).Addr).toNat)))) rfl (by kernel_rfl) (beq_iff_eq.mpr c52) (by kernel_rfl)) ?_; clear hr a; intro a hr
              refine ov hr (.bool (((at_ r7.Log g34.toNat).B) == (0 : Int))) (by kernel_rfl) ?_; clear hr a; intro a hr
              by_cases c53 : ((at_ r7.Log g34.toNat).B) = (0 : Int)
              ·
                replace H := ifT c53 H
                refine op_val ((wg hr rfl rfl rfl (b' := (((at_ r7.Log g34.toNat).B) == (0 : Int))) (by kernel_rfl)).trans (by rw [show (((at_ r7.Log g34.toNat).B) == (0 : Int)) = true from (beq_iff_eq.mpr c53)]; rfl)) rfl rfl hr (v := .pointer (some ⟨b41, 0, none⟩)) (by kernel_rfl) ?_; clear hr a; intro a hr
                refine op_val ((wg hr rfl rfl rfl (b' := (((at_ r7.Log g34.toNat).B) == (0 : Int))) (by kernel_rfl)).trans (by rw [show (((at_ r7.Log g34.toNat).B) == (0 : Int)) = true from (beq_iff_eq.mpr c53)]; rfl)) rfl rfl hr (v := .int .i64 ((at_ r7.Effects g34.toNat).V)) (rl rfl (by kernel_rfl) (by kernel_rfl) ((h.pick 8).cell 0 rfl)) ?_; clear hr a; intro a hr
                refine op_val ((wg hr rfl rfl rfl (b' := (((at_ r7.Log g34.toNat).B) == (0 : Int))) (by kernel_rfl)).trans (by rw [show (((at_ r7.Log g34.toNat).B) == (0 : Int)) = true from (beq_iff_eq.mpr c53)]; rfl)) rfl rfl hr (v := .int .i64 (at_ l33 (((at_ r3 g34.toNat).Addr).toNat))) (by kernel_rfl) ?_; clear hr a; intro a hr
                refine op_val ((wg hr rfl rfl rfl (b' := (((at_ r7.Log g34.toNat).B) == (0 : Int))) (by kernel_rfl)).trans (by rw [show (((at_ r7.Log g34.toNat).B) == (0 : Int)) = true from (beq_iff_eq.mpr c53)]; rfl)) rfl rfl hr (v := .bool (((at_ r7.Effects g34.toNat).V) == (at_ l33 (((at_ r3 g34.toNat).Addr).toNat)))) (by kernel_rfl) ?_; clear hr a; intro a hr
                refine op_val (wn rfl) rfl rfl hr (v := .bool (((at_ r7.Effects g34.toNat).V) == (at_ l33 (((at_ r3 g34.toNat).Addr).toNat)))) (rp_t (b := (((at_ r7.Log g34.toNat).B) == (0 : Int))) rfl (by kernel_rfl) (beq_iff_eq.mpr c53) (by kernel_rfl)) ?_; clear hr a; intro a hr
                refine ov hr (.bool (((at_ r7.Effects g34.toNat).V) == (at_ l33 (((at_ r3 g34.toNat).Addr).toNat)))) (by kernel_rfl) ?_; clear hr a; intro a hr
                refine wpList_nil ?_
                refine blk_normal ?_
                refine then_normal ?_
                refine wp_seq ?_
                refine wp_region_lit ?_
                refine ovs [243, 244] [.bool (((at_ r7.Effects g34.toNat).V) == (at_ l33 (((at_ r3 g34.toNat).Addr).toNat))), .bool (!(((at_ r7.Effects g34.toNat).V) == (at_ l33 (((at_ r3 g34.toNat).Addr).toNat))))] hr ⟨rfl, rfl⟩ (by kernel_rfl) ?_; clear hr a; intro a hr
                refine wpList_nil ?_
                refine then_normal ?_
                by_cases c54 : ((at_ r7.Effects g34.toNat).V) = (at_ l33 (((at_ r3 g34.toNat).Addr).toNat))
                ·
                  replace H := ifT c54 H
                  refine cond_ff hr (b := (!(((at_ r7.Effects g34.toNat).V) == (at_ l33 (((at_ r3 g34.toNat).Addr).toNat))))) (by rw [show (((at_ r7.Effects g34.toNat).V) == (at_ l33 (((at_ r3 g34.toNat).Addr).toNat))) = true from (beq_iff_eq.mpr c54)]; rfl) ?_
                  refine wp_skip ?_
                  refine blk_normal ?_
                  refine then_normal ?_
                  refine wp_region_lit ?_
                  refine ovs [78, 79, 10] [.int .i64 g34, .int .i64 (wi (g34 + (1 : Int))), .int .i64 (wi (g34 + (1 : Int)))] hr ⟨rfl, rfl⟩ (by kernel_rfl) ?_; clear hr a; intro a hr
                  refine wpList_nil ?_
                  refine then_normal ?_
                  replace hr := hr.fold2 [(0, .int .i64 (wi ((1 : Int) + r1))), (5, .slice car5 r3.length ccr6), (6, .pointer (some ⟨b14, 0, none⟩)), (8, .pointer (some ⟨b21, 0, none⟩)), (10, .int .i64 (wi (g34 + (1 : Int))))] (by kernel_rfl); obtain ⟨j, hr⟩ := hr
                  replace h : Fit z (sepL (ro57 car5 ccr6 r3 :: ob70 b14 r7 car10 ccr11 car12 r7.Cells.length car13 r7.Log.length :: ro39 car10 ccr11 r7.Effects :: ro2 car12 r7.Cells.length r7.Cells :: ro90 car13 r7.Log.length r7.Log :: rowOf 88 1 encZ_i64 (.slice (some ⟨b21, 0, none⟩) 64 64) l33 :: L)) _ := h.sel 9 [0, 1, 2, 3, 4, 5] (by kernel_rfl) (by kernel_rfl)
                  exact ⟨_, ⟨l33, (wi (g34 + (1 : Int))), H, j, hr, h⟩, Nat.lt_succ_self _⟩
                ·
                  replace H := ifF c54 H
                  refine cond_tt hr (b := (!(((at_ r7.Effects g34.toNat).V) == (at_ l33 (((at_ r3 g34.toNat).Addr).toNat))))) (by rw [show (((at_ r7.Effects g34.toNat).V) == (at_ l33 (((at_ r3 g34.toNat).Addr).toNat))) = false from (beq_eq_false_iff_ne.mpr c54)]; rfl) ?_
                  refine wp_seq ?_
                  refine wp_region_lit ?_
                  refine ov hr (.bool false) (by kernel_rfl) ?_; clear hr a; intro a hr
                  refine wpList_nil ?_
                  refine then_normal ?_
                  refine wp_ret ?_
                  refine blk_ret ?_
                  refine then_ret ?_
                  refine then_ret ?_
                  refine blk_ret ?_
                  refine then_ret ?_
                  refine end_ret1 (v := .bool false) rfl hr (by kernel_rfl) ?_
                  replace H := jx1 H hK31
                  replace h : Fit z (sepL (L)) _ := h.sel 9 [] (by kernel_rfl) (by kernel_rfl)
                  replace H := ej1 H; subst H
                  exact ⟨rfl, h⟩
              ·
                replace H := ifF c53 H
                refine op_off ((wg hr rfl rfl rfl (b' := (((at_ r7.Log g34.toNat).B) == (0 : Int))) (by kernel_rfl)).trans (by rw [show (((at_ r7.Log g34.toNat).B) == (0 : Int)) = false from (beq_eq_false_iff_ne.mpr c53)]; rfl)) rfl rfl hr ?_; clear hr a; intro a hr
                refine op_off ((wg hr rfl rfl rfl (b' := (((at_ r7.Log g34.toNat).B) == (0 : Int))) (by kernel_rfl)).trans (by rw [show (((at_ r7.Log g34.toNat).B) == (0 : Int)) = false from (beq_eq_false_iff_ne.mpr c53)]; rfl)) rfl rfl hr ?_; clear hr a; intro a hr
                refine op_off ((wg hr rfl rfl rfl (b' := (((at_ r7.Log g34.toNat).B) == (0 : Int))) (by kernel_rfl)).trans (by rw [show (((at_ r7.Log g34.toNat).B) == (0 : Int)) = false from (beq_eq_false_iff_ne.mpr c53)]; rfl)) rfl rfl hr ?_; clear hr a; intro a hr
                refine op_off ((wg hr rfl rfl rfl (b' := (((at_ r7.Log g34.toNat).B) == (0 : Int))) (by kernel_rfl)).trans (by rw [show (((at_ r7.Log g34.toNat).B) == (0 : Int)) = false from (beq_eq_false_iff_ne.mpr c53)]; rfl)) rfl rfl hr ?_; clear hr a; intro a hr
                refine op_val (wn rfl) rfl rfl hr (v := .bool false) (rp_f (b := (((at_ r7.Log g34.toNat).B) == (0 : Int))) rfl (by kernel_rfl) (beq_eq_false_iff_ne.mpr c53) (by kernel_rfl)) ?_; clear hr a; intro a hr
                refine ov hr (.bool false) (by kernel_rfl) ?_; clear hr a; intro a hr
                refine wpList_nil ?_
                refine blk_normal ?_
                refine then_normal ?_
                refine wp_seq ?_
                refine wp_region_lit ?_
                refine ovs [243, 244] [.bool false, .bool true] hr ⟨rfl, rfl⟩ (by kernel_rfl) ?_; clear hr a; intro a hr
                refine wpList_nil ?_
                refine then_normal ?_
                refine cond_tt hr (b := true) rfl ?_
                refine wp_seq ?_
                refine wp_region_lit ?_
                refine ov hr (.bool false) (by kernel_rfl) ?_; clear hr a; intro a hr
                refine wpList_nil ?_
                refine then_normal ?_
                refine wp_ret ?_
                refine blk_ret ?_
                refine then_ret ?_
                refine then_ret ?_
                refine blk_ret ?_
                refine then_ret ?_
                refine end_ret1 (v := .bool false) rfl hr (by kernel_rfl) ?_
                replace H := jx1 H hK31
                replace h : Fit z (sepL (L)) _ := h.sel 9 [] (by kernel_rfl) (by kernel_rfl)
                replace H := ej1 H; subst H
                exact ⟨rfl, h⟩
            ·
              replace H := ifF c52 H
              refine op_off ((wg hr rfl rfl rfl (b' := (((at_ r7.Log g34.toNat).A) == (at_ l33 (((at_ r3 g34.toNat).Addr).toNat)))) (by kernel_rfl)).trans (by rw [show (((at_ r7.Log g34.toNat).A) == (at_ l33 (((at_ r3 g34.toNat).Addr).toNat))) = false from (beq_eq_false_iff_ne.mpr c52)]; rfl)) rfl rfl hr ?_; clear hr a; intro a hr
              refine op_off ((wg hr rfl rfl rfl (b' := (((at_ r7.Log g34.toNat).A) == (at_ l33 (((at_ r3 g34.toNat).Addr).toNat)))) (by kernel_rfl)).trans (by rw [show (((at_ r7.Log g34.toNat).A) == (at_ l33 (((at_ r3 g34.toNat).Addr).toNat))) = false from (beq_eq_false_iff_ne.mpr c52)]; rfl)) rfl rfl hr ?_; clear hr a; intro a hr
              refine op_off ((wg hr rfl rfl rfl (b' := (((at_ r7.Log g34.toNat).A) == (at_ l33 (((at_ r3 g34.toNat).Addr).toNat)))) (by kernel_rfl)).trans (by rw [show (((at_ r7.Log g34.toNat).A) == (at_ l33 (((at_ r3 g34.toNat).Addr).toNat))) = false from (beq_eq_false_iff_ne.mpr c52)]; rfl)) rfl rfl hr ?_; clear hr a; intro a hr
              refine op_val (wn rfl) rfl rfl hr (v := .bool false) (rp_f (b := (((at_ r7.Log g34.toNat).A) == (at_ l33 (((at_ r3 g34.toNat).Addr).toNat)))) rfl (by kernel_rfl) (beq_eq_false_iff_ne.mpr c52) (by kernel_rfl)) ?_; clear hr a; intro a hr
              refine ov hr (.bool false) (by kernel_rfl) ?_; clear hr a; intro a hr
              refine op_off ((wg hr rfl rfl rfl (b' := false) (by kernel_rfl)).trans rfl) rfl rfl hr ?_; clear hr a; intro a hr
              refine op_off ((wg hr rfl rfl rfl (b' := false) (by kernel_rfl)).trans rfl) rfl rfl hr ?_; clear hr a; intro a hr
              refine op_off ((wg hr rfl rfl rfl (b' := false) (by kernel_rfl)).trans rfl) rfl rfl hr ?_; clear hr a; intro a hr
              refine op_off ((wg hr rfl rfl rfl (b' := false) (by kernel_rfl)).trans rfl) rfl rfl hr ?_; clear hr a; intro a hr
              refine ovs [181, 15] [.bool false, .bool false] hr ⟨rfl, rfl⟩ (by kernel_rfl) ?_; clear hr a; intro a hr
              refine wpList_nil ?_
              refine blk_normal ?_
              refine then_normal ?_
              refine wp_seq ?_
              refine wp_region_lit ?_
              refine ovs [243, 244] [.bool false, .bool true] hr ⟨rfl, rfl⟩ (by kernel_rfl) ?_; clear hr a; intro a hr
              refine wpList_nil ?_
              refine then_normal ?_
              refine cond_tt hr (b := true) rfl ?_
              refine wp_seq ?_
              refine wp_region_lit ?_
              refine ov hr (.bool false) (by kernel_rfl) ?_; clear hr a; intro a hr
              refine wpList_nil ?_
              refine then_normal ?_
              refine wp_ret ?_
              refine blk_ret ?_
              refine then_ret ?_
              refine then_ret ?_
              refine blk_ret ?_
              refine then_ret ?_
              refine end_ret1 (v := .bool false) rfl hr (by kernel_rfl) ?_
              replace H := jx1 H hK31
              replace h : Fit z (sepL (L)) _ := h.sel 9 [] (by kernel_rfl) (by kernel_rfl)
              replace H := ej1 H; subst H
              exact ⟨rfl, h⟩
          ·
            replace H := ifF c51 H
            refine op_off ((wg hr rfl rfl rfl (b' := ((at_ r7.Log g34.toNat).OK)) (by kernel_rfl)).trans (by rw [show ((at_ r7.Log g34.toNat).OK) = false from (bF c51)]; rfl)) rfl rfl hr ?_; clear hr a; intro a hr
            refine op_off ((wg hr rfl rfl rfl (b' := ((at_ r7.Log g34.toNat).OK)) (by kernel_rfl)).trans (by rw [show ((at_ r7.Log g34.toNat).OK) = false from (bF c51)]; rfl)) rfl rfl hr ?_; clear hr a; intro a hr
            refine op_off ((wg hr rfl rfl rfl (b' := ((at_ r7.Log g34.toNat).OK)) (by kernel_rfl)).trans (by rw [show ((at_ r7.Log g34.toNat).OK) = false from (bF c51)]; rfl)) rfl rfl hr ?_; clear hr a; intro a hr
            refine op_off ((wg hr rfl rfl rfl (b' := ((at_ r7.Log g34.toNat).OK)) (by kernel_rfl)).trans (by rw [show ((at_ r7.Log g34.toNat).OK) = false from (bF c51)]; rfl)) rfl rfl hr ?_; clear hr a; intro a hr
            refine op_val (wn rfl) rfl rfl hr (v := .bool false) (rp_f (b := ((at_ r7.Log g34.toNat).OK)) rfl (by kernel_rfl) (bF c51) (by kernel_rfl)) ?_; clear hr a; intro a hr
            refine ov hr (.bool false) (by kernel_rfl) ?_; clear hr a; intro a hr
            refine op_off ((wg hr rfl rfl rfl (b' := false) (by kernel_rfl)).trans rfl) rfl rfl hr ?_; clear hr a; intro a hr
            refine op_off ((wg hr rfl rfl rfl (b' := false) (by kernel_rfl)).trans rfl) rfl rfl hr ?_; clear hr a; intro a hr
            refine op_off ((wg hr rfl rfl rfl (b' := false) (by kernel_rfl)).trans rfl) rfl rfl hr ?_; clear hr a; intro a hr
            refine ovs [175, 176] [.bool false, .bool false] hr ⟨rfl, rfl⟩ (by kernel_rfl) ?_; clear hr a; intro a hr
            refine op_off ((wg hr rfl rfl rfl (b' := false) (by kernel_rfl)).trans rfl) rfl rfl hr ?_; clear hr a; intro a hr
            refine op_off ((wg hr rfl rfl rfl (b' := false) (by kernel_rfl)).trans rfl) rfl rfl hr ?_; clear hr a; intro a hr
            refine op_off ((wg hr rfl rfl rfl (b' := false) (by kernel_rfl)).trans rfl) rfl rfl hr ?_; clear hr a; intro a hr
            refine op_off ((wg hr rfl rfl rfl (b' := false) (by kernel_rfl)).trans rfl) rfl rfl hr ?_; clear hr a; intro a hr
            refine ovs [181, 15] [.bool false, .bool false] hr ⟨rfl, rfl⟩ (by kernel_rfl) ?_; clear hr a; intro a hr
            refine wpList_nil ?_
            refine blk_normal ?_
            refine then_normal ?_
            refine wp_seq ?_
            refine wp_region_lit ?_
            refine ovs [243, 244] [.bool false, .bool true] hr ⟨rfl, rfl⟩ (by kernel_rfl) ?_; clear hr a; intro a hr
            refine wpList_nil ?_
            refine then_normal ?_
            refine cond_tt hr (b := true) rfl ?_
            refine wp_seq ?_
            refine wp_region_lit ?_
            refine ov hr (.bool false) (by kernel_rfl) ?_; clear hr a; intro a hr
            refine wpList_nil ?_
            refine then_normal ?_
            refine wp_ret ?_
            refine blk_ret ?_
            refine then_ret ?_
            refine then_ret ?_
            refine blk_ret ?_
            refine then_ret ?_
            refine end_ret1 (v := .bool false) rfl hr (by kernel_rfl) ?_
            replace H := jx1 H hK31
            replace h : Fit z (sepL (L)) _ := h.sel 9 [] (by kernel_rfl) (by kernel_rfl)
            replace H := ej1 H; subst H
            exact ⟨rfl, h⟩
        ·
          replace H := ifF c50 H
          refine cond_ff hr (b := (((at_ r3 g34.toNat).Kind) == (0 : Int))) (beq_eq_false_iff_ne.mpr c50) ?_
          refine wp_seq ?_
          refine wp_region_lit ?_
          refine ovs [183, 182] [.bool (((at_ r3 g34.toNat).Kind) == (1 : Int)), .bool (((at_ r3 g34.toNat).Kind) == (1 : Int))] hr ⟨rfl, rfl⟩ (by kernel_rfl) ?_; clear hr a; intro a hr
          refine wpList_nil ?_
          refine then_normal ?_
          by_cases c55 : ((at_ r3 g34.toNat).Kind) = (1 : Int)
          ·
            replace H := ifT c55 H
            refine cond_tt hr (b := (((at_ r3 g34.toNat).Kind) == (1 : Int))) (beq_iff_eq.mpr c55) ?_
            refine wp_seq ?_
            refine wp_region_lit ?_
            refine ov hr (.pointer (some ⟨b39, 5, none⟩)) (by kernel_rfl) ?_; clear hr a; intro a hr
            refine op_val (wn rfl) rfl rfl hr (v := .bool ((at_ r7.Log g34.toNat).OK)) (rl rfl (by kernel_rfl) (by kernel_rfl) ((h.pick 7).cell 5 rfl)) ?_; clear hr a; intro a hr
            refine ov hr (.bool ((at_ r7.Log g34.toNat).OK)) (by kernel_rfl) ?_; clear hr a; intro a hr
            by_cases c56 : ((at_ r7.Log g34.toNat).OK) = true
            ·
              replace H := ifT c56 H
              refine op_val ((wg hr rfl rfl rfl (b' := ((at_ r7.Log g34.toNat).OK)) (by kernel_rfl)).trans (by rw [show ((at_ r7.Log g34.toNat).OK) = true from (c56)]; rfl)) rfl rfl hr (v := .pointer (some ⟨b39, 3, none⟩)) (by kernel_rfl) ?_; clear hr a; intro a hr
              refine op_val ((wg hr rfl rfl rfl (b' := ((at_ r7.Log g34.toNat).OK)) (by kernel_rfl)).trans (by rw [show ((at_ r7.Log g34.toNat).OK) = true from (c56)]; rfl)) rfl rfl hr (v := .int .i64 ((at_ r7.Log g34.toNat).A)) (rl rfl (by kernel_rfl) (by kernel_rfl) ((h.pick 7).cell 3 rfl)) ?_; clear hr a; intro a hr
              refine op_val ((wg hr rfl rfl rfl (b' := ((at_ r7.Log g34.toNat).OK)) (by kernel_rfl)).trans (by rw [show ((at_ r7.Log g34.toNat).OK) = true from (c56)]; rfl)) rfl rfl hr (v := .pointer (some ⟨b37, 3, none⟩)) (by kernel_rfl) ?_; clear hr a; intro a hr
              refine op_val ((wg hr rfl rfl rfl (b' := ((at_ r7.Log g34.toNat).OK)) (by kernel_rfl)).trans (by rw [show ((at_ r7.Log g34.toNat).OK) = true from (c56)]; rfl)) rfl rfl hr (v := .int .i64 ((at_ r3 g34.toNat).A)) (rl rfl (by kernel_rfl) (by kernel_rfl) ((h.pick 6).cell 3 rfl)) ?_; clear hr a; intro a hr
              refine op_val ((wg hr rfl rfl rfl (b' := ((at_ r7.Log g34.toNat).OK)) (by kernel_rfl)).trans (by rw [show ((at_ r7.Log g34.toNat).OK) = true from (c56)]; rfl)) rfl rfl hr (v := .bool (((at_ r7.Log g34.toNat).A) == ((at_ r3 g34.toNat).A))) (by kernel_rfl) ?_; clear hr a; intro a hr
              refine op_val (wn rfl) rfl rfl hr (v := .bool (((at_ r7.Log g34.toNat).A) == ((at_ r3 g34.toNat).A))) (rp_t (b := ((at_ r7.Log g34.toNat).OK)) rfl (by kernel_rfl) (c56) (by kernel_rfl)) ?_; clear hr a; intro a hr
              refine ov hr (.bool (((at_ r7.Log g34.toNat).A) == ((at_ r3 g34.toNat).A))) (by kernel_rfl) ?_; clear hr a; intro a hr
              by_cases c57 : ((at_ r7.Log g34.toNat).A) = ((at_ r3 g34.toNat).A)
              ·
                replace H := ifT c57 H
                refine op_val ((wg hr rfl rfl rfl (b' := (((at_ r7.Log g34.toNat).A) == ((at_ r3 g34.toNat).A))) (by kernel_rfl)).trans (by rw [show (((at_ r7.Log g34.toNat).A) == ((at_ r3 g34.toNat).A)) = true from (beq_iff_eq.mpr c57)]; rfl)) rfl rfl hr (v := .pointer (some ⟨b39, 4, none⟩)) (by kernel_rfl) ?_; clear hr a; intro a hr
                refine op_val ((wg hr rfl rfl rfl (b' := (((at_ r7.Log g34.toNat).A) == ((at_ r3 g34.toNat).A))) (by kernel_rfl)).trans (by rw [show (((at_ r7.Log g34.toNat).A) == ((at_ r3 g34.toNat).A)) = true from (beq_iff_eq.mpr c57)]; rfl)) rfl rfl hr (v := .int .i64 ((at_ r7.Log g34.toNat).B)) (rl rfl (by kernel_rfl) (by kernel_rfl) ((h.pick 7).cell 4 rfl)) ?_; clear hr a; intro a hr
                refine op_val ((wg hr rfl rfl rfl (b' := (((at_ r7.Log g34.toNat).A) == ((at_ r3 g34.toNat).A))) (by kernel_rfl)).trans (by rw [show (((at_ r7.Log g34.toNat).A) == ((at_ r3 g34.toNat).A)) = true from (beq_iff_eq.mpr c57)]; rfl)) rfl rfl hr (v := .bool (((at_ r7.Log g34.toNat).B) == (0 : Int))) (by kernel_rfl) ?_; clear hr a; intro a hr
                refine op_val (wn rfl) rfl rfl hr (v := .bool (((at_ r7.Log g34.toNat).B) == (0 : Int))) (rp_t (b := (((at_ r7.Log g34.toNat).A) == ((at_ r3 g34.toNat).A))) rfl (by kernel_rfl) (beq_iff_eq.mpr c57) (by kernel_rfl)) ?_; clear hr a; intro a hr
                refine ov hr (.bool (((at_ r7.Log g34.toNat).B) == (0 : Int))) (by kernel_rfl) ?_; clear hr a; intro a hr
                by_cases c58 : ((at_ r7.Log g34.toNat).B) = (0 : Int)
                ·
                  replace H := ifT c58 H
                  refine op_val ((wg hr rfl rfl rfl (b' := (((at_ r7.Log g34.toNat).B) == (0 : Int))) (by kernel_rfl)).trans (by rw [show (((at_ r7.Log g34.toNat).B) == (0 : Int)) = true from (beq_iff_eq.mpr c58)]; rfl)) rfl rfl hr (v := .pointer (some ⟨b41, 0, none⟩)) (by kernel_rfl) ?_; clear hr a; intro a hr
                  refine op_val ((wg hr rfl rfl rfl (b' := (((at_ r7.Log g34.toNat).B) == (0 : Int))) (by kernel_rfl)).trans (by rw [show (((at_ r7.Log g34.toNat).B) == (0 : Int)) = true from (beq_iff_eq.mpr c58)]; rfl)) rfl rfl hr (v := .int .i64 ((at_ r7.Effects g34.toNat).V)) (rl rfl (by kernel_rfl) (by kernel_rfl) ((h.pick 8).cell 0 rfl)) ?_; clear hr a; intro a hr
                  refine op_val ((wg hr rfl rfl rfl (b' := (((at_ r7.Log g34.toNat).B) == (0 : Int))) (by kernel_rfl)).trans (by rw [show (((at_ r7.Log g34.toNat).B) == (0 : Int)) = true from (beq_iff_eq.mpr c58)]; rfl)) rfl rfl hr (v := .bool (((at_ r7.Effects g34.toNat).V) == (0 : Int))) (by kernel_rfl) ?_; clear hr a; intro a hr
                  refine op_val (wn rfl) rfl rfl hr (v := .bool (((at_ r7.Effects g34.toNat).V) == (0 : Int))) (rp_t (b := (((at_ r7.Log g34.toNat).B) == (0 : Int))) rfl (by kernel_rfl) (beq_iff_eq.mpr c58) (by kernel_rfl)) ?_; clear hr a; intro a hr
                  refine ov hr (.bool (((at_ r7.Effects g34.toNat).V) == (0 : Int))) (by kernel_rfl) ?_; clear hr a; intro a hr
                  refine wpList_nil ?_
                  refine then_normal ?_
                  refine wp_region_lit ?_
                  refine ov hr (.pointer (some ⟨b37, 2, none⟩)) (by kernel_rfl) ?_; clear hr a; intro a hr
                  refine op_val (wn rfl) rfl rfl hr (v := .int .i64 ((at_ r3 g34.toNat).Addr)) (rl rfl (by kernel_rfl) (by kernel_rfl) ((h.pick 6).cell 2 rfl)) ?_; clear hr a; intro a hr
                  refine ov hr (.pointer (some ⟨b37, 3, none⟩)) (by kernel_rfl) ?_; clear hr a; intro a hr
                  refine op_val (wn rfl) rfl rfl hr (v := .int .i64 ((at_ r3 g34.toNat).A)) (rl rfl (by kernel_rfl) (by kernel_rfl) ((h.pick 6).cell 3 rfl)) ?_; clear hr a; intro a hr
                  refine op_val (wn rfl) rfl rfl hr (v := .pointer (some ⟨blk (some ⟨b21, 0, none⟩), (((at_ r3 g34.toNat).Addr).toNat) * 1, none⟩)) (ri_arr (k := .i64) (E := 2) rfl (by kernel_rfl) (by kernel_rfl) (by kernel_rfl) (by kernel_rfl) (h.pick 5).row_n.symm c42) ?_; clear hr a; intro a hr
                  replace h : Fit z (sepL (rowOf 88 1 encZ_i64 (.slice (some ⟨b21, 0, none⟩) 64 64) l33 :: ro57 car5 ccr6 r3 :: ob70 b14 r7 car10 ccr11 car12 r7.Cells.length car13 r7.Log.length :: ro39 car10 ccr11 r7.Effects :: ro2 car12 r7.Cells.length r7.Cells :: ro90 car13 r7.Log.length r7.Log :: ob57 b37 (at_ r3 g34.toNat) :: ob90 b39 (at_ r7.Log g34.toNat) :: ob39 b41 (at_ r7.Effects g34.toNat) :: L)) _ := h.sel 9 [5, 0, 1, 2, 3, 4, 6, 7, 8] (by kernel_rfl) (by kernel_rfl)
                  refine op_store_row (wn rfl) rfl hr rfl (by kernel_rfl) (by kernel_rfl) (v := .int .i64 ((at_ r3 g34.toNat).A)) rfl rfl (by kernel_rfl) encZ_i64_ok h (i := (((at_ r3 g34.toNat).Addr).toNat)) (f := 0) (p := (at_ l33 (((at_ r3 g34.toNat).Addr).toNat))) (q := ((at_ r3 g34.toNat).A)) (at_ok c42) (by decide) rfl ?_; clear h; intro w h
                  replace h : Fit z (sepL (rowOf 88 1 encZ_i64 (.slice (some ⟨b21, 0, none⟩) 64 64) (l33.set (((at_ r3 g34.toNat).Addr).toNat) ((at_ r3 g34.toNat).A)) :: ro57 car5 ccr6 r3 :: ob70 b14 r7 car10 ccr11 car12 r7.Cells.length car13 r7.Log.length :: ro39 car10 ccr11 r7.Effects :: ro2 car12 r7.Cells.length r7.Cells :: ro90 car13 r7.Log.length r7.Log :: ob57 b37 (at_ r3 g34.toNat) :: ob90 b39 (at_ r7.Log g34.toNat) :: ob39 b41 (at_ r7.Effects g34.toNat) :: L)) _ := h
                  refine wpList_nil ?_
                  refine blk_normal ?_
                  refine then_normal ?_
                  refine wp_seq ?_
                  refine wp_region_lit ?_
                  refine ovs [243, 244] [.bool (((at_ r7.Effects g34.toNat).V) == (0 : Int)), .bool (!(((at_ r7.Effects g34.toNat).V) == (0 : Int)))] hr ⟨rfl, rfl⟩ (by kernel_rfl) ?_; clear hr a; intro a hr
                  refine wpList_nil ?_
                  refine then_normal ?_
                  by_cases c59 : ((at_ r7.Effects g34.toNat).V) = (0 : Int)
                  ·
                    replace H := ifT c59 H
                    refine cond_ff hr (b := (!(((at_ r7.Effects g34.toNat).V) == (0 : Int)))) (by rw [show (((at_ r7.Effects g34.toNat).V) == (0 : Int)) = true from (beq_iff_eq.mpr c59)]; rfl) ?_
                    refine wp_skip ?_
                    refine blk_normal ?_
                    refine then_normal ?_
                    refine wp_region_lit ?_
                    refine ovs [78, 79, 10] [.int .i64 g34, .int .i64 (wi (g34 + (1 : Int))), .int .i64 (wi (g34 + (1 : Int)))] hr ⟨rfl, rfl⟩ (by kernel_rfl) ?_; clear hr a; intro a hr
                    refine wpList_nil ?_
                    refine then_normal ?_
                    replace hr := hr.fold2 [(0, .int .i64 (wi ((1 : Int) + r1))), (5, .slice car5 r3.length ccr6), (6, .pointer (some ⟨b14, 0, none⟩)), (8, .pointer (some ⟨b21, 0, none⟩)), (10, .int .i64 (wi (g34 + (1 : Int))))] (by kernel_rfl); obtain ⟨j, hr⟩ := hr
                    replace h : Fit z (sepL (ro57 car5 ccr6 r3 :: ob70 b14 r7 car10 ccr11 car12 r7.Cells.length car13 r7.Log.length :: ro39 car10 ccr11 r7.Effects :: ro2 car12 r7.Cells.length r7.Cells :: ro90 car13 r7.Log.length r7.Log :: rowOf 88 1 encZ_i64 (.slice (some ⟨b21, 0, none⟩) 64 64) (l33.set (((at_ r3 g34.toNat).Addr).toNat) ((at_ r3 g34.toNat).A)) :: L)) _ := h.sel 9 [1, 2, 3, 4, 5, 0] (by kernel_rfl) (by kernel_rfl)
                    exact ⟨_, ⟨(l33.set (((at_ r3 g34.toNat).Addr).toNat) ((at_ r3 g34.toNat).A)), (wi (g34 + (1 : Int))), H, j, hr, h⟩, Nat.lt_succ_self _⟩
                  ·
                    replace H := ifF c59 H
                    refine cond_tt hr (b := (!(((at_ r7.Effects g34.toNat).V) == (0 : Int)))) (by rw [show (((at_ r7.Effects g34.toNat).V) == (0 : Int)) = false from (beq_eq_false_iff_ne.mpr c59)]; rfl) ?_
                    refine wp_seq ?_
                    refine wp_region_lit ?_
                    refine ov hr (.bool false) (by kernel_rfl) ?_; clear hr a; intro a hr
                    refine wpList_nil ?_
                    refine then_normal ?_
                    refine wp_ret ?_
                    refine blk_ret ?_
                    refine then_ret ?_
                    refine then_ret ?_
                    refine blk_ret ?_
                    refine then_ret ?_
                    refine end_ret1 (v := .bool false) rfl hr (by kernel_rfl) ?_
                    replace H := jx1 H hK31
                    replace h : Fit z (sepL (L)) _ := h.sel 9 [] (by kernel_rfl) (by kernel_rfl)
                    replace H := ej1 H; subst H
                    exact ⟨rfl, h⟩
                ·
                  replace H := ifF c58 H
                  refine op_off ((wg hr rfl rfl rfl (b' := (((at_ r7.Log g34.toNat).B) == (0 : Int))) (by kernel_rfl)).trans (by rw [show (((at_ r7.Log g34.toNat).B) == (0 : Int)) = false from (beq_eq_false_iff_ne.mpr c58)]; rfl)) rfl rfl hr ?_; clear hr a; intro a hr
                  refine op_off ((wg hr rfl rfl rfl (b' := (((at_ r7.Log g34.toNat).B) == (0 : Int))) (by kernel_rfl)).trans (by rw [show (((at_ r7.Log g34.toNat).B) == (0 : Int)) = false from (beq_eq_false_iff_ne.mpr c58)]; rfl)) rfl rfl hr ?_; clear hr a; intro a hr
                  refine op_off ((wg hr rfl rfl rfl (b' := (((at_ r7.Log g34.toNat).B) == (0 : Int))) (by kernel_rfl)).trans (by rw [show (((at_ r7.Log g34.toNat).B) == (0 : Int)) = false from (beq_eq_false_iff_ne.mpr c58)]; rfl)) rfl rfl hr ?_; clear hr a; intro a hr
                  refine op_val (wn rfl) rfl rfl hr (v := .bool false) (rp_f (b := (((at_ r7.Log g34.toNat).B) == (0 : Int))) rfl (by kernel_rfl) (beq_eq_false_iff_ne.mpr c58) (by kernel_rfl)) ?_; clear hr a; intro a hr
                  refine ov hr (.bool false) (by kernel_rfl) ?_; clear hr a; intro a hr
                  refine wpList_nil ?_
                  refine then_normal ?_
                  refine wp_region_lit ?_
                  refine ov hr (.pointer (some ⟨b37, 2, none⟩)) (by kernel_rfl) ?_; clear hr a; intro a hr
                  refine op_val (wn rfl) rfl rfl hr (v := .int .i64 ((at_ r3 g34.toNat).Addr)) (rl rfl (by kernel_rfl) (by kernel_rfl) ((h.pick 6).cell 2 rfl)) ?_; clear hr a; intro a hr
                  refine ov hr (.pointer (some ⟨b37, 3, none⟩)) (by kernel_rfl) ?_; clear hr a; intro a hr
                  refine op_val (wn rfl) rfl rfl hr (v := .int .i64 ((at_ r3 g34.toNat).A)) (rl rfl (by kernel_rfl) (by kernel_rfl) ((h.pick 6).cell 3 rfl)) ?_; clear hr a; intro a hr
                  refine op_val (wn rfl) rfl rfl hr (v := .pointer (some ⟨blk (some ⟨b21, 0, none⟩), (((at_ r3 g34.toNat).Addr).toNat) * 1, none⟩)) (ri_arr (k := .i64) (E := 2) rfl (by kernel_rfl) (by kernel_rfl) (by kernel_rfl) (by kernel_rfl) (h.pick 5).row_n.symm c42) ?_; clear hr a; intro a hr
                  replace h : Fit z (sepL (rowOf 88 1 encZ_i64 (.slice (some ⟨b21, 0, none⟩) 64 64) l33 :: ro57 car5 ccr6 r3 :: ob70 b14 r7 car10 ccr11 car12 r7.Cells.length car13 r7.Log.length :: ro39 car10 ccr11 r7.Effects :: ro2 car12 r7.Cells.length r7.Cells :: ro90 car13 r7.Log.length r7.Log :: ob57 b37 (at_ r3 g34.toNat) :: ob90 b39 (at_ r7.Log g34.toNat) :: ob39 b41 (at_ r7.Effects g34.toNat) :: L)) _ := h.sel 9 [5, 0, 1, 2, 3, 4, 6, 7, 8] (by kernel_rfl) (by kernel_rfl)
                  refine op_store_row (wn rfl) rfl hr rfl (by kernel_rfl) (by kernel_rfl) (v := .int .i64 ((at_ r3 g34.toNat).A)) rfl rfl (by kernel_rfl) encZ_i64_ok h (i := (((at_ r3 g34.toNat).Addr).toNat)) (f := 0) (p := (at_ l33 (((at_ r3 g34.toNat).Addr).toNat))) (q := ((at_ r3 g34.toNat).A)) (at_ok c42) (by decide) rfl ?_; clear h; intro w h
                  replace h : Fit z (sepL (rowOf 88 1 encZ_i64 (.slice (some ⟨b21, 0, none⟩) 64 64) (l33.set (((at_ r3 g34.toNat).Addr).toNat) ((at_ r3 g34.toNat).A)) :: ro57 car5 ccr6 r3 :: ob70 b14 r7 car10 ccr11 car12 r7.Cells.length car13 r7.Log.length :: ro39 car10 ccr11 r7.Effects :: ro2 car12 r7.Cells.length r7.Cells :: ro90 car13 r7.Log.length r7.Log :: ob57 b37 (at_ r3 g34.toNat) :: ob90 b39 (at_ r7.Log g34.toNat) :: ob39 b41 (at_ r7.Effects g34.toNat) :: L)) _ := h
                  refine wpList_nil ?_
                  refine blk_normal ?_
                  refine then_normal ?_
                  refine wp_seq ?_
                  refine wp_region_lit ?_
                  refine ovs [243, 244] [.bool false, .bool true] hr ⟨rfl, rfl⟩ (by kernel_rfl) ?_; clear hr a; intro a hr
                  refine wpList_nil ?_
                  refine then_normal ?_
                  refine cond_tt hr (b := true) rfl ?_
                  refine wp_seq ?_
                  refine wp_region_lit ?_
                  refine ov hr (.bool false) (by kernel_rfl) ?_; clear hr a; intro a hr
                  refine wpList_nil ?_
                  refine then_normal ?_
                  refine wp_ret ?_
                  refine blk_ret ?_
                  refine then_ret ?_
                  refine then_ret ?_
                  refine blk_ret ?_
                  refine then_ret ?_
                  refine end_ret1 (v := .bool false) rfl hr (by kernel_rfl) ?_
                  replace H := jx1 H hK31
                  replace h : Fit z (sepL (L)) _ := h.sel 9 [] (by kernel_rfl) (by kernel_rfl)
                  replace H := ej1 H; subst H
                  exact ⟨rfl, h⟩
              ·
                replace H := ifF c57 H
                refine op_off ((wg hr rfl rfl rfl (b' := (((at_ r7.Log g34.toNat).A) == ((at_ r3 g34.toNat).A))) (by kernel_rfl)).trans (by rw [show (((at_ r7.Log g34.toNat).A) == ((at_ r3 g34.toNat).A)) = false from (beq_eq_false_iff_ne.mpr c57)]; rfl)) rfl rfl hr ?_; clear hr a; intro a hr
                refine op_off ((wg hr rfl rfl rfl (b' := (((at_ r7.Log g34.toNat).A) == ((at_ r3 g34.toNat).A))) (by kernel_rfl)).trans (by rw [show (((at_ r7.Log g34.toNat).A) == ((at_ r3 g34.toNat).A)) = false from (beq_eq_false_iff_ne.mpr c57)]; rfl)) rfl rfl hr ?_; clear hr a; intro a hr
                refine op_off ((wg hr rfl rfl rfl (b' := (((at_ r7.Log g34.toNat).A) == ((at_ r3 g34.toNat).A))) (by kernel_rfl)).trans (by rw [show (((at_ r7.Log g34.toNat).A) == ((at_ r3 g34.toNat).A)) = false from (beq_eq_false_iff_ne.mpr c57)]; rfl)) rfl rfl hr ?_; clear hr a; intro a hr
                refine op_val (wn rfl) rfl rfl hr (v := .bool false) (rp_f (b := (((at_ r7.Log g34.toNat).A) == ((at_ r3 g34.toNat).A))) rfl (by kernel_rfl) (beq_eq_false_iff_ne.mpr c57) (by kernel_rfl)) ?_; clear hr a; intro a hr
                refine ov hr (.bool false) (by kernel_rfl) ?_; clear hr a; intro a hr
                refine op_off ((wg hr rfl rfl rfl (b' := false) (by kernel_rfl)).trans rfl) rfl rfl hr ?_; clear hr a; intro a hr
                refine op_off ((wg hr rfl rfl rfl (b' := false) (by kernel_rfl)).trans rfl) rfl rfl hr ?_; clear hr a; intro a hr
                refine op_off ((wg hr rfl rfl rfl (b' := false) (by kernel_rfl)).trans rfl) rfl rfl hr ?_; clear hr a; intro a hr
                refine ovs [202, 15] [.bool false, .bool false] hr ⟨rfl, rfl⟩ (by kernel_rfl) ?_; clear hr a; intro a hr
                refine wpList_nil ?_
                refine then_normal ?_
                refine wp_region_lit ?_
                refine ov hr (.pointer (some ⟨b37, 2, none⟩)) (by kernel_rfl) ?_; clear hr a; intro a hr
                refine op_val (wn rfl) rfl rfl hr (v := .int .i64 ((at_ r3 g34.toNat).Addr)) (rl rfl (by kernel_rfl) (by kernel_rfl) ((h.pick 6).cell 2 rfl)) ?_; clear hr a; intro a hr
                refine ov hr (.pointer (some ⟨b37, 3, none⟩)) (by kernel_rfl) ?_; clear hr a; intro a hr
                refine op_val (wn rfl) rfl rfl hr (v := .int .i64 ((at_ r3 g34.toNat).A)) (rl rfl (by kernel_rfl) (by kernel_rfl) ((h.pick 6).cell 3 rfl)) ?_; clear hr a; intro a hr
                refine op_val (wn rfl) rfl rfl hr (v := .pointer (some ⟨blk (some ⟨b21, 0, none⟩), (((at_ r3 g34.toNat).Addr).toNat) * 1, none⟩)) (ri_arr (k := .i64) (E := 2) rfl (by kernel_rfl) (by kernel_rfl) (by kernel_rfl) (by kernel_rfl) (h.pick 5).row_n.symm c42) ?_; clear hr a; intro a hr
                replace h : Fit z (sepL (rowOf 88 1 encZ_i64 (.slice (some ⟨b21, 0, none⟩) 64 64) l33 :: ro57 car5 ccr6 r3 :: ob70 b14 r7 car10 ccr11 car12 r7.Cells.length car13 r7.Log.length :: ro39 car10 ccr11 r7.Effects :: ro2 car12 r7.Cells.length r7.Cells :: ro90 car13 r7.Log.length r7.Log :: ob57 b37 (at_ r3 g34.toNat) :: ob90 b39 (at_ r7.Log g34.toNat) :: ob39 b41 (at_ r7.Effects g34.toNat) :: L)) _ := h.sel 9 [5, 0, 1, 2, 3, 4, 6, 7, 8] (by kernel_rfl) (by kernel_rfl)
                refine op_store_row (wn rfl) rfl hr rfl (by kernel_rfl) (by kernel_rfl) (v := .int .i64 ((at_ r3 g34.toNat).A)) rfl rfl (by kernel_rfl) encZ_i64_ok h (i := (((at_ r3 g34.toNat).Addr).toNat)) (f := 0) (p := (at_ l33 (((at_ r3 g34.toNat).Addr).toNat))) (q := ((at_ r3 g34.toNat).A)) (at_ok c42) (by decide) rfl ?_; clear h; intro w h
                replace h : Fit z (sepL (rowOf 88 1 encZ_i64 (.slice (some ⟨b21, 0, none⟩) 64 64) (l33.set (((at_ r3 g34.toNat).Addr).toNat) ((at_ r3 g34.toNat).A)) :: ro57 car5 ccr6 r3 :: ob70 b14 r7 car10 ccr11 car12 r7.Cells.length car13 r7.Log.length :: ro39 car10 ccr11 r7.Effects :: ro2 car12 r7.Cells.length r7.Cells :: ro90 car13 r7.Log.length r7.Log :: ob57 b37 (at_ r3 g34.toNat) :: ob90 b39 (at_ r7.Log g34.toNat) :: ob39 b41 (at_ r7.Effects g34.toNat) :: L)) _ := h
                refine wpList_nil ?_
                refine blk_normal ?_
                refine then_normal ?_
                refine wp_seq ?_
                refine wp_region_lit ?_
                refine ovs [243, 244] [.bool false, .bool true] hr ⟨rfl, rfl⟩ (by kernel_rfl) ?_; clear hr a; intro a hr
                refine wpList_nil ?_
                refine then_normal ?_
                refine cond_tt hr (b := true) rfl ?_
                refine wp_seq ?_
                refine wp_region_lit ?_
                refine ov hr (.bool false) (by kernel_rfl) ?_; clear hr a; intro a hr
                refine wpList_nil ?_
                refine then_normal ?_
                refine wp_ret ?_
                refine blk_ret ?_
                refine then_ret ?_
                refine then_ret ?_
                refine blk_ret ?_
                refine then_ret ?_
                refine end_ret1 (v := .bool false) rfl hr (by kernel_rfl) ?_
                replace H := jx1 H hK31
                replace h : Fit z (sepL (L)) _ := h.sel 9 [] (by kernel_rfl) (by kernel_rfl)
                replace H := ej1 H; subst H
                exact ⟨rfl, h⟩
            ·
              replace H := ifF c56 H
              refine op_off ((wg hr rfl rfl rfl (b' := ((at_ r7.Log g34.toNat).OK)) (by kernel_rfl)).trans (by rw [show ((at_ r7.Log g34.toNat).OK) = false from (bF c56)]; rfl)) rfl rfl hr ?_; clear hr a; intro a hr
              refine op_off ((wg hr rfl rfl rfl (b' := ((at_ r7.Log g34.toNat).OK)) (by kernel_rfl)).trans (by rw [show ((at_ r7.Log g34.toNat).OK) = false from (bF c56)]; rfl)) rfl rfl hr ?_; clear hr a; intro a hr
              refine op_off ((wg hr rfl rfl rfl (b' := ((at_ r7.Log g34.toNat).OK)) (by kernel_rfl)).trans (by rw [show ((at_ r7.Log g34.toNat).OK) = false from (bF c56)]; rfl)) rfl rfl hr ?_; clear hr a; intro a hr
              refine op_off ((wg hr rfl rfl rfl (b' := ((at_ r7.Log g34.toNat).OK)) (by kernel_rfl)).trans (by rw [show ((at_ r7.Log g34.toNat).OK) = false from (bF c56)]; rfl)) rfl rfl hr ?_; clear hr a; intro a hr
              refine op_off ((wg hr rfl rfl rfl (b' := ((at_ r7.Log g34.toNat).OK)) (by kernel_rfl)).trans (by rw [show ((at_ r7.Log g34.toNat).OK) = false from (bF c56)]; rfl)) rfl rfl hr ?_; clear hr a; intro a hr
              refine op_val (wn rfl) rfl rfl hr (v := .bool false) (rp_f (b := ((at_ r7.Log g34.toNat).OK)) rfl (by kernel_rfl) (bF c56) (by kernel_rfl)) ?_; clear hr a; intro a hr
              refine ov hr (.bool false) (by kernel_rfl) ?_; clear hr a; intro a hr
              refine op_off ((wg hr rfl rfl rfl (b' := false) (by kernel_rfl)).trans rfl) rfl rfl hr ?_; clear hr a; intro a hr
              refine op_off ((wg hr rfl rfl rfl (b' := false) (by kernel_rfl)).trans rfl) rfl rfl hr ?_; clear hr a; intro a hr
              refine op_off ((wg hr rfl rfl rfl (b' := false) (by kernel_rfl)).trans rfl) rfl rfl hr ?_; clear hr a; intro a hr
              refine ovs [197, 198] [.bool false, .bool false] hr ⟨rfl, rfl⟩ (by kernel_rfl) ?_; clear hr a; intro a hr
              refine op_off ((wg hr rfl rfl rfl (b' := false) (by kernel_rfl)).trans rfl) rfl rfl hr ?_; clear hr a; intro a hr
              refine op_off ((wg hr rfl rfl rfl (b' := false) (by kernel_rfl)).trans rfl) rfl rfl hr ?_; clear hr a; intro a hr
              refine op_off ((wg hr rfl rfl rfl (b' := false) (by kernel_rfl)).trans rfl) rfl rfl hr ?_; clear hr a; intro a hr
              refine ovs [202, 15] [.bool false, .bool false] hr ⟨rfl, rfl⟩ (by kernel_rfl) ?_; clear hr a; intro a hr
              refine wpList_nil ?_
              refine then_normal ?_
              refine wp_region_lit ?_
              refine ov hr (.pointer (some ⟨b37, 2, none⟩)) (by kernel_rfl) ?_; clear hr a; intro a hr
              refine op_val (wn rfl) rfl rfl hr (v := .int .i64 ((at_ r3 g34.toNat).Addr)) (rl rfl (by kernel_rfl) (by kernel_rfl) ((h.pick 6).cell 2 rfl)) ?_; clear hr a; intro a hr
              refine ov hr (.pointer (some ⟨b37, 3, none⟩)) (by kernel_rfl) ?_; clear hr a; intro a hr
              refine op_val (wn rfl) rfl rfl hr (v := .int .i64 ((at_ r3 g34.toNat).A)) (rl rfl (by kernel_rfl) (by kernel_rfl) ((h.pick 6).cell 3 rfl)) ?_; clear hr a; intro a hr
              refine op_val (wn rfl) rfl rfl hr (v := .pointer (some ⟨blk (some ⟨b21, 0, none⟩), (((at_ r3 g34.toNat).Addr).toNat) * 1, none⟩)) (ri_arr (k := .i64) (E := 2) rfl (by kernel_rfl) (by kernel_rfl) (by kernel_rfl) (by kernel_rfl) (h.pick 5).row_n.symm c42) ?_; clear hr a; intro a hr
              replace h : Fit z (sepL (rowOf 88 1 encZ_i64 (.slice (some ⟨b21, 0, none⟩) 64 64) l33 :: ro57 car5 ccr6 r3 :: ob70 b14 r7 car10 ccr11 car12 r7.Cells.length car13 r7.Log.length :: ro39 car10 ccr11 r7.Effects :: ro2 car12 r7.Cells.length r7.Cells :: ro90 car13 r7.Log.length r7.Log :: ob57 b37 (at_ r3 g34.toNat) :: ob90 b39 (at_ r7.Log g34.toNat) :: ob39 b41 (at_ r7.Effects g34.toNat) :: L)) _ := h.sel 9 [5, 0, 1, 2, 3, 4, 6, 7, 8] (by kernel_rfl) (by kernel_rfl)
              refine op_store_row (wn rfl) rfl hr rfl (by kernel_rfl) (by kernel_rfl) (v := .int .i64 ((at_ r3 g34.toNat).A)) rfl rfl (by kernel_rfl) encZ_i64_ok h (i := (((at_ r3 g34.toNat).Addr).toNat)) (f := 0) (p := (at_ l33 (((at_ r3 g34.toNat).Addr).toNat))) (q := ((at_ r3 g34.toNat).A)) (at_ok c42) (by decide) rfl ?_; clear h; intro w h
              replace h : Fit z (sepL (rowOf 88 1 encZ_i64 (.slice (some ⟨b21, 0, none⟩) 64 64) (l33.set (((at_ r3 g34.toNat).Addr).toNat) ((at_ r3 g34.toNat).A)) :: ro57 car5 ccr6 r3 :: ob70 b14 r7 car10 ccr11 car12 r7.Cells.length car13 r7.Log.length :: ro39 car10 ccr11 r7.Effects :: ro2 car12 r7.Cells.length r7.Cells :: ro90 car13 r7.Log.length r7.Log :: ob57 b37 (at_ r3 g34.toNat) :: ob90 b39 (at_ r7.Log g34.toNat) :: ob39 b41 (at_ r7.Effects g34.toNat) :: L)) _ := h
              refine wpList_nil ?_
              refine blk_normal ?_
              refine then_normal ?_
              refine wp_seq ?_
              refine wp_region_lit ?_
              refine ovs [243, 244] [.bool false, .bool true] hr ⟨rfl, rfl⟩ (by kernel_rfl) ?_; clear hr a; intro a hr
              refine wpList_nil ?_
              refine then_normal ?_
              refine cond_tt hr (b := true) rfl ?_
              refine wp_seq ?_
              refine wp_region_lit ?_
              refine ov hr (.bool false) (by kernel_rfl) ?_; clear hr a; intro a hr
              refine wpList_nil ?_
              refine then_normal ?_
              refine wp_ret ?_
              refine blk_ret ?_
              refine then_ret ?_
              refine then_ret ?_
              refine blk_ret ?_
              refine then_ret ?_
              refine end_ret1 (v := .bool false) rfl hr (by kernel_rfl) ?_
              replace H := jx1 H hK31
              replace h : Fit z (sepL (L)) _ := h.sel 9 [] (by kernel_rfl) (by kernel_rfl)
              replace H := ej1 H; subst H
              exact ⟨rfl, h⟩
          ·
            replace H := ifF c55 H
            refine cond_ff hr (b := (((at_ r3 g34.toNat).Kind) == (1 : Int))) (beq_eq_false_iff_ne.mpr c55) ?_
            refine wp_seq ?_
            refine wp_region_lit ?_
            refine ovs [209, 208] [.bool (((at_ r3 g34.toNat).Kind) == (2 : Int)), .bool (((at_ r3 g34.toNat).Kind) == (2 : Int))] hr ⟨rfl, rfl⟩ (by kernel_rfl) ?_; clear hr a; intro a hr
            refine wpList_nil ?_
            refine then_normal ?_
            by_cases c60 : ((at_ r3 g34.toNat).Kind) = (2 : Int)
            ·
              replace H := ifT c60 H
              refine cond_tt hr (b := (((at_ r3 g34.toNat).Kind) == (2 : Int))) (beq_iff_eq.mpr c60) ?_
              refine wp_seq ?_
              refine wp_region_lit ?_
              refine ov hr (.pointer (some ⟨b39, 5, none⟩)) (by kernel_rfl) ?_; clear hr a; intro a hr
              refine op_val (wn rfl) rfl rfl hr (v := .bool ((at_ r7.Log g34.toNat).OK)) (rl rfl (by kernel_rfl) (by kernel_rfl) ((h.pick 7).cell 5 rfl)) ?_; clear hr a; intro a hr
              refine ovs [212, 213] [.int .i64 (at_ l33 (((at_ r3 g34.toNat).Addr).toNat)), .pointer (some ⟨b37, 3, none⟩)] hr ⟨rfl, rfl⟩ (by kernel_rfl) ?_; clear hr a; intro a hr
              refine op_val (wn rfl) rfl rfl hr (v := .int .i64 ((at_ r3 g34.toNat).A)) (rl rfl (by kernel_rfl) (by kernel_rfl) ((h.pick 6).cell 3 rfl)) ?_; clear hr a; intro a hr
              refine ovs [215, 216, 217] [.bool ((at_ l33 (((at_ r3 g34.toNat).Addr).toNat)) == ((at_ r3 g34.toNat).A)), .bool (((at_ r7.Log g34.toNat).OK) == ((at_ l33 (((at_ r3 g34.toNat).Addr).toNat)) == ((at_ r3 g34.toNat).A))), .bool (((at_ r7.Log g34.toNat).OK) == ((at_ l33 (((at_ r3 g34.toNat).Addr).toNat)) == ((at_ r3 g34.toNat).A)))] hr ⟨rfl, rfl⟩ (by kernel_rfl) ?_; clear hr a; intro a hr
              by_cases c61 : ((at_ r7.Log g34.toNat).OK) = ((at_ l33 (((at_ r3 g34.toNat).Addr).toNat)) == ((at_ r3 g34.toNat).A))
              ·
                replace H := ifT c61 H
                refine op_val ((wg hr rfl rfl rfl (b' := (((at_ r7.Log g34.toNat).OK) == ((at_ l33 (((at_ r3 g34.toNat).Addr).toNat)) == ((at_ r3 g34.toNat).A)))) (by kernel_rfl)).trans (by rw [show (((at_ r7.Log g34.toNat).OK) == ((at_ l33 (((at_ r3 g34.toNat).Addr).toNat)) == ((at_ r3 g34.toNat).A))) = true from (beq_iff_eq.mpr c61)]; rfl)) rfl rfl hr (v := .pointer (some ⟨b39, 3, none⟩)) (by kernel_rfl) ?_; clear hr a; intro a hr
                refine op_val ((wg hr rfl rfl rfl (b' := (((at_ r7.Log g34.toNat).OK) == ((at_ l33 (((at_ r3 g34.toNat).Addr).toNat)) == ((at_ r3 g34.toNat).A)))) (by kernel_rfl)).trans (by rw [show (((at_ r7.Log g34.toNat).OK) == ((at_ l33 (((at_ r3 g34.toNat).Addr).toNat)) == ((at_ r3 g34.toNat).A))) = true from (beq_iff_eq.mpr c61)]; rfl)) rfl rfl hr (v := .int .i64 ((at_ r7.Log g34.toNat).A)) (rl rfl (by kernel_rfl) (by kernel_rfl) ((h.pick 7).cell 3 rfl)) ?_; clear hr a; intro a hr
                refine op_val ((wg hr rfl rfl rfl (b' := (((at_ r7.Log g34.toNat).OK) == ((at_ l33 (((at_ r3 g34.toNat).Addr).toNat)) == ((at_ r3 g34.toNat).A)))) (by kernel_rfl)).trans (by rw [show (((at_ r7.Log g34.toNat).OK) == ((at_ l33 (((at_ r3 g34.toNat).Addr).toNat)) == ((at_ r3 g34.toNat).A))) = true from (beq_iff_eq.mpr c61)]; rfl)) rfl rfl hr (v := .pointer (some ⟨b37, 3, none⟩)) (by kernel_rfl) ?_; clear hr a; intro a hr
                refine op_val ((wg hr rfl rfl rfl (b' := (((at_ r7.Log g34.toNat).OK) == ((at_ l33 (((at_ r3 g34.toNat).Addr).toNat)) == ((at_ r3 g34.toNat).A)))) (by kernel_rfl)).trans (by rw [show (((at_ r7.Log g34.toNat).OK) == ((at_ l33 (((at_ r3 g34.toNat).Addr).toNat)) == ((at_ r3 g34.toNat).A))) = true from (beq_iff_eq.mpr c61)]; rfl)) rfl rfl hr (v := .int .i64 ((at_ r3 g34.toNat).A)) (rl rfl (by kernel_rfl) (by kernel_rfl) ((h.pick 6).cell 3 rfl)) ?_; clear hr a; intro a hr
                refine op_val ((wg hr rfl rfl rfl (b' := (((at_ r7.Log g34.toNat).OK) == ((at_ l33 (((at_ r3 g34.toNat).Addr).toNat)) == ((at_ r3 g34.toNat).A)))) (by kernel_rfl)).trans (by rw [show (((at_ r7.Log g34.toNat).OK) == ((at_ l33 (((at_ r3 g34.toNat).Addr).toNat)) == ((at_ r3 g34.toNat).A))) = true from (beq_iff_eq.mpr c61)]; rfl)) rfl rfl hr (v := .bool (((at_ r7.Log g34.toNat).A) == ((at_ r3 g34.toNat).A))) (by kernel_rfl) ?_; clear hr a; intro a hr
                refine op_val (wn rfl) rfl rfl hr (v := .bool (((at_ r7.Log g34.toNat).A) == ((at_ r3 g34.toNat).A))) (rp_t (b := (((at_ r7.Log g34.toNat).OK) == ((at_ l33 (((at_ r3 g34.toNat).Addr).toNat)) == ((at_ r3 g34.toNat).A)))) rfl (by kernel_rfl) (beq_iff_eq.mpr c61) (by kernel_rfl)) ?_; clear hr a; intro a hr
                refine ov hr (.bool (((at_ r7.Log g34.toNat).A) == ((at_ r3 g34.toNat).A))) (by kernel_rfl) ?_; clear hr a; intro a hr
                by_cases c62 : ((at_ r7.Log g34.toNat).A) = ((at_ r3 g34.toNat).A)
                ·
                  replace H := ifT c62 H
                  refine op_val ((wg hr rfl rfl rfl (b' := (((at_ r7.Log g34.toNat).A) == ((at_ r3 g34.toNat).A))) (by kernel_rfl)).trans (by rw [show (((at_ r7.Log g34.toNat).A) == ((at_ r3 g34.toNat).A)) = true from (beq_iff_eq.mpr c62)]; rfl)) rfl rfl hr (v := .pointer (some ⟨b39, 4, none⟩)) (by kernel_rfl) ?_; clear hr a; intro a hr
                  refine op_val ((wg hr rfl rfl rfl (b' := (((at_ r7.Log g34.toNat).A) == ((at_ r3 g34.toNat).A))) (by kernel_rfl)).trans (by rw [show (((at_ r7.Log g34.toNat).A) == ((at_ r3 g34.toNat).A)) = true from (beq_iff_eq.mpr c62)]; rfl)) rfl rfl hr (v := .int .i64 ((at_ r7.Log g34.toNat).B)) (rl rfl (by kernel_rfl) (by kernel_rfl) ((h.pick 7).cell 4 rfl)) ?_; clear hr a; intro a hr
                  refine op_val ((wg hr rfl rfl rfl (b' := (((at_ r7.Log g34.toNat).A) == ((at_ r3 g34.toNat).A))) (by kernel_rfl)).trans (by rw [show (((at_ r7.Log g34.toNat).A) == ((at_ r3 g34.toNat).A)) = true from (beq_iff_eq.mpr c62)]; rfl)) rfl rfl hr (v := .pointer (some ⟨b37, 4, none⟩)) (by kernel_rfl) ?_; clear hr a; intro a hr
                  refine op_val ((wg hr rfl rfl rfl (b' := (((at_ r7.Log g34.toNat).A) == ((at_ r3 g34.toNat).A))) (by kernel_rfl)).trans (by rw [show (((at_ r7.Log g34.toNat).A) == ((at_ r3 g34.toNat).A)) = true from (beq_iff_eq.mpr c62)]; rfl)) rfl rfl hr (v := .int .i64 ((at_ r3 g34.toNat).B)) (rl rfl (by kernel_rfl) (by kernel_rfl) ((h.pick 6).cell 4 rfl)) ?_; clear hr a; intro a hr
                  refine op_val ((wg hr rfl rfl rfl (b' := (((at_ r7.Log g34.toNat).A) == ((at_ r3 g34.toNat).A))) (by kernel_rfl)).trans (by rw [show (((at_ r7.Log g34.toNat).A) == ((at_ r3 g34.toNat).A)) = true from (beq_iff_eq.mpr c62)]; rfl)) rfl rfl hr (v := .bool (((at_ r7.Log g34.toNat).B) == ((at_ r3 g34.toNat).B))) (by kernel_rfl) ?_; clear hr a; intro a hr
                  refine op_val (wn rfl) rfl rfl hr (v := .bool (((at_ r7.Log g34.toNat).B) == ((at_ r3 g34.toNat).B))) (rp_t (b := (((at_ r7.Log g34.toNat).A) == ((at_ r3 g34.toNat).A))) rfl (by kernel_rfl) (beq_iff_eq.mpr c62) (by kernel_rfl)) ?_; clear hr a; intro a hr
                  refine ov hr (.bool (((at_ r7.Log g34.toNat).B) == ((at_ r3 g34.toNat).B))) (by kernel_rfl) ?_; clear hr a; intro a hr
                  by_cases c63 : ((at_ r7.Log g34.toNat).B) = ((at_ r3 g34.toNat).B)
                  ·
                    replace H := ifT c63 H
                    refine op_val ((wg hr rfl rfl rfl (b' := (((at_ r7.Log g34.toNat).B) == ((at_ r3 g34.toNat).B))) (by kernel_rfl)).trans (by rw [show (((at_ r7.Log g34.toNat).B) == ((at_ r3 g34.toNat).B)) = true from (beq_iff_eq.mpr c63)]; rfl)) rfl rfl hr (v := .pointer (some ⟨b41, 0, none⟩)) (by kernel_rfl) ?_; clear hr a; intro a hr
                    refine op_val ((wg hr rfl rfl rfl (b' := (((at_ r7.Log g34.toNat).B) == ((at_ r3 g34.toNat).B))) (by kernel_rfl)).trans (by rw [show (((at_ r7.Log g34.toNat).B) == ((at_ r3 g34.toNat).B)) = true from (beq_iff_eq.mpr c63)]; rfl)) rfl rfl hr (v := .int .i64 ((at_ r7.Effects g34.toNat).V)) (rl rfl (by kernel_rfl) (by kernel_rfl) ((h.pick 8).cell 0 rfl)) ?_; clear hr a; intro a hr
                    refine op_val ((wg hr rfl rfl rfl (b' := (((at_ r7.Log g34.toNat).B) == ((at_ r3 g34.toNat).B))) (by kernel_rfl)).trans (by rw [show (((at_ r7.Log g34.toNat).B) == ((at_ r3 g34.toNat).B)) = true from (beq_iff_eq.mpr c63)]; rfl)) rfl rfl hr (v := .bool (((at_ r7.Effects g34.toNat).V) == (0 : Int))) (by kernel_rfl) ?_; clear hr a; intro a hr
                    refine op_val (wn rfl) rfl rfl hr (v := .bool (((at_ r7.Effects g34.toNat).V) == (0 : Int))) (rp_t (b := (((at_ r7.Log g34.toNat).B) == ((at_ r3 g34.toNat).B))) rfl (by kernel_rfl) (beq_iff_eq.mpr c63) (by kernel_rfl)) ?_; clear hr a; intro a hr
                    refine ov hr (.bool (((at_ r7.Effects g34.toNat).V) == (0 : Int))) (by kernel_rfl) ?_; clear hr a; intro a hr
                    refine wpList_nil ?_
                    refine then_normal ?_
                    refine wp_seq ?_
                    refine wp_region_lit ?_
                    refine ov hr (.pointer (some ⟨b39, 5, none⟩)) (by kernel_rfl) ?_; clear hr a; intro a hr
                    refine op_val (wn rfl) rfl rfl hr (v := .bool ((at_ r7.Log g34.toNat).OK)) (rl rfl (by kernel_rfl) (by kernel_rfl) ((h.pick 7).cell 5 rfl)) ?_; clear hr a; intro a hr
                    refine wpList_nil ?_
                    refine then_normal ?_
                    by_cases c64 : ((at_ r7.Log g34.toNat).OK) = true
                    ·
                      replace H := ifT c64 H
                      refine cond_tt hr (b := ((at_ r7.Log g34.toNat).OK)) (c64) ?_
                      refine wp_region_lit ?_
                      refine ov hr (.pointer (some ⟨b37, 2, none⟩)) (by kernel_rfl) ?_; clear hr a; intro a hr
                      refine op_val (wn rfl) rfl rfl hr (v := .int .i64 ((at_ r3 g34.toNat).Addr)) (rl rfl (by kernel_rfl) (by kernel_rfl) ((h.pick 6).cell 2 rfl)) ?_; clear hr a; intro a hr
                      refine ov hr (.pointer (some ⟨b37, 4, none⟩)) (by kernel_rfl) ?_; clear hr a; intro a hr
                      refine op_val (wn rfl) rfl rfl hr (v := .int .i64 ((at_ r3 g34.toNat).B)) (rl rfl (by kernel_rfl) (by kernel_rfl) ((h.pick 6).cell 4 rfl)) ?_; clear hr a; intro a hr
                      refine op_val (wn rfl) rfl rfl hr (v := .pointer (some ⟨blk (some ⟨b21, 0, none⟩), (((at_ r3 g34.toNat).Addr).toNat) * 1, none⟩)) (ri_arr (k := .i64) (E := 2) rfl (by kernel_rfl) (by kernel_rfl) (by kernel_rfl) (by kernel_rfl) (h.pick 5).row_n.symm c42) ?_; clear hr a; intro a hr
                      replace h : Fit z (sepL (rowOf 88 1 encZ_i64 (.slice (some ⟨b21, 0, none⟩) 64 64) l33 :: ro57 car5 ccr6 r3 :: ob70 b14 r7 car10 ccr11 car12 r7.Cells.length car13 r7.Log.length :: ro39 car10 ccr11 r7.Effects :: ro2 car12 r7.Cells.length r7.Cells :: ro90 car13 r7.Log.length r7.Log :: ob57 b37 (at_ r3 g34.toNat) :: ob90 b39 (at_ r7.Log g34.toNat) :: ob39 b41 (at_ r7.Effects g34.toNat) :: L)) _ := h.sel 9 [5, 0, 1, 2, 3, 4, 6, 7, 8] (by kernel_rfl) (by kernel_rfl)
                      refine op_store_row (wn rfl) rfl hr rfl (by kernel_rfl) (by kernel_rfl) (v := .int .i64 ((at_ r3 g34.toNat).B)) rfl rfl (by kernel_rfl) encZ_i64_ok h (i := (((at_ r3 g34.toNat).Addr).toNat)) (f := 0) (p := (at_ l33 (((at_ r3 g34.toNat).Addr).toNat))) (q := ((at_ r3 g34.toNat).B)) (at_ok c42) (by decide) rfl ?_; clear h; intro w h
                      replace h : Fit z (sepL (rowOf 88 1 encZ_i64 (.slice (some ⟨b21, 0, none⟩) 64 64) (l33.set (((at_ r3 g34.toNat).Addr).toNat) ((at_ r3 g34.toNat).B)) :: ro57 car5 ccr6 r3 :: ob70 b14 r7 car10 ccr11 car12 r7.Cells.length car13 r7.Log.length :: ro39 car10 ccr11 r7.Effects :: ro2 car12 r7.Cells.length r7.Cells :: ro90 car13 r7.Log.length r7.Log :: ob57 b37 (at_ r3 g34.toNat) :: ob90 b39 (at_ r7.Log g34.toNat) :: ob39 b41 (at_ r7.Effects g34.toNat) :: L)) _ := h
                      refine wpList_nil ?_
                      refine blk_normal ?_
                      refine then_normal ?_
                      refine wp_seq ?_
                      refine wp_region_lit ?_
                      refine ovs [243, 244] [.bool (((at_ r7.Effects g34.toNat).V) == (0 : Int)), .bool (!(((at_ r7.Effects g34.toNat).V) == (0 : Int)))] hr ⟨rfl, rfl⟩ (by kernel_rfl) ?_; clear hr a; intro a hr
                      refine wpList_nil ?_
                      refine then_normal ?_
                      by_cases c65 : ((at_ r7.Effects g34.toNat).V) = (0 : Int)
                      ·
                        replace H := ifT c65 H
                        refine cond_ff hr (b := (!(((at_ r7.Effects g34.toNat).V) == (0 : Int)))) (by rw [show (((at_ r7.Effects g34.toNat).V) == (0 : Int)) = true from (beq_iff_eq.mpr c65)]; rfl) ?_
                        refine wp_skip ?_
                        refine blk_normal ?_
                        refine then_normal ?_
                        refine wp_region_lit ?_
                        refine ovs [78, 79, 10] [.int .i64 g34, .int .i64 (wi (g34 + (1 : Int))), .int .i64 (wi (g34 + (1 : Int)))] hr ⟨rfl, rfl⟩ (by kernel_rfl) ?_; clear hr a; intro a hr
                        refine wpList_nil ?_
                        refine then_normal ?_
                        replace hr := hr.fold2 [(0, .int .i64 (wi ((1 : Int) + r1))), (5, .slice car5 r3.length ccr6), (6, .pointer (some ⟨b14, 0, none⟩)), (8, .pointer (some ⟨b21, 0, none⟩)), (10, .int .i64 (wi (g34 + (1 : Int))))] (by kernel_rfl); obtain ⟨j, hr⟩ := hr
                        replace h : Fit z (sepL (ro57 car5 ccr6 r3 :: ob70 b14 r7 car10 ccr11 car12 r7.Cells.length car13 r7.Log.length :: ro39 car10 ccr11 r7.Effects :: ro2 car12 r7.Cells.length r7.Cells :: ro90 car13 r7.Log.length r7.Log :: rowOf 88 1 encZ_i64 (.slice (some ⟨b21, 0, none⟩) 64 64) (l33.set (((at_ r3 g34.toNat).Addr).toNat) ((at_ r3 g34.toNat).B)) :: L)) _ := h.sel 9 [1, 2, 3, 4, 5, 0] (by kernel_rfl) (by kernel_rfl)
                        exact ⟨_, ⟨(l33.set (((at_ r3 g34.toNat).Addr).toNat) ((at_ r3 g34.toNat).B)), (wi (g34 + (1 : Int))), H, j, hr, h⟩, Nat.lt_succ_self _⟩
                      ·
                        replace H := ifF c65 H
                        refine cond_tt hr (b := (!(((at_ r7.Effects g34.toNat).V) == (0 : Int)))) (by rw [show (((at_ r7.Effects g34.toNat).V) == (0 : Int)) = false from (beq_eq_false_iff_ne.mpr c65)]; rfl) ?_
                        refine wp_seq ?_
                        refine wp_region_lit ?_
                        refine ov hr (.bool false) (by kernel_rfl) ?_; clear hr a; intro a hr
                        refine wpList_nil ?_
                        refine then_normal ?_
                        refine wp_ret ?_
                        refine blk_ret ?_
                        refine then_ret ?_
                        refine then_ret ?_
                        refine blk_ret ?_
                        refine then_ret ?_
                        refine end_ret1 (v := .bool false) rfl hr (by kernel_rfl) ?_
                        replace H := jx1 H hK31
                        replace h : Fit z (sepL (L)) _ := h.sel 9 [] (by kernel_rfl) (by kernel_rfl)
                        replace H := ej1 H; subst H
                        exact ⟨rfl, h⟩
                    ·
                      replace H := ifF c64 H
                      refine cond_ff hr (b := ((at_ r7.Log g34.toNat).OK)) (bF c64) ?_
                      refine wp_skip ?_
                      refine blk_normal ?_
                      refine then_normal ?_
                      refine wp_seq ?_
                      refine wp_region_lit ?_
                      refine ovs [243, 244] [.bool (((at_ r7.Effects g34.toNat).V) == (0 : Int)), .bool (!(((at_ r7.Effects g34.toNat).V) == (0 : Int)))] hr ⟨rfl, rfl⟩ (by kernel_rfl) ?_; clear hr a; intro a hr
                      refine wpList_nil ?_
                      refine then_normal ?_
                      by_cases c66 : ((at_ r7.Effects g34.toNat).V) = (0 : Int)
                      ·
                        replace H := ifT c66 H
                        refine cond_ff hr (b := (!(((at_ r7.Effects g34.toNat).V) == (0 : Int)))) (by rw [show (((at_ r7.Effects g34.toNat).V) == (0 : Int)) = true from (beq_iff_eq.mpr c66)]; rfl) ?_
                        refine wp_skip ?_
                        refine blk_normal ?_
                        refine then_normal ?_
                        refine wp_region_lit ?_
                        refine ovs [78, 79, 10] [.int .i64 g34, .int .i64 (wi (g34 + (1 : Int))), .int .i64 (wi (g34 + (1 : Int)))] hr ⟨rfl, rfl⟩ (by kernel_rfl) ?_; clear hr a; intro a hr
                        refine wpList_nil ?_
                        refine then_normal ?_
                        replace hr := hr.fold2 [(0, .int .i64 (wi ((1 : Int) + r1))), (5, .slice car5 r3.length ccr6), (6, .pointer (some ⟨b14, 0, none⟩)), (8, .pointer (some ⟨b21, 0, none⟩)), (10, .int .i64 (wi (g34 + (1 : Int))))] (by kernel_rfl); obtain ⟨j, hr⟩ := hr
                        replace h : Fit z (sepL (ro57 car5 ccr6 r3 :: ob70 b14 r7 car10 ccr11 car12 r7.Cells.length car13 r7.Log.length :: ro39 car10 ccr11 r7.Effects :: ro2 car12 r7.Cells.length r7.Cells :: ro90 car13 r7.Log.length r7.Log :: rowOf 88 1 encZ_i64 (.slice (some ⟨b21, 0, none⟩) 64 64) l33 :: L)) _ := h.sel 9 [0, 1, 2, 3, 4, 5] (by kernel_rfl) (by kernel_rfl)
                        exact ⟨_, ⟨l33, (wi (g34 + (1 : Int))), H, j, hr, h⟩, Nat.lt_succ_self _⟩
                      ·
                        replace H := ifF c66 H
                        refine cond_tt hr (b := (!(((at_ r7.Effects g34.toNat).V) == (0 : Int)))) (by rw [show (((at_ r7.Effects g34.toNat).V) == (0 : Int)) = false from (beq_eq_false_iff_ne.mpr c66)]; rfl) ?_
                        refine wp_seq ?_
                        refine wp_region_lit ?_
                        refine ov hr (.bool false) (by kernel_rfl) ?_; clear hr a; intro a hr
                        refine wpList_nil ?_
                        refine then_normal ?_
                        refine wp_ret ?_
                        refine blk_ret ?_
                        refine then_ret ?_
                        refine then_ret ?_
                        refine blk_ret ?_
                        refine then_ret ?_
                        refine end_ret1 (v := .bool false) rfl hr (by kernel_rfl) ?_
                        replace H := jx1 H hK31
                        replace h : Fit z (sepL (L)) _ := h.sel 9 [] (by kernel_rfl) (by kernel_rfl)
                        replace H := ej1 H; subst H
                        exact ⟨rfl, h⟩
                  ·
                    replace H := ifF c63 H
                    refine op_off ((wg hr rfl rfl rfl (b' := (((at_ r7.Log g34.toNat).B) == ((at_ r3 g34.toNat).B))) (by kernel_rfl)).trans (by rw [show (((at_ r7.Log g34.toNat).B) == ((at_ r3 g34.toNat).B)) = false from (beq_eq_false_iff_ne.mpr c63)]; rfl)) rfl rfl hr ?_; clear hr a; intro a hr
                    refine op_off ((wg hr rfl rfl rfl (b' := (((at_ r7.Log g34.toNat).B) == ((at_ r3 g34.toNat).B))) (by kernel_rfl)).trans (by rw [show (((at_ r7.Log g34.toNat).B) == ((at_ r3 g34.toNat).B)) = false from (beq_eq_false_iff_ne.mpr c63)]; rfl)) rfl rfl hr ?_; clear hr a; intro a hr
                    refine op_off ((wg hr rfl rfl rfl (b' := (((at_ r7.Log g34.toNat).B) == ((at_ r3 g34.toNat).B))) (by kernel_rfl)).trans (by rw [show (((at_ r7.Log g34.toNat).B) == ((at_ r3 g34.toNat).B)) = false from (beq_eq_false_iff_ne.mpr c63)]; rfl)) rfl rfl hr ?_; clear hr a; intro a hr
                    refine op_val (wn rfl) rfl rfl hr (v := .bool false) (rp_f (b := (((at_ r7.Log g34.toNat).B) == ((at_ r3 g34.toNat).B))) rfl (by kernel_rfl) (beq_eq_false_iff_ne.mpr c63) (by kernel_rfl)) ?_; clear hr a; intro a hr
                    refine ov hr (.bool false) (by kernel_rfl) ?_; clear hr a; intro a hr
                    refine wpList_nil ?_
                    refine then_normal ?_
                    refine wp_seq ?_
                    refine wp_region_lit ?_
                    refine ov hr (.pointer (some ⟨b39, 5, none⟩)) (by kernel_rfl) ?_; clear hr a; intro a hr
                    refine op_val (wn rfl) rfl rfl hr (v := .bool ((at_ r7.Log g34.toNat).OK)) (rl rfl (by kernel_rfl) (by kernel_rfl) ((h.pick 7).cell 5 rfl)) ?_; clear hr a; intro a hr
                    refine wpList_nil ?_
                    refine then_normal ?_
                    by_cases c67 : ((at_ r7.Log g34.toNat).OK) = true
                    ·
                      replace H := ifT c67 H
                      refine cond_tt hr (b := ((at_ r7.Log g34.toNat).OK)) (c67) ?_
                      refine wp_region_lit ?_
                      refine ov hr (.pointer (some ⟨b37, 2, none⟩)) (by kernel_rfl) ?_; clear hr a; intro a hr
                      refine op_val (wn rfl) rfl rfl hr (v := .int .i64 ((at_ r3 g34.toNat).Addr)) (rl rfl (by kernel_rfl) (by kernel_rfl) ((h.pick 6).cell 2 rfl)) ?_; clear hr a; intro a hr
                      refine ov hr (.pointer (some ⟨b37, 4, none⟩)) (by kernel_rfl) ?_; clear hr a; intro a hr
                      refine op_val (wn rfl) rfl rfl hr (v := .int .i64 ((at_ r3 g34.toNat).B)) (rl rfl (by kernel_rfl) (by kernel_rfl) ((h.pick 6).cell 4 rfl)) ?_; clear hr a; intro a hr
                      refine op_val (wn rfl) rfl rfl hr (v := .pointer (some ⟨blk (some ⟨b21, 0, none⟩), (((at_ r3 g34.toNat).Addr).toNat) * 1, none⟩)) (ri_arr (k := .i64) (E := 2) rfl (by kernel_rfl) (by kernel_rfl) (by kernel_rfl) (by kernel_rfl) (h.pick 5).row_n.symm c42) ?_; clear hr a; intro a hr
                      replace h : Fit z (sepL (rowOf 88 1 encZ_i64 (.slice (some ⟨b21, 0, none⟩) 64 64) l33 :: ro57 car5 ccr6 r3 :: ob70 b14 r7 car10 ccr11 car12 r7.Cells.length car13 r7.Log.length :: ro39 car10 ccr11 r7.Effects :: ro2 car12 r7.Cells.length r7.Cells :: ro90 car13 r7.Log.length r7.Log :: ob57 b37 (at_ r3 g34.toNat) :: ob90 b39 (at_ r7.Log g34.toNat) :: ob39 b41 (at_ r7.Effects g34.toNat) :: L)) _ := h.sel 9 [5, 0, 1, 2, 3, 4, 6, 7, 8] (by kernel_rfl) (by kernel_rfl)
                      refine op_store_row (wn rfl) rfl hr rfl (by kernel_rfl) (by kernel_rfl) (v := .int .i64 ((at_ r3 g34.toNat).B)) rfl rfl (by kernel_rfl) encZ_i64_ok h (i := (((at_ r3 g34.toNat).Addr).toNat)) (f := 0) (p := (at_ l33 (((at_ r3 g34.toNat).Addr).toNat))) (q := ((at_ r3 g34.toNat).B)) (at_ok c42) (by decide) rfl ?_; clear h; intro w h
                      replace h : Fit z (sepL (rowOf 88 1 encZ_i64 (.slice (some ⟨b21, 0, none⟩) 64 64) (l33.set (((at_ r3 g34.toNat).Addr).toNat) ((at_ r3 g34.toNat).B)) :: ro57 car5 ccr6 r3 :: ob70 b14 r7 car10 ccr11 car12 r7.Cells.length car13 r7.Log.length :: ro39 car10 ccr11 r7.Effects :: ro2 car12 r7.Cells.length r7.Cells :: ro90 car13 r7.Log.length r7.Log :: ob57 b37 (at_ r3 g34.toNat) :: ob90 b39 (at_ r7.Log g34.toNat) :: ob39 b41 (at_ r7.Effects g34.toNat) :: L)) _ := h
                      refine wpList_nil ?_
                      refine blk_normal ?_
                      refine then_normal ?_
                      refine wp_seq ?_
                      refine wp_region_lit ?_
                      refine ovs [243, 244] [.bool false, .bool true] hr ⟨rfl, rfl⟩ (by kernel_rfl) ?_; clear hr a; intro a hr
                      refine wpList_nil ?_
                      refine then_normal ?_
                      refine cond_tt hr (b := true) rfl ?_
                      refine wp_seq ?_
                      refine wp_region_lit ?_
                      refine ov hr (.bool false) (by kernel_rfl) ?_; clear hr a; intro a hr
                      refine wpList_nil ?_
                      refine then_normal ?_
                      refine wp_ret ?_
                      refine blk_ret ?_
                      refine then_ret ?_
                      refine then_ret ?_
                      refine blk_ret ?_
                      refine then_ret ?_
                      refine end_ret1 (v := .bool false) rfl hr (by kernel_rfl) ?_
                      replace H := jx1 H hK31
                      replace h : Fit z (sepL (L)) _ := h.sel 9 [] (by kernel_rfl) (by kernel_rfl)
                      replace H := ej1 H; subst H
                      exact ⟨rfl, h⟩
                    ·
                      replace H := ifF c67 H
                      refine cond_ff hr (b := ((at_ r7.Log g34.toNat).OK)) (bF c67) ?_
                      refine wp_skip ?_
                      refine blk_normal ?_
                      refine then_normal ?_
                      refine wp_seq ?_
                      refine wp_region_lit ?_
                      refine ovs [243, 244] [.bool false, .bool true] hr ⟨rfl, rfl⟩ (by kernel_rfl) ?_; clear hr a; intro a hr
                      refine wpList_nil ?_
                      refine then_normal ?_
                      refine cond_tt hr (b := true) rfl ?_
                      refine wp_seq ?_
                      refine wp_region_lit ?_
                      refine ov hr (.bool false) (by kernel_rfl) ?_; clear hr a; intro a hr
                      refine wpList_nil ?_
                      refine then_normal ?_
                      refine wp_ret ?_
                      refine blk_ret ?_
                      refine then_ret ?_
                      refine then_ret ?_
                      refine blk_ret ?_
                      refine then_ret ?_
                      refine end_ret1 (v := .bool false) rfl hr (by kernel_rfl) ?_
                      replace H := jx1 H hK31
                      replace h : Fit z (sepL (L)) _ := h.sel 9 [] (by kernel_rfl) (by kernel_rfl)
                      replace H := ej1 H; subst H
                      exact ⟨rfl, h⟩
                ·
                  replace H := ifF c62 H
                  refine op_off ((wg hr rfl rfl rfl (b' := (((at_ r7.Log g34.toNat).A) == ((at_ r3 g34.toNat).A))) (by kernel_rfl)).trans (by rw [show (((at_ r7.Log g34.toNat).A) == ((at_ r3 g34.toNat).A)) = false from (beq_eq_false_iff_ne.mpr c62)]; rfl)) rfl rfl hr ?_; clear hr a; intro a hr
                  refine op_off ((wg hr rfl rfl rfl (b' := (((at_ r7.Log g34.toNat).A) == ((at_ r3 g34.toNat).A))) (by kernel_rfl)).trans (by rw [show (((at_ r7.Log g34.toNat).A) == ((at_ r3 g34.toNat).A)) = false from (beq_eq_false_iff_ne.mpr c62)]; rfl)) rfl rfl hr ?_; clear hr a; intro a hr
                  refine op_off ((wg hr rfl rfl rfl (b' := (((at_ r7.Log g34.toNat).A) == ((at_ r3 g34.toNat).A))) (by kernel_rfl)).trans (by rw [show (((at_ r7.Log g34.toNat).A) == ((at_ r3 g34.toNat).A)) = false from (beq_eq_false_iff_ne.mpr c62)]; rfl)) rfl rfl hr ?_; clear hr a; intro a hr
                  refine op_off ((wg hr rfl rfl rfl (b' := (((at_ r7.Log g34.toNat).A) == ((at_ r3 g34.toNat).A))) (by kernel_rfl)).trans (by rw [show (((at_ r7.Log g34.toNat).A) == ((at_ r3 g34.toNat).A)) = false from (beq_eq_false_iff_ne.mpr c62)]; rfl)) rfl rfl hr ?_; clear hr a; intro a hr
                  refine op_off ((wg hr rfl rfl rfl (b' := (((at_ r7.Log g34.toNat).A) == ((at_ r3 g34.toNat).A))) (by kernel_rfl)).trans (by rw [show (((at_ r7.Log g34.toNat).A) == ((at_ r3 g34.toNat).A)) = false from (beq_eq_false_iff_ne.mpr c62)]; rfl)) rfl rfl hr ?_; clear hr a; intro a hr
                  refine op_val (wn rfl) rfl rfl hr (v := .bool false) (rp_f (b := (((at_ r7.Log g34.toNat).A) == ((at_ r3 g34.toNat).A))) rfl (by kernel_rfl) (beq_eq_false_iff_ne.mpr c62) (by kernel_rfl)) ?_; clear hr a; intro a hr
                  refine ov hr (.bool false) (by kernel_rfl) ?_; clear hr a; intro a hr
                  refine op_off ((wg hr rfl rfl rfl (b' := false) (by kernel_rfl)).trans rfl) rfl rfl hr ?_; clear hr a; intro a hr
                  refine op_off ((wg hr rfl rfl rfl (b' := false) (by kernel_rfl)).trans rfl) rfl rfl hr ?_; clear hr a; intro a hr
                  refine op_off ((wg hr rfl rfl rfl (b' := false) (by kernel_rfl)).trans rfl) rfl rfl hr ?_; clear hr a; intro a hr
                  refine ovs [235, 15] [.bool false, .bool false] hr ⟨rfl, rfl⟩ (by kernel_rfl) ?_; clear hr a; intro a hr
                  refine wpList_nil ?_
                  refine then_normal ?_
                  refine wp_seq ?_
                  refine wp_region_lit ?_
                  refine ov hr (.pointer (some ⟨b39, 5, none⟩)) (by kernel_rfl) ?_; clear hr a; intro a hr
                  refine op_val (wn rfl) rfl rfl hr (v := .bool ((at_ r7.Log g34.toNat).OK)) (rl rfl (by kernel_rfl) (by kernel_rfl) ((h.pick 7).cell 5 rfl)) ?_; clear hr a; intro a hr
                  refine wpList_nil ?_
                  refine then_normal ?_
                  by_cases c68 : ((at_ r7.Log g34.toNat).OK) = true
                  ·
                    replace H := ifT c68 H
                    refine cond_tt hr (b := ((at_ r7.Log g34.toNat).OK)) (c68) ?_
                    refine wp_region_lit ?_
                    refine ov hr (.pointer (some ⟨b37, 2, none⟩)) (by kernel_rfl) ?_; clear hr a; intro a hr
                    refine op_val (wn rfl) rfl rfl hr (v := .int .i64 ((at_ r3 g34.toNat).Addr)) (rl rfl (by kernel_rfl) (by kernel_rfl) ((h.pick 6).cell 2 rfl)) ?_; clear hr a; intro a hr
                    refine ov hr (.pointer (some ⟨b37, 4, none⟩)) (by kernel_rfl) ?_; clear hr a; intro a hr
                    refine op_val (wn rfl) rfl rfl hr (v := .int .i64 ((at_ r3 g34.toNat).B)) (rl rfl (by kernel_rfl) (by kernel_rfl) ((h.pick 6).cell 4 rfl)) ?_; clear hr a; intro a hr
                    refine op_val (wn rfl) rfl rfl hr (v := .pointer (some ⟨blk (some ⟨b21, 0, none⟩), (((at_ r3 g34.toNat).Addr).toNat) * 1, none⟩)) (ri_arr (k := .i64) (E := 2) rfl (by kernel_rfl) (by kernel_rfl) (by kernel_rfl) (by kernel_rfl) (h.pick 5).row_n.symm c42) ?_; clear hr a; intro a hr
                    replace h : Fit z (sepL (rowOf 88 1 encZ_i64 (.slice (some ⟨b21, 0, none⟩) 64 64) l33 :: ro57 car5 ccr6 r3 :: ob70 b14 r7 car10 ccr11 car12 r7.Cells.length car13 r7.Log.length :: ro39 car10 ccr11 r7.Effects :: ro2 car12 r7.Cells.length r7.Cells :: ro90 car13 r7.Log.length r7.Log :: ob57 b37 (at_ r3 g34.toNat) :: ob90 b39 (at_ r7.Log g34.toNat) :: ob39 b41 (at_ r7.Effects g34.toNat) :: L)) _ := h.sel 9 [5, 0, 1, 2, 3, 4, 6, 7, 8] (by kernel_rfl) (by kernel_rfl)
                    refine op_store_row (wn rfl) rfl hr rfl (by kernel_rfl) (by kernel_rfl) (v := .int .i64 ((at_ r3 g34.toNat).B)) rfl rfl (by kernel_rfl) encZ_i64_ok h (i := (((at_ r3 g34.toNat).Addr).toNat)) (f := 0) (p := (at_ l33 (((at_ r3 g34.toNat).Addr).toNat))) (q := ((at_ r3 g34.toNat).B)) (at_ok c42) (by decide) rfl ?_; clear h; intro w h
                    replace h : Fit z (sepL (rowOf 88 1 encZ_i64 (.slice (some ⟨b21, 0, none⟩) 64 64) (l33.set (((at_ r3 g34.toNat).Addr).toNat) ((at_ r3 g34.toNat).B)) :: ro57 car5 ccr6 r3 :: ob70 b14 r7 car10 ccr11 car12 r7.Cells.length car13 r7.Log.length :: ro39 car10 ccr11 r7.Effects :: ro2 car12 r7.Cells.length r7.Cells :: ro90 car13 r7.Log.length r7.Log :: ob57 b37 (at_ r3 g34.toNat) :: ob90 b39 (at_ r7.Log g34.toNat) :: ob39 b41 (at_ r7.Effects g34.toNat) :: L)) _ := h
                    refine wpList_nil ?_
                    refine blk_normal ?_
                    refine then_normal ?_
                    refine wp_seq ?_
                    refine wp_region_lit ?_
                    refine ovs [243, 244] [.bool false, .bool true] hr ⟨rfl, rfl⟩ (by kernel_rfl) ?_; clear hr a; intro a hr
                    refine wpList_nil ?_
                    refine then_normal ?_
                    refine cond_tt hr (b := true) rfl ?_
                    refine wp_seq ?_
                    refine wp_region_lit ?_
                    refine ov hr (.bool false) (by kernel_rfl) ?_; clear hr a; intro a hr
                    refine wpList_nil ?_
                    refine then_normal ?_
                    refine wp_ret ?_
                    refine blk_ret ?_
                    refine then_ret ?_
                    refine then_ret ?_
                    refine blk_ret ?_
                    refine then_ret ?_
                    refine end_ret1 (v := .bool false) rfl hr (by kernel_rfl) ?_
                    replace H := jx1 H hK31
                    replace h : Fit z (sepL (L)) _ := h.sel 9 [] (by kernel_rfl) (by kernel_rfl)
                    replace H := ej1 H; subst H
                    exact ⟨rfl, h⟩
                  ·
                    replace H := ifF c68 H
                    refine cond_ff hr (b := ((at_ r7.Log g34.toNat).OK)) (bF c68) ?_
                    refine wp_skip ?_
                    refine blk_normal ?_
                    refine then_normal ?_
                    refine wp_seq ?_
                    refine wp_region_lit ?_
                    refine ovs [243, 244] [.bool false, .bool true] hr ⟨rfl, rfl⟩ (by kernel_rfl) ?_; clear hr a; intro a hr
                    refine wpList_nil ?_
                    refine then_normal ?_
                    refine cond_tt hr (b := true) rfl ?_
                    refine wp_seq ?_
                    refine wp_region_lit ?_
                    refine ov hr (.bool false) (by kernel_rfl) ?_; clear hr a; intro a hr
                    refine wpList_nil ?_
                    refine then_normal ?_
                    refine wp_ret ?_
                    refine blk_ret ?_
                    refine then_ret ?_
                    refine then_ret ?_
                    refine blk_ret ?_
                    refine then_ret ?_
                    refine end_ret1 (v := .bool false) rfl hr (by kernel_rfl) ?_
                    replace H := jx1 H hK31
                    replace h : Fit z (sepL (L)) _ := h.sel 9 [] (by kernel_rfl) (by kernel_rfl)
                    replace H := ej1 H; subst H
                    exact ⟨rfl, h⟩
              ·
                replace H := ifF c61 H
                refine op_off ((wg hr rfl rfl rfl (b' := (((at_ r7.Log g34.toNat).OK) == ((at_ l33 (((at_ r3 g34.toNat).Addr).toNat)) == ((at_ r3 g34.toNat).A)))) (by kernel_rfl)).trans (by rw [show (((at_ r7.Log g34.toNat).OK) == ((at_ l33 (((at_ r3 g34.toNat).Addr).toNat)) == ((at_ r3 g34.toNat).A))) = false from (beq_eq_false_iff_ne.mpr c61)]; rfl)) rfl rfl hr ?_; clear hr a; intro a hr
                refine op_off ((wg hr rfl rfl rfl (b' := (((at_ r7.Log g34.toNat).OK) == ((at_ l33 (((at_ r3 g34.toNat).Addr).toNat)) == ((at_ r3 g34.toNat).A)))) (by kernel_rfl)).trans (by rw [show (((at_ r7.Log g34.toNat).OK) == ((at_ l33 (((at_ r3 g34.toNat).Addr).toNat)) == ((at_ r3 g34.toNat).A))) = false from (beq_eq_false_iff_ne.mpr c61)]; rfl)) rfl rfl hr ?_; clear hr a; intro a hr
                refine op_off ((wg hr rfl rfl rfl (b' := (((at_ r7.Log g34.toNat).OK) == ((at_ l33 (((at_ r3 g34.toNat).Addr).toNat)) == ((at_ r3 g34.toNat).A)))) (by kernel_rfl)).trans (by rw [show (((at_ r7.Log g34.toNat).OK) == ((at_ l33 (((at_ r3 g34.toNat).Addr).toNat)) == ((at_ r3 g34.toNat).A))) = false from (beq_eq_false_iff_ne.mpr c61)]; rfl)) rfl rfl hr ?_; clear hr a; intro a hr
                refine op_off ((wg hr rfl rfl rfl (b' := (((at_ r7.Log g34.toNat).OK) == ((at_ l33 (((at_ r3 g34.toNat).Addr).toNat)) == ((at_ r3 g34.toNat).A)))) (by kernel_rfl)).trans (by rw [show (((at_ r7.Log g34.toNat).OK) == ((at_ l33 (((at_ r3 g34.toNat).Addr).toNat)) == ((at_ r3 g34.toNat).A))) = false from (beq_eq_false_iff_ne.mpr c61)]; rfl)) rfl rfl hr ?_; clear hr a; intro a hr
                refine op_off ((wg hr rfl rfl rfl (b' := (((at_ r7.Log g34.toNat).OK) == ((at_ l33 (((at_ r3 g34.toNat).Addr).toNat)) == ((at_ r3 g34.toNat).A)))) (by kernel_rfl)).trans (by rw [show (((at_ r7.Log g34.toNat).OK) == ((at_ l33 (((at_ r3 g34.toNat).Addr).toNat)) == ((at_ r3 g34.toNat).A))) = false from (beq_eq_false_iff_ne.mpr c61)]; rfl)) rfl rfl hr ?_; clear hr a; intro a hr
                refine op_val (wn rfl) rfl rfl hr (v := .bool false) (rp_f (b := (((at_ r7.Log g34.toNat).OK) == ((at_ l33 (((at_ r3 g34.toNat).Addr).toNat)) == ((at_ r3 g34.toNat).A)))) rfl (by kernel_rfl) (beq_eq_false_iff_ne.mpr c61) (by kernel_rfl)) ?_; clear hr a; intro a hr
                refine ov hr (.bool false) (by kernel_rfl) ?_; clear hr a; intro a hr
                refine op_off ((wg hr rfl rfl rfl (b' := false) (by kernel_rfl)).trans rfl) rfl rfl hr ?_; clear hr a; intro a hr
                refine op_off ((wg hr rfl rfl rfl (b' := false) (by kernel_rfl)).trans rfl) rfl rfl hr ?_; clear hr a; intro a hr
                refine op_off ((wg hr rfl rfl rfl (b' := false) (by kernel_rfl)).trans rfl) rfl rfl hr ?_; clear hr a; intro a hr
                refine op_off ((wg hr rfl rfl rfl (b' := false) (by kernel_rfl)).trans rfl) rfl rfl hr ?_; clear hr a; intro a hr
                refine op_off ((wg hr rfl rfl rfl (b' := false) (by kernel_rfl)).trans rfl) rfl rfl hr ?_; clear hr a; intro a hr
                refine ovs [230, 231] [.bool false, .bool false] hr ⟨rfl, rfl⟩ (by kernel_rfl) ?_; clear hr a; intro a hr
                refine op_off ((wg hr rfl rfl rfl (b' := false) (by kernel_rfl)).trans rfl) rfl rfl hr ?_; clear hr a; intro a hr
                refine op_off ((wg hr rfl rfl rfl (b' := false) (by kernel_rfl)).trans rfl) rfl rfl hr ?_; clear hr a; intro a hr
                refine op_off ((wg hr rfl rfl rfl (b' := false) (by kernel_rfl)).trans rfl) rfl rfl hr ?_; clear hr a; intro a hr
                refine ovs [235, 15] [.bool false, .bool false] hr ⟨rfl, rfl⟩ (by kernel_rfl) ?_; clear hr a; intro a hr
                refine wpList_nil ?_
                refine then_normal ?_
                refine wp_seq ?_
                refine wp_region_lit ?_
                refine ov hr (.pointer (some ⟨b39, 5, none⟩)) (by kernel_rfl) ?_; clear hr a; intro a hr
                refine op_val (wn rfl) rfl rfl hr (v := .bool ((at_ r7.Log g34.toNat).OK)) (rl rfl (by kernel_rfl) (by kernel_rfl) ((h.pick 7).cell 5 rfl)) ?_; clear hr a; intro a hr
                refine wpList_nil ?_
                refine then_normal ?_
                by_cases c69 : ((at_ r7.Log g34.toNat).OK) = true
                ·
                  replace H := ifT c69 H
                  refine cond_tt hr (b := ((at_ r7.Log g34.toNat).OK)) (c69) ?_
                  refine wp_region_lit ?_
                  refine ov hr (.pointer (some ⟨b37, 2, none⟩)) (by kernel_rfl) ?_; clear hr a; intro a hr
                  refine op_val (wn rfl) rfl rfl hr (v := .int .i64 ((at_ r3 g34.toNat).Addr)) (rl rfl (by kernel_rfl) (by kernel_rfl) ((h.pick 6).cell 2 rfl)) ?_; clear hr a; intro a hr
                  refine ov hr (.pointer (some ⟨b37, 4, none⟩)) (by kernel_rfl) ?_; clear hr a; intro a hr
                  refine op_val (wn rfl) rfl rfl hr (v := .int .i64 ((at_ r3 g34.toNat).B)) (rl rfl (by kernel_rfl) (by kernel_rfl) ((h.pick 6).cell 4 rfl)) ?_; clear hr a; intro a hr
                  refine op_val (wn rfl) rfl rfl hr (v := .pointer (some ⟨blk (some ⟨b21, 0, none⟩), (((at_ r3 g34.toNat).Addr).toNat) * 1, none⟩)) (ri_arr (k := .i64) (E := 2) rfl (by kernel_rfl) (by kernel_rfl) (by kernel_rfl) (by kernel_rfl) (h.pick 5).row_n.symm c42) ?_; clear hr a; intro a hr
                  replace h : Fit z (sepL (rowOf 88 1 encZ_i64 (.slice (some ⟨b21, 0, none⟩) 64 64) l33 :: ro57 car5 ccr6 r3 :: ob70 b14 r7 car10 ccr11 car12 r7.Cells.length car13 r7.Log.length :: ro39 car10 ccr11 r7.Effects :: ro2 car12 r7.Cells.length r7.Cells :: ro90 car13 r7.Log.length r7.Log :: ob57 b37 (at_ r3 g34.toNat) :: ob90 b39 (at_ r7.Log g34.toNat) :: ob39 b41 (at_ r7.Effects g34.toNat) :: L)) _ := h.sel 9 [5, 0, 1, 2, 3, 4, 6, 7, 8] (by kernel_rfl) (by kernel_rfl)
                  refine op_store_row (wn rfl) rfl hr rfl (by kernel_rfl) (by kernel_rfl) (v := .int .i64 ((at_ r3 g34.toNat).B)) rfl rfl (by kernel_rfl) encZ_i64_ok h (i := (((at_ r3 g34.toNat).Addr).toNat)) (f := 0) (p := (at_ l33 (((at_ r3 g34.toNat).Addr).toNat))) (q := ((at_ r3 g34.toNat).B)) (at_ok c42) (by decide) rfl ?_; clear h; intro w h
                  replace h : Fit z (sepL (rowOf 88 1 encZ_i64 (.slice (some ⟨b21, 0, none⟩) 64 64) (l33.set (((at_ r3 g34.toNat).Addr).toNat) ((at_ r3 g34.toNat).B)) :: ro57 car5 ccr6 r3 :: ob70 b14 r7 car10 ccr11 car12 r7.Cells.length car13 r7.Log.length :: ro39 car10 ccr11 r7.Effects :: ro2 car12 r7.Cells.length r7.Cells :: ro90 car13 r7.Log.length r7.Log :: ob57 b37 (at_ r3 g34.toNat) :: ob90 b39 (at_ r7.Log g34.toNat) :: ob39 b41 (at_ r7.Effects g34.toNat) :: L)) _ := h
                  refine wpList_nil ?_
                  refine blk_normal ?_
                  refine then_normal ?_
                  refine wp_seq ?_
                  refine wp_region_lit ?_
                  refine ovs [243, 244] [.bool false, .bool true] hr ⟨rfl, rfl⟩ (by kernel_rfl) ?_; clear hr a; intro a hr
                  refine wpList_nil ?_
                  refine then_normal ?_
                  refine cond_tt hr (b := true) rfl ?_
                  refine wp_seq ?_
                  refine wp_region_lit ?_
                  refine ov hr (.bool false) (by kernel_rfl) ?_; clear hr a; intro a hr
                  refine wpList_nil ?_
                  refine then_normal ?_
                  refine wp_ret ?_
                  refine blk_ret ?_
                  refine then_ret ?_
                  refine then_ret ?_
                  refine blk_ret ?_
                  refine then_ret ?_
                  refine end_ret1 (v := .bool false) rfl hr (by kernel_rfl) ?_
                  replace H := jx1 H hK31
                  replace h : Fit z (sepL (L)) _ := h.sel 9 [] (by kernel_rfl) (by kernel_rfl)
                  replace H := ej1 H; subst H
                  exact ⟨rfl, h⟩
                ·
                  replace H := ifF c69 H
                  refine cond_ff hr (b := ((at_ r7.Log g34.toNat).OK)) (bF c69) ?_
                  refine wp_skip ?_
                  refine blk_normal ?_
                  refine then_normal ?_
                  refine wp_seq ?_
                  refine wp_region_lit ?_
                  refine ovs [243, 244] [.bool false, .bool true] hr ⟨rfl, rfl⟩ (by kernel_rfl) ?_; clear hr a; intro a hr
                  refine wpList_nil ?_
                  refine then_normal ?_
                  refine cond_tt hr (b := true) rfl ?_
                  refine wp_seq ?_
                  refine wp_region_lit ?_
                  refine ov hr (.bool false) (by kernel_rfl) ?_; clear hr a; intro a hr
                  refine wpList_nil ?_
                  refine then_normal ?_
                  refine wp_ret ?_
                  refine blk_ret ?_
                  refine then_ret ?_
                  refine then_ret ?_
                  refine blk_ret ?_
                  refine then_ret ?_
                  refine end_ret1 (v := .bool false) rfl hr (by kernel_rfl) ?_
                  replace H := jx1 H hK31
                  replace h : Fit z (sepL (L)) _ := h.sel 9 [] (by kernel_rfl) (by kernel_rfl)
                  replace H := ej1 H; subst H
                  exact ⟨rfl, h⟩
            ·
              replace H := ifF c60 H
              refine cond_ff hr (b := (((at_ r3 g34.toNat).Kind) == (2 : Int))) (beq_eq_false_iff_ne.mpr c60) ?_
              refine wp_seq ?_
              refine wp_region_lit ?_
              refine ov hr (.pointer (some ⟨b39, 5, none⟩)) (by kernel_rfl) ?_; clear hr a; intro a hr
              refine op_val (wn rfl) rfl rfl hr (v := .bool ((at_ r7.Log g34.toNat).OK)) (rl rfl (by kernel_rfl) (by kernel_rfl) ((h.pick 7).cell 5 rfl)) ?_; clear hr a; intro a hr
              refine ov hr (.bool ((at_ r7.Log g34.toNat).OK)) (by kernel_rfl) ?_; clear hr a; intro a hr
              by_cases c70 : ((at_ r7.Log g34.toNat).OK) = true
              ·
                replace H := ifT c70 H
                refine op_val ((wg hr rfl rfl rfl (b' := ((at_ r7.Log g34.toNat).OK)) (by kernel_rfl)).trans (by rw [show ((at_ r7.Log g34.toNat).OK) = true from (c70)]; rfl)) rfl rfl hr (v := .pointer (some ⟨b39, 3, none⟩)) (by kernel_rfl) ?_; clear hr a; intro a hr
                refine op_val ((wg hr rfl rfl rfl (b' := ((at_ r7.Log g34.toNat).OK)) (by kernel_rfl)).trans (by rw [show ((at_ r7.Log g34.toNat).OK) = true from (c70)]; rfl)) rfl rfl hr (v := .int .i64 ((at_ r7.Log g34.toNat).A)) (rl rfl (by kernel_rfl) (by kernel_rfl) ((h.pick 7).cell 3 rfl)) ?_; clear hr a; intro a hr
                refine op_val ((wg hr rfl rfl rfl (b' := ((at_ r7.Log g34.toNat).OK)) (by kernel_rfl)).trans (by rw [show ((at_ r7.Log g34.toNat).OK) = true from (c70)]; rfl)) rfl rfl hr (v := .pointer (some ⟨b37, 3, none⟩)) (by kernel_rfl) ?_; clear hr a; intro a hr
                refine op_val ((wg hr rfl rfl rfl (b' := ((at_ r7.Log g34.toNat).OK)) (by kernel_rfl)).trans (by rw [show ((at_ r7.Log g34.toNat).OK) = true from (c70)]; rfl)) rfl rfl hr (v := .int .i64 ((at_ r3 g34.toNat).A)) (rl rfl (by kernel_rfl) (by kernel_rfl) ((h.pick 6).cell 3 rfl)) ?_; clear hr a; intro a hr
                refine op_val ((wg hr rfl rfl rfl (b' := ((at_ r7.Log g34.toNat).OK)) (by kernel_rfl)).trans (by rw [show ((at_ r7.Log g34.toNat).OK) = true from (c70)]; rfl)) rfl rfl hr (v := .bool (((at_ r7.Log g34.toNat).A) == ((at_ r3 g34.toNat).A))) (by kernel_rfl) ?_; clear hr a; intro a hr
                refine op_val (wn rfl) rfl rfl hr (v := .bool (((at_ r7.Log g34.toNat).A) == ((at_ r3 g34.toNat).A))) (rp_t (b := ((at_ r7.Log g34.toNat).OK)) rfl (by kernel_rfl) (c70) (by kernel_rfl)) ?_; clear hr a; intro a hr
                refine ov hr (.bool (((at_ r7.Log g34.toNat).A) == ((at_ r3 g34.toNat).A))) (by kernel_rfl) ?_; clear hr a; intro a hr
                by_cases c71 : ((at_ r7.Log g34.toNat).A) = ((at_ r3 g34.toNat).A)
                ·
                  replace H := ifT c71 H
                  refine op_val ((wg hr rfl rfl rfl (b' := (((at_ r7.Log g34.toNat).A) == ((at_ r3 g34.toNat).A))) (by kernel_rfl)).trans (by rw [show (((at_ r7.Log g34.toNat).A) == ((at_ r3 g34.toNat).A)) = true from (beq_iff_eq.mpr c71)]; rfl)) rfl rfl hr (v := .pointer (some ⟨b39, 4, none⟩)) (by kernel_rfl) ?_; clear hr a; intro a hr
                  refine op_val ((wg hr rfl rfl rfl (b' := (((at_ r7.Log g34.toNat).A) == ((at_ r3 g34.toNat).A))) (by kernel_rfl)).trans (by rw [show (((at_ r7.Log g34.toNat).A) == ((at_ r3 g34.toNat).A)) = true from (beq_iff_eq.mpr c71)]; rfl)) rfl rfl hr (v := .int .i64 ((at_ r7.Log g34.toNat).B)) (rl rfl (by kernel_rfl) (by kernel_rfl) ((h.pick 7).cell 4 rfl)) ?_; clear hr a; intro a hr
                  refine op_val ((wg hr rfl rfl rfl (b' := (((at_ r7.Log g34.toNat).A) == ((at_ r3 g34.toNat).A))) (by kernel_rfl)).trans (by rw [show (((at_ r7.Log g34.toNat).A) == ((at_ r3 g34.toNat).A)) = true from (beq_iff_eq.mpr c71)]; rfl)) rfl rfl hr (v := .int .i64 (at_ l33 (((at_ r3 g34.toNat).Addr).toNat))) (by kernel_rfl) ?_; clear hr a; intro a hr
                  refine op_val ((wg hr rfl rfl rfl (b' := (((at_ r7.Log g34.toNat).A) == ((at_ r3 g34.toNat).A))) (by kernel_rfl)).trans (by rw [show (((at_ r7.Log g34.toNat).A) == ((at_ r3 g34.toNat).A)) = true from (beq_iff_eq.mpr c71)]; rfl)) rfl rfl hr (v := .int .i64 (wi (((at_ r7.Log g34.toNat).B) - (at_ l33 (((at_ r3 g34.toNat).Addr).toNat))))) (by kernel_rfl) ?_; clear hr a; intro a hr
                  refine op_val ((wg hr rfl rfl rfl (b' := (((at_ r7.Log g34.toNat).A) == ((at_ r3 g34.toNat).A))) (by kernel_rfl)).trans (by rw [show (((at_ r7.Log g34.toNat).A) == ((at_ r3 g34.toNat).A)) = true from (beq_iff_eq.mpr c71)]; rfl)) rfl rfl hr (v := .pointer (some ⟨b37, 3, none⟩)) (by kernel_rfl) ?_; clear hr a; intro a hr
                  refine op_val ((wg hr rfl rfl rfl (b' := (((at_ r7.Log g34.toNat).A) == ((at_ r3 g34.toNat).A))) (by kernel_rfl)).trans (by rw [show (((at_ r7.Log g34.toNat).A) == ((at_ r3 g34.toNat).A)) = true from (beq_iff_eq.mpr c71)]; rfl)) rfl rfl hr (v := .int .i64 ((at_ r3 g34.toNat).A)) (rl rfl (by kernel_rfl) (by kernel_rfl) ((h.pick 6).cell 3 rfl)) ?_; clear hr a; intro a hr
                  refine op_val ((wg hr rfl rfl rfl (b' := (((at_ r7.Log g34.toNat).A) == ((at_ r3 g34.toNat).A))) (by kernel_rfl)).trans (by rw [show (((at_ r7.Log g34.toNat).A) == ((at_ r3 g34.toNat).A)) = true from (beq_iff_eq.mpr c71)]; rfl)) rfl rfl hr (v := .bool ((wi (((at_ r7.Log g34.toNat).B) - (at_ l33 (((at_ r3 g34.toNat).Addr).toNat)))) == ((at_ r3 g34.toNat).A))) (by kernel_rfl) ?_; clear hr a; intro a hr
                  refine op_val (wn rfl) rfl rfl hr (v := .bool ((wi (((at_ r7.Log g34.toNat).B) - (at_ l33 (((at_ r3 g34.toNat).Addr).toNat)))) == ((at_ r3 g34.toNat).A))) (rp_t (b := (((at_ r7.Log g34.toNat).A) == ((at_ r3 g34.toNat).A))) rfl (by kernel_rfl) (beq_iff_eq.mpr c71) (by kernel_rfl)) ?_; clear hr a; intro a hr
                  refine ov hr (.bool ((wi (((at_ r7.Log g34.toNat).B) - (at_ l33 (((at_ r3 g34.toNat).Addr).toNat)))) == ((at_ r3 g34.toNat).A))) (by kernel_rfl) ?_; clear hr a; intro a hr
                  by_cases c72 : (wi (((at_ r7.Log g34.toNat).B) - (at_ l33 (((at_ r3 g34.toNat).Addr).toNat)))) = ((at_ r3 g34.toNat).A)
                  ·
                    replace H := ifT c72 H
                    refine op_val ((wg hr rfl rfl rfl (b' := ((wi (((at_ r7.Log g34.toNat).B) - (at_ l33 (((at_ r3 g34.toNat).Addr).toNat)))) == ((at_ r3 g34.toNat).A))) (by kernel_rfl)).trans (by rw [show ((wi (((at_ r7.Log g34.toNat).B) - (at_ l33 (((at_ r3 g34.toNat).Addr).toNat)))) == ((at_ r3 g34.toNat).A)) = true from (beq_iff_eq.mpr c72)]; rfl)) rfl rfl hr (v := .pointer (some ⟨b41, 0, none⟩)) (by kernel_rfl) ?_; clear hr a; intro a hr
                    refine op_val ((wg hr rfl rfl rfl (b' := ((wi (((at_ r7.Log g34.toNat).B) - (at_ l33 (((at_ r3 g34.toNat).Addr).toNat)))) == ((at_ r3 g34.toNat).A))) (by kernel_rfl)).trans (by rw [show ((wi (((at_ r7.Log g34.toNat).B) - (at_ l33 (((at_ r3 g34.toNat).Addr).toNat)))) == ((at_ r3 g34.toNat).A)) = true from (beq_iff_eq.mpr c72)]; rfl)) rfl rfl hr (v := .int .i64 ((at_ r7.Effects g34.toNat).V)) (rl rfl (by kernel_rfl) (by kernel_rfl) ((h.pick 8).cell 0 rfl)) ?_; clear hr a; intro a hr
                    refine op_val ((wg hr rfl rfl rfl (b' := ((wi (((at_ r7.Log g34.toNat).B) - (at_ l33 (((at_ r3 g34.toNat).Addr).toNat)))) == ((at_ r3 g34.toNat).A))) (by kernel_rfl)).trans (by rw [show ((wi (((at_ r7.Log g34.toNat).B) - (at_ l33 (((at_ r3 g34.toNat).Addr).toNat)))) == ((at_ r3 g34.toNat).A)) = true from (beq_iff_eq.mpr c72)]; rfl)) rfl rfl hr (v := .pointer (some ⟨b39, 4, none⟩)) (by kernel_rfl) ?_; clear hr a; intro a hr
                    refine op_val ((wg hr rfl rfl rfl (b' := ((wi (((at_ r7.Log g34.toNat).B) - (at_ l33 (((at_ r3 g34.toNat).Addr).toNat)))) == ((at_ r3 g34.toNat).A))) (by kernel_rfl)).trans (by rw [show ((wi (((at_ r7.Log g34.toNat).B) - (at_ l33 (((at_ r3 g34.toNat).Addr).toNat)))) == ((at_ r3 g34.toNat).A)) = true from (beq_iff_eq.mpr c72)]; rfl)) rfl rfl hr (v := .int .i64 ((at_ r7.Log g34.toNat).B)) (rl rfl (by kernel_rfl) (by kernel_rfl) ((h.pick 7).cell 4 rfl)) ?_; clear hr a; intro a hr
                    refine op_val ((wg hr rfl rfl rfl (b' := ((wi (((at_ r7.Log g34.toNat).B) - (at_ l33 (((at_ r3 g34.toNat).Addr).toNat)))) == ((at_ r3 g34.toNat).A))) (by kernel_rfl)).trans (by rw [show ((wi (((at_ r7.Log g34.toNat).B) - (at_ l33 (((at_ r3 g34.toNat).Addr).toNat)))) == ((at_ r3 g34.toNat).A)) = true from (beq_iff_eq.mpr c72)]; rfl)) rfl rfl hr (v := .bool (((at_ r7.Effects g34.toNat).V) == ((at_ r7.Log g34.toNat).B))) (by kernel_rfl) ?_; clear hr a; intro a hr
                    refine op_val (wn rfl) rfl rfl hr (v := .bool (((at_ r7.Effects g34.toNat).V) == ((at_ r7.Log g34.toNat).B))) (rp_t (b := ((wi (((at_ r7.Log g34.toNat).B) - (at_ l33 (((at_ r3 g34.toNat).Addr).toNat)))) == ((at_ r3 g34.toNat).A))) rfl (by kernel_rfl) (beq_iff_eq.mpr c72) (by kernel_rfl)) ?_; clear hr a; intro a hr
                    refine ov hr (.bool (((at_ r7.Effects g34.toNat).V) == ((at_ r7.Log g34.toNat).B))) (by kernel_rfl) ?_; clear hr a; intro a hr
                    refine wpList_nil ?_
                    refine then_normal ?_
                    refine wp_region_lit ?_
                    refine ov hr (.pointer (some ⟨b37, 2, none⟩)) (by kernel_rfl) ?_; clear hr a; intro a hr
                    refine op_val (wn rfl) rfl rfl hr (v := .int .i64 ((at_ r3 g34.toNat).Addr)) (rl rfl (by kernel_rfl) (by kernel_rfl) ((h.pick 6).cell 2 rfl)) ?_; clear hr a; intro a hr
                    refine ov hr (.pointer (some ⟨b39, 4, none⟩)) (by kernel_rfl) ?_; clear hr a; intro a hr
                    refine op_val (wn rfl) rfl rfl hr (v := .int .i64 ((at_ r7.Log g34.toNat).B)) (rl rfl (by kernel_rfl) (by kernel_rfl) ((h.pick 7).cell 4 rfl)) ?_; clear hr a; intro a hr
                    refine op_val (wn rfl) rfl rfl hr (v := .pointer (some ⟨blk (some ⟨b21, 0, none⟩), (((at_ r3 g34.toNat).Addr).toNat) * 1, none⟩)) (ri_arr (k := .i64) (E := 2) rfl (by kernel_rfl) (by kernel_rfl) (by kernel_rfl) (by kernel_rfl) (h.pick 5).row_n.symm c42) ?_; clear hr a; intro a hr
                    replace h : Fit z (sepL (rowOf 88 1 encZ_i64 (.slice (some ⟨b21, 0, none⟩) 64 64) l33 :: ro57 car5 ccr6 r3 :: ob70 b14 r7 car10 ccr11 car12 r7.Cells.length car13 r7.Log.length :: ro39 car10 ccr11 r7.Effects :: ro2 car12 r7.Cells.length r7.Cells :: ro90 car13 r7.Log.length r7.Log :: ob57 b37 (at_ r3 g34.toNat) :: ob90 b39 (at_ r7.Log g34.toNat) :: ob39 b41 (at_ r7.Effects g34.toNat) :: L)) _ := h.sel 9 [5, 0, 1, 2, 3, 4, 6, 7, 8] (by kernel_rfl) (by kernel_rfl)
                    refine op_store_row (wn rfl) rfl hr rfl (by kernel_rfl) (by kernel_rfl) (v := .int .i64 ((at_ r7.Log g34.toNat).B)) rfl rfl (by kernel_rfl) encZ_i64_ok h (i := (((at_ r3 g34.toNat).Addr).toNat)) (f := 0) (p := (at_ l33 (((at_ r3 g34.toNat).Addr).toNat))) (q := ((at_ r7.Log g34.toNat).B)) (at_ok c42) (by decide) rfl ?_; clear h; intro w h
                    replace h : Fit z (sepL (rowOf 88 1 encZ_i64 (.slice (some ⟨b21, 0, none⟩) 64 64) (l33.set (((at_ r3 g34.toNat).Addr).toNat) ((at_ r7.Log g34.toNat).B)) :: ro57 car5 ccr6 r3 :: ob70 b14 r7 car10 ccr11 car12 r7.Cells.length car13 r7.Log.length :: ro39 car10 ccr11 r7.Effects :: ro2 car12 r7.Cells.length r7.Cells :: ro90 car13 r7.Log.length r7.Log :: ob57 b37 (at_ r3 g34.toNat) :: ob90 b39 (at_ r7.Log g34.toNat) :: ob39 b41 (at_ r7.Effects g34.toNat) :: L)) _ := h
                    refine wpList_nil ?_
                    refine blk_normal ?_
                    refine then_normal ?_
                    refine wp_seq ?_
                    refine wp_region_lit ?_
                    refine ovs [243, 244] [.bool (((at_ r7.Effects g34.toNat).V) == ((at_ r7.Log g34.toNat).B)), .bool (!(((at_ r7.Effects g34.toNat).V) == ((at_ r7.Log g34.toNat).B)))] hr ⟨rfl, rfl⟩ (by kernel_rfl) ?_; clear hr a; intro a hr
                    refine wpList_nil ?_
                    refine then_normal ?_
                    by_cases c73 : ((at_ r7.Effects g34.toNat).V) = ((at_ r7.Log g34.toNat).B)
                    ·
                      replace H := ifT c73 H
                      refine cond_ff hr (b := (!(((at_ r7.Effects g34.toNat).V) == ((at_ r7.Log g34.toNat).B)))) (by rw [show (((at_ r7.Effects g34.toNat).V) == ((at_ r7.Log g34.toNat).B)) = true from (beq_iff_eq.mpr c73)]; rfl) ?_
                      refine wp_skip ?_
                      refine blk_normal ?_
                      refine then_normal ?_
                      refine wp_region_lit ?_
                      refine ovs [78, 79, 10] [.int .i64 g34, .int .i64 (wi (g34 + (1 : Int))), .int .i64 (wi (g34 + (1 : Int)))] hr ⟨rfl, rfl⟩ (by kernel_rfl) ?_; clear hr a; intro a hr
                      refine wpList_nil ?_
                      refine then_normal ?_
                      replace hr := hr.fold2 [(0, .int .i64 (wi ((1 : Int) + r1))), (5, .slice car5 r3.length ccr6), (6, .pointer (some ⟨b14, 0, none⟩)), (8, .pointer (some ⟨b21, 0, none⟩)), (10, .int .i64 (wi (g34 + (1 : Int))))] (by kernel_rfl); obtain ⟨j, hr⟩ := hr
                      replace h : Fit z (sepL (ro57 car5 ccr6 r3 :: ob70 b14 r7 car10 ccr11 car12 r7.Cells.length car13 r7.Log.length :: ro39 car10 ccr11 r7.Effects :: ro2 car12 r7.Cells.length r7.Cells :: ro90 car13 r7.Log.length r7.Log :: rowOf 88 1 encZ_i64 (.slice (some ⟨b21, 0, none⟩) 64 64) (l33.set (((at_ r3 g34.toNat).Addr).toNat) ((at_ r7.Log g34.toNat).B)) :: L)) _ := h.sel 9 [1, 2, 3, 4, 5, 0] (by kernel_rfl) (by kernel_rfl)
                      exact ⟨_, ⟨(l33.set (((at_ r3 g34.toNat).Addr).toNat) ((at_ r7.Log g34.toNat).B)), (wi (g34 + (1 : Int))), H, j, hr, h⟩, Nat.lt_succ_self _⟩
                    ·
                      replace H := ifF c73 H
                      refine cond_tt hr (b := (!(((at_ r7.Effects g34.toNat).V) == ((at_ r7.Log g34.toNat).B)))) (by rw [show (((at_ r7.Effects g34.toNat).V) == ((at_ r7.Log g34.toNat).B)) = false from (beq_eq_false_iff_ne.mpr c73)]; rfl) ?_
                      refine wp_seq ?_
                      refine wp_region_lit ?_
                      refine ov hr (.bool false) (by kernel_rfl) ?_; clear hr a; intro a hr
                      refine wpList_nil ?_
                      refine then_normal ?_
                      refine wp_ret ?_
                      refine blk_ret ?_
                      refine then_ret ?_
                      refine then_ret ?_
                      refine blk_ret ?_
                      refine then_ret ?_
                      refine end_ret1 (v := .bool false) rfl hr (by kernel_rfl) ?_
                      replace H := jx1 H hK31
                      replace h : Fit z (sepL (L)) _ := h.sel 9 [] (by kernel_rfl) (by kernel_rfl)
                      replace H := ej1 H; subst H
                      exact ⟨rfl, h⟩
                  ·
                    replace H := ifF c72 H
                    refine op_off ((wg hr rfl rfl rfl (b' := ((wi (((at_ r7.Log g34.toNat).B) - (at_ l33 (((at_ r3 g34.toNat).Addr).toNat)))) == ((at_ r3 g34.toNat).A))) (by kernel_rfl)).trans (by rw [show ((wi (((at_ r7.Log g34.toNat).B) - (at_ l33 (((at_ r3 g34.toNat).Addr).toNat)))) == ((at_ r3 g34.toNat).A)) = false from (beq_eq_false_iff_ne.mpr c72)]; rfl)) rfl rfl hr ?_; clear hr a; intro a hr
                    refine op_off ((wg hr rfl rfl rfl (b' := ((wi (((at_ r7.Log g34.toNat).B) - (at_ l33 (((at_ r3 g34.toNat).Addr).toNat)))) == ((at_ r3 g34.toNat).A))) (by kernel_rfl)).trans (by rw [show ((wi (((at_ r7.Log g34.toNat).B) - (at_ l33 (((at_ r3 g34.toNat).Addr).toNat)))) == ((at_ r3 g34.toNat).A)) = false from (beq_eq_false_iff_ne.mpr c72)]; rfl)) rfl rfl hr ?_; clear hr a; intro a hr
                    refine op_off ((wg hr rfl rfl rfl (b' := ((wi (((at_ r7.Log g34.toNat).B) - (at_ l33 (((at_ r3 g34.toNat).Addr).toNat)))) == ((at_ r3 g34.toNat).A))) (by kernel_rfl)).trans (by rw [show ((wi (((at_ r7.Log g34.toNat).B) - (at_ l33 (((at_ r3 g34.toNat).Addr).toNat)))) == ((at_ r3 g34.toNat).A)) = false from (beq_eq_false_iff_ne.mpr c72)]; rfl)) rfl rfl hr ?_; clear hr a; intro a hr
                    refine op_off ((wg hr rfl rfl rfl (b' := ((wi (((at_ r7.Log g34.toNat).B) - (at_ l33 (((at_ r3 g34.toNat).Addr).toNat)))) == ((at_ r3 g34.toNat).A))) (by kernel_rfl)).trans (by rw [show ((wi (((at_ r7.Log g34.toNat).B) - (at_ l33 (((at_ r3 g34.toNat).Addr).toNat)))) == ((at_ r3 g34.toNat).A)) = false from (beq_eq_false_iff_ne.mpr c72)]; rfl)) rfl rfl hr ?_; clear hr a; intro a hr
                    refine op_off ((wg hr rfl rfl rfl (b' := ((wi (((at_ r7.Log g34.toNat).B) - (at_ l33 (((at_ r3 g34.toNat).Addr).toNat)))) == ((at_ r3 g34.toNat).A))) (by kernel_rfl)).trans (by rw [show ((wi (((at_ r7.Log g34.toNat).B) - (at_ l33 (((at_ r3 g34.toNat).Addr).toNat)))) == ((at_ r3 g34.toNat).A)) = false from (beq_eq_false_iff_ne.mpr c72)]; rfl)) rfl rfl hr ?_; clear hr a; intro a hr
                    refine op_val (wn rfl) rfl rfl hr (v := .bool false) (rp_f (b := ((wi (((at_ r7.Log g34.toNat).B) - (at_ l33 (((at_ r3 g34.toNat).Addr).toNat)))) == ((at_ r3 g34.toNat).A))) rfl (by kernel_rfl) (beq_eq_false_iff_ne.mpr c72) (by kernel_rfl)) ?_; clear hr a; intro a hr
                    refine ov hr (.bool false) (by kernel_rfl) ?_; clear hr a; intro a hr
                    refine wpList_nil ?_
                    refine then_normal ?_
                    refine wp_region_lit ?_
                    refine ov hr (.pointer (some ⟨b37, 2, none⟩)) (by kernel_rfl) ?_; clear hr a; intro a hr
                    refine op_val (wn rfl) rfl rfl hr (v := .int .i64 ((at_ r3 g34.toNat).Addr)) (rl rfl (by kernel_rfl) (by kernel_rfl) ((h.pick 6).cell 2 rfl)) ?_; clear hr a; intro a hr
                    refine ov hr (.pointer (some ⟨b39, 4, none⟩)) (by kernel_rfl) ?_; clear hr a; intro a hr
                    refine op_val (wn rfl) rfl rfl hr (v := .int .i64 ((at_ r7.Log g34.toNat).B)) (rl rfl (by kernel_rfl) (by kernel_rfl) ((h.pick 7).cell 4 rfl)) ?_; clear hr a; intro a hr
                    refine op_val (wn rfl) rfl rfl hr (v := .pointer (some ⟨blk (some ⟨b21, 0, none⟩), (((at_ r3 g34.toNat).Addr).toNat) * 1, none⟩)) (ri_arr (k := .i64) (E := 2) rfl (by kernel_rfl) (by kernel_rfl) (by kernel_rfl) (by kernel_rfl) (h.pick 5).row_n.symm c42) ?_; clear hr a; intro a hr
                    replace h : Fit z (sepL (rowOf 88 1 encZ_i64 (.slice (some ⟨b21, 0, none⟩) 64 64) l33 :: ro57 car5 ccr6 r3 :: ob70 b14 r7 car10 ccr11 car12 r7.Cells.length car13 r7.Log.length :: ro39 car10 ccr11 r7.Effects :: ro2 car12 r7.Cells.length r7.Cells :: ro90 car13 r7.Log.length r7.Log :: ob57 b37 (at_ r3 g34.toNat) :: ob90 b39 (at_ r7.Log g34.toNat) :: ob39 b41 (at_ r7.Effects g34.toNat) :: L)) _ := h.sel 9 [5, 0, 1, 2, 3, 4, 6, 7, 8] (by kernel_rfl) (by kernel_rfl)
                    refine op_store_row (wn rfl) rfl hr rfl (by kernel_rfl) (by kernel_rfl) (v := .int .i64 ((at_ r7.Log g34.toNat).B)) rfl rfl (by kernel_rfl) encZ_i64_ok h (i := (((at_ r3 g34.toNat).Addr).toNat)) (f := 0) (p := (at_ l33 (((at_ r3 g34.toNat).Addr).toNat))) (q := ((at_ r7.Log g34.toNat).B)) (at_ok c42) (by decide) rfl ?_; clear h; intro w h
                    replace h : Fit z (sepL (rowOf 88 1 encZ_i64 (.slice (some ⟨b21, 0, none⟩) 64 64) (l33.set (((at_ r3 g34.toNat).Addr).toNat) ((at_ r7.Log g34.toNat).B)) :: ro57 car5 ccr6 r3 :: ob70 b14 r7 car10 ccr11 car12 r7.Cells.length car13 r7.Log.length :: ro39 car10 ccr11 r7.Effects :: ro2 car12 r7.Cells.length r7.Cells :: ro90 car13 r7.Log.length r7.Log :: ob57 b37 (at_ r3 g34.toNat) :: ob90 b39 (at_ r7.Log g34.toNat) :: ob39 b41 (at_ r7.Effects g34.toNat) :: L)) _ := h
                    refine wpList_nil ?_
                    refine blk_normal ?_
                    refine then_normal ?_
                    refine wp_seq ?_
                    refine wp_region_lit ?_
                    refine ovs [243, 244] [.bool false, .bool true] hr ⟨rfl, rfl⟩ (by kernel_rfl) ?_; clear hr a; intro a hr
                    refine wpList_nil ?_
                    refine then_normal ?_
                    refine cond_tt hr (b := true) rfl ?_
                    refine wp_seq ?_
                    refine wp_region_lit ?_
                    refine ov hr (.bool false) (by kernel_rfl) ?_; clear hr a; intro a hr
                    refine wpList_nil ?_
                    refine then_normal ?_
                    refine wp_ret ?_
                    refine blk_ret ?_
                    refine then_ret ?_
                    refine then_ret ?_
                    refine blk_ret ?_
                    refine then_ret ?_
                    refine end_ret1 (v := .bool false) rfl hr (by kernel_rfl) ?_
                    replace H := jx1 H hK31
                    replace h : Fit z (sepL (L)) _ := h.sel 9 [] (by kernel_rfl) (by kernel_rfl)
                    replace H := ej1 H; subst H
                    exact ⟨rfl, h⟩
                ·
                  replace H := ifF c71 H
                  refine op_off ((wg hr rfl rfl rfl (b' := (((at_ r7.Log g34.toNat).A) == ((at_ r3 g34.toNat).A))) (by kernel_rfl)).trans (by rw [show (((at_ r7.Log g34.toNat).A) == ((at_ r3 g34.toNat).A)) = false from (beq_eq_false_iff_ne.mpr c71)]; rfl)) rfl rfl hr ?_; clear hr a; intro a hr
                  refine op_off ((wg hr rfl rfl rfl (b' := (((at_ r7.Log g34.toNat).A) == ((at_ r3 g34.toNat).A))) (by kernel_rfl)).trans (by rw [show (((at_ r7.Log g34.toNat).A) == ((at_ r3 g34.toNat).A)) = false from (beq_eq_false_iff_ne.mpr c71)]; rfl)) rfl rfl hr ?_; clear hr a; intro a hr
                  refine op_off ((wg hr rfl rfl rfl (b' := (((at_ r7.Log g34.toNat).A) == ((at_ r3 g34.toNat).A))) (by kernel_rfl)).trans (by rw [show (((at_ r7.Log g34.toNat).A) == ((at_ r3 g34.toNat).A)) = false from (beq_eq_false_iff_ne.mpr c71)]; rfl)) rfl rfl hr ?_; clear hr a; intro a hr
                  refine op_off ((wg hr rfl rfl rfl (b' := (((at_ r7.Log g34.toNat).A) == ((at_ r3 g34.toNat).A))) (by kernel_rfl)).trans (by rw [show (((at_ r7.Log g34.toNat).A) == ((at_ r3 g34.toNat).A)) = false from (beq_eq_false_iff_ne.mpr c71)]; rfl)) rfl rfl hr ?_; clear hr a; intro a hr
                  refine op_off ((wg hr rfl rfl rfl (b' := (((at_ r7.Log g34.toNat).A) == ((at_ r3 g34.toNat).A))) (by kernel_rfl)).trans (by rw [show (((at_ r7.Log g34.toNat).A) == ((at_ r3 g34.toNat).A)) = false from (beq_eq_false_iff_ne.mpr c71)]; rfl)) rfl rfl hr ?_; clear hr a; intro a hr
                  refine op_off ((wg hr rfl rfl rfl (b' := (((at_ r7.Log g34.toNat).A) == ((at_ r3 g34.toNat).A))) (by kernel_rfl)).trans (by rw [show (((at_ r7.Log g34.toNat).A) == ((at_ r3 g34.toNat).A)) = false from (beq_eq_false_iff_ne.mpr c71)]; rfl)) rfl rfl hr ?_; clear hr a; intro a hr
                  refine op_off ((wg hr rfl rfl rfl (b' := (((at_ r7.Log g34.toNat).A) == ((at_ r3 g34.toNat).A))) (by kernel_rfl)).trans (by rw [show (((at_ r7.Log g34.toNat).A) == ((at_ r3 g34.toNat).A)) = false from (beq_eq_false_iff_ne.mpr c71)]; rfl)) rfl rfl hr ?_; clear hr a; intro a hr
                  refine op_val (wn rfl) rfl rfl hr (v := .bool false) (rp_f (b := (((at_ r7.Log g34.toNat).A) == ((at_ r3 g34.toNat).A))) rfl (by kernel_rfl) (beq_eq_false_iff_ne.mpr c71) (by kernel_rfl)) ?_; clear hr a; intro a hr
                  refine ov hr (.bool false) (by kernel_rfl) ?_; clear hr a; intro a hr
                  refine op_off ((wg hr rfl rfl rfl (b' := false) (by kernel_rfl)).trans rfl) rfl rfl hr ?_; clear hr a; intro a hr
                  refine op_off ((wg hr rfl rfl rfl (b' := false) (by kernel_rfl)).trans rfl) rfl rfl hr ?_; clear hr a; intro a hr
                  refine op_off ((wg hr rfl rfl rfl (b' := false) (by kernel_rfl)).trans rfl) rfl rfl hr ?_; clear hr a; intro a hr
                  refine op_off ((wg hr rfl rfl rfl (b' := false) (by kernel_rfl)).trans rfl) rfl rfl hr ?_; clear hr a; intro a hr
                  refine op_off ((wg hr rfl rfl rfl (b' := false) (by kernel_rfl)).trans rfl) rfl rfl hr ?_; clear hr a; intro a hr
                  refine ovs [155, 15] [.bool false, .bool false] hr ⟨rfl, rfl⟩ (by kernel_rfl) ?_; clear hr a; intro a hr
                  refine wpList_nil ?_
                  refine then_normal ?_
                  refine wp_region_lit ?_
                  refine ov hr (.pointer (some ⟨b37, 2, none⟩)) (by kernel_rfl) ?_; clear hr a; intro a hr
                  refine op_val (wn rfl) rfl rfl hr (v := .int .i64 ((at_ r3 g34.toNat).Addr)) (rl rfl (by kernel_rfl) (by kernel_rfl) ((h.pick 6).cell 2 rfl)) ?_; clear hr a; intro a hr
                  refine ov hr (.pointer (some ⟨b39, 4, none⟩)) (by kernel_rfl) ?_; clear hr a; intro a hr
                  refine op_val (wn rfl) rfl rfl hr (v := .int .i64 ((at_ r7.Log g34.toNat).B)) (rl rfl (by kernel_rfl) (by kernel_rfl) ((h.pick 7).cell 4 rfl)) ?_; clear hr a; intro a hr
                  refine op_val (wn rfl) rfl rfl hr (v := .pointer (some ⟨blk (some ⟨b21, 0, none⟩), (((at_ r3 g34.toNat).Addr).toNat) * 1, none⟩)) (ri_arr (k := .i64) (E := 2) rfl (by kernel_rfl) (by kernel_rfl) (by kernel_rfl) (by kernel_rfl) (h.pick 5).row_n.symm c42) ?_; clear hr a; intro a hr
                  replace h : Fit z (sepL (rowOf 88 1 encZ_i64 (.slice (some ⟨b21, 0, none⟩) 64 64) l33 :: ro57 car5 ccr6 r3 :: ob70 b14 r7 car10 ccr11 car12 r7.Cells.length car13 r7.Log.length :: ro39 car10 ccr11 r7.Effects :: ro2 car12 r7.Cells.length r7.Cells :: ro90 car13 r7.Log.length r7.Log :: ob57 b37 (at_ r3 g34.toNat) :: ob90 b39 (at_ r7.Log g34.toNat) :: ob39 b41 (at_ r7.Effects g34.toNat) :: L)) _ := h.sel 9 [5, 0, 1, 2, 3, 4, 6, 7, 8] (by kernel_rfl) (by kernel_rfl)
                  refine op_store_row (wn rfl) rfl hr rfl (by kernel_rfl) (by kernel_rfl) (v := .int .i64 ((at_ r7.Log g34.toNat).B)) rfl rfl (by kernel_rfl) encZ_i64_ok h (i := (((at_ r3 g34.toNat).Addr).toNat)) (f := 0) (p := (at_ l33 (((at_ r3 g34.toNat).Addr).toNat))) (q := ((at_ r7.Log g34.toNat).B)) (at_ok c42) (by decide) rfl ?_; clear h; intro w h
                  replace h : Fit z (sepL (rowOf 88 1 encZ_i64 (.slice (some ⟨b21, 0, none⟩) 64 64) (l33.set (((at_ r3 g34.toNat).Addr).toNat) ((at_ r7.Log g34.toNat).B)) :: ro57 car5 ccr6 r3 :: ob70 b14 r7 car10 ccr11 car12 r7.Cells.length car13 r7.Log.length :: ro39 car10 ccr11 r7.Effects :: ro2 car12 r7.Cells.length r7.Cells :: ro90 car13 r7.Log.length r7.Log :: ob57 b37 (at_ r3 g34.toNat) :: ob90 b39 (at_ r7.Log g34.toNat) :: ob39 b41 (at_ r7.Effects g34.toNat) :: L)) _ := h
                  refine wpList_nil ?_
                  refine blk_normal ?_
                  refine then_normal ?_
                  refine wp_seq ?_
                  refine wp_region_lit ?_
                  refine ovs [243, 244] [.bool false, .bool true] hr ⟨rfl, rfl⟩ (by kernel_rfl) ?_; clear hr a; intro a hr
                  refine wpList_nil ?_
                  refine then_normal ?_
                  refine cond_tt hr (b := true) rfl ?_
                  refine wp_seq ?_
                  refine wp_region_lit ?_
                  refine ov hr (.bool false) (by kernel_rfl) ?_; clear hr a; intro a hr
                  refine wpList_nil ?_
                  refine then_normal ?_
                  refine wp_ret ?_
                  refine blk_ret ?_
                  refine then_ret ?_
                  refine then_ret ?_
                  refine blk_ret ?_
                  refine then_ret ?_
                  refine end_ret1 (v := .bool false) rfl hr (by kernel_rfl) ?_
                  replace H := jx1 H hK31
                  replace h : Fit z (sepL (L)) _ := h.sel 9 [] (by kernel_rfl) (by kernel_rfl)
                  replace H := ej1 H; subst H
                  exact ⟨rfl, h⟩
              ·
                replace H := ifF c70 H
                refine op_off ((wg hr rfl rfl rfl (b' := ((at_ r7.Log g34.toNat).OK)) (by kernel_rfl)).trans (by rw [show ((at_ r7.Log g34.toNat).OK) = false from (bF c70)]; rfl)) rfl rfl hr ?_; clear hr a; intro a hr
                refine op_off ((wg hr rfl rfl rfl (b' := ((at_ r7.Log g34.toNat).OK)) (by kernel_rfl)).trans (by rw [show ((at_ r7.Log g34.toNat).OK) = false from (bF c70)]; rfl)) rfl rfl hr ?_; clear hr a; intro a hr
                refine op_off ((wg hr rfl rfl rfl (b' := ((at_ r7.Log g34.toNat).OK)) (by kernel_rfl)).trans (by rw [show ((at_ r7.Log g34.toNat).OK) = false from (bF c70)]; rfl)) rfl rfl hr ?_; clear hr a; intro a hr
                refine op_off ((wg hr rfl rfl rfl (b' := ((at_ r7.Log g34.toNat).OK)) (by kernel_rfl)).trans (by rw [show ((at_ r7.Log g34.toNat).OK) = false from (bF c70)]; rfl)) rfl rfl hr ?_; clear hr a; intro a hr
                refine op_off ((wg hr rfl rfl rfl (b' := ((at_ r7.Log g34.toNat).OK)) (by kernel_rfl)).trans (by rw [show ((at_ r7.Log g34.toNat).OK) = false from (bF c70)]; rfl)) rfl rfl hr ?_; clear hr a; intro a hr
                refine op_val (wn rfl) rfl rfl hr (v := .bool false) (rp_f (b := ((at_ r7.Log g34.toNat).OK)) rfl (by kernel_rfl) (bF c70) (by kernel_rfl)) ?_; clear hr a; intro a hr
                refine ov hr (.bool false) (by kernel_rfl) ?_; clear hr a; intro a hr
                refine op_off ((wg hr rfl rfl rfl (b' := false) (by kernel_rfl)).trans rfl) rfl rfl hr ?_; clear hr a; intro a hr
                refine op_off ((wg hr rfl rfl rfl (b' := false) (by kernel_rfl)).trans rfl) rfl rfl hr ?_; clear hr a; intro a hr
                refine op_off ((wg hr rfl rfl rfl (b' := false) (by kernel_rfl)).trans rfl) rfl rfl hr ?_; clear hr a; intro a hr
                refine op_off ((wg hr rfl rfl rfl (b' := false) (by kernel_rfl)).trans rfl) rfl rfl hr ?_; clear hr a; intro a hr
                refine op_off ((wg hr rfl rfl rfl (b' := false) (by kernel_rfl)).trans rfl) rfl rfl hr ?_; clear hr a; intro a hr
                refine op_off ((wg hr rfl rfl rfl (b' := false) (by kernel_rfl)).trans rfl) rfl rfl hr ?_; clear hr a; intro a hr
                refine op_off ((wg hr rfl rfl rfl (b' := false) (by kernel_rfl)).trans rfl) rfl rfl hr ?_; clear hr a; intro a hr
                refine ovs [148, 149] [.bool false, .bool false] hr ⟨rfl, rfl⟩ (by kernel_rfl) ?_; clear hr a; intro a hr
                refine op_off ((wg hr rfl rfl rfl (b' := false) (by kernel_rfl)).trans rfl) rfl rfl hr ?_; clear hr a; intro a hr
                refine op_off ((wg hr rfl rfl rfl (b' := false) (by kernel_rfl)).trans rfl) rfl rfl hr ?_; clear hr a; intro a hr
                refine op_off ((wg hr rfl rfl rfl (b' := false) (by kernel_rfl)).trans rfl) rfl rfl hr ?_; clear hr a; intro a hr
                refine op_off ((wg hr rfl rfl rfl (b' := false) (by kernel_rfl)).trans rfl) rfl rfl hr ?_; clear hr a; intro a hr
                refine op_off ((wg hr rfl rfl rfl (b' := false) (by kernel_rfl)).trans rfl) rfl rfl hr ?_; clear hr a; intro a hr
                refine ovs [155, 15] [.bool false, .bool false] hr ⟨rfl, rfl⟩ (by kernel_rfl) ?_; clear hr a; intro a hr
                refine wpList_nil ?_
                refine then_normal ?_
                refine wp_region_lit ?_
                refine ov hr (.pointer (some ⟨b37, 2, none⟩)) (by kernel_rfl) ?_; clear hr a; intro a hr
                refine op_val (wn rfl) rfl rfl hr (v := .int .i64 ((at_ r3 g34.toNat).Addr)) (rl rfl (by kernel_rfl) (by kernel_rfl) ((h.pick 6).cell 2 rfl)) ?_; clear hr a; intro a hr
                refine ov hr (.pointer (some ⟨b39, 4, none⟩)) (by kernel_rfl) ?_; clear hr a; intro a hr
                refine op_val (wn rfl) rfl rfl hr (v := .int .i64 ((at_ r7.Log g34.toNat).B)) (rl rfl (by kernel_rfl) (by kernel_rfl) ((h.pick 7).cell 4 rfl)) ?_; clear hr a; intro a hr
                refine op_val (wn rfl) rfl rfl hr (v := .pointer (some ⟨blk (some ⟨b21, 0, none⟩), (((at_ r3 g34.toNat).Addr).toNat) * 1, none⟩)) (ri_arr (k := .i64) (E := 2) rfl (by kernel_rfl) (by kernel_rfl) (by kernel_rfl) (by kernel_rfl) (h.pick 5).row_n.symm c42) ?_; clear hr a; intro a hr
                replace h : Fit z (sepL (rowOf 88 1 encZ_i64 (.slice (some ⟨b21, 0, none⟩) 64 64) l33 :: ro57 car5 ccr6 r3 :: ob70 b14 r7 car10 ccr11 car12 r7.Cells.length car13 r7.Log.length :: ro39 car10 ccr11 r7.Effects :: ro2 car12 r7.Cells.length r7.Cells :: ro90 car13 r7.Log.length r7.Log :: ob57 b37 (at_ r3 g34.toNat) :: ob90 b39 (at_ r7.Log g34.toNat) :: ob39 b41 (at_ r7.Effects g34.toNat) :: L)) _ := h.sel 9 [5, 0, 1, 2, 3, 4, 6, 7, 8] (by kernel_rfl) (by kernel_rfl)
                refine op_store_row (wn rfl) rfl hr rfl (by kernel_rfl) (by kernel_rfl) (v := .int .i64 ((at_ r7.Log g34.toNat).B)) rfl rfl (by kernel_rfl) encZ_i64_ok h (i := (((at_ r3 g34.toNat).Addr).toNat)) (f := 0) (p := (at_ l33 (((at_ r3 g34.toNat).Addr).toNat))) (q := ((at_ r7.Log g34.toNat).B)) (at_ok c42) (by decide) rfl ?_; clear h; intro w h
                replace h : Fit z (sepL (rowOf 88 1 encZ_i64 (.slice (some ⟨b21, 0, none⟩) 64 64) (l33.set (((at_ r3 g34.toNat).Addr).toNat) ((at_ r7.Log g34.toNat).B)) :: ro57 car5 ccr6 r3 :: ob70 b14 r7 car10 ccr11 car12 r7.Cells.length car13 r7.Log.length :: ro39 car10 ccr11 r7.Effects :: ro2 car12 r7.Cells.length r7.Cells :: ro90 car13 r7.Log.length r7.Log :: ob57 b37 (at_ r3 g34.toNat) :: ob90 b39 (at_ r7.Log g34.toNat) :: ob39 b41 (at_ r7.Effects g34.toNat) :: L)) _ := h
                refine wpList_nil ?_
                refine blk_normal ?_
                refine then_normal ?_
                refine wp_seq ?_
                refine wp_region_lit ?_
                refine ovs [243, 244] [.bool false, .bool true] hr ⟨rfl, rfl⟩ (by kernel_rfl) ?_; clear hr a; intro a hr
                refine wpList_nil ?_
                refine then_normal ?_
                refine cond_tt hr (b := true) rfl ?_
                refine wp_seq ?_
                refine wp_region_lit ?_
                refine ov hr (.bool false) (by kernel_rfl) ?_; clear hr a; intro a hr
                refine wpList_nil ?_
                refine then_normal ?_
                refine wp_ret ?_
                refine blk_ret ?_
                refine then_ret ?_
                refine then_ret ?_
                refine blk_ret ?_
                refine then_ret ?_
                refine end_ret1 (v := .bool false) rfl hr (by kernel_rfl) ?_
                replace H := jx1 H hK31
                replace h : Fit z (sepL (L)) _ := h.sel 9 [] (by kernel_rfl) (by kernel_rfl)
                replace H := ej1 H; subst H
                exact ⟨rfl, h⟩
      ·
        replace H := ifF c35 H
        refine cond_ff hr (b := (decide (g34 < ((r3.length : Nat) : Int)))) (decide_eq_false c35) ?_
        refine wp_exit ?_
        refine then_exit ?_
        refine then_exit ?_
        refine blk_here ?_
        refine then_normal ?_
        replace hr := hr.fold2 [(0, .int .i64 (wi ((1 : Int) + r1))), (6, .pointer (some ⟨b14, 0, none⟩)), (8, .pointer (some ⟨b21, 0, none⟩))] (by kernel_rfl); obtain ⟨j, hr⟩ := hr
        replace h : Fit z (sepL (ob70 b14 r7 car10 ccr11 car12 r7.Cells.length car13 r7.Log.length :: ro39 car10 ccr11 r7.Effects :: ro2 car12 r7.Cells.length r7.Cells :: ro90 car13 r7.Log.length r7.Log :: rowOf 88 1 encZ_i64 (.slice (some ⟨b21, 0, none⟩) 64 64) l33 :: L)) _ := h.sel 6 [1, 2, 3, 4, 5] (by kernel_rfl) (by kernel_rfl)
        exact ⟨(), l33, sinj H, j, hr, h⟩
  clear h hr a; rintro _ a w ⟨l30, rfl, j, hr, h⟩
  replace H := jk1 hK31
  refine wp_seq ?_
  refine wp_seq ?_
  refine wp_region_lit ?_
  refine ov hr (.int .i64 0) (by kernel_rfl) ?_; clear hr a; intro a hr
  refine wpList_nil ?_
  refine then_normal ?_
  refine wp_block ?_
  replace hr := hr.fold2 [(0, .int .i64 (wi ((1 : Int) + r1))), (6, .pointer (some ⟨b14, 0, none⟩)), (8, .pointer (some ⟨b21, 0, none⟩)), (16, .int .i64 0)] (by kernel_rfl); obtain ⟨j, hr⟩ := hr
  refine loop_rule (β := Nat) id (fun m a w => ∃ g74 : Int, (plunderlaw2_CellsMemory_l2 K r1 r7 l30 m g74) = some r0 ∧ ∃ j, Rep 259 (lk [(0, .int .i64 (wi ((1 : Int) + r1))), (6, .pointer (some ⟨b14, 0, none⟩)), (8, .pointer (some ⟨b21, 0, none⟩)), (16, .int .i64 g74)] j) a ∧ Fit z (sepL (ob70 b14 r7 car10 ccr11 car12 r7.Cells.length car13 r7.Log.length :: ro39 car10 ccr11 r7.Effects :: ro2 car12 r7.Cells.length r7.Cells :: ro90 car13 r7.Log.length r7.Log :: rowOf 88 1 encZ_i64 (.slice (some ⟨b21, 0, none⟩) 64 64) l30 :: L)) w) K ⟨0, H, j, hr, h⟩ ?_
  clear h hr a H; rintro k2 a w ⟨g74, H, j, hr, h⟩
  cases k2 with
  | zero => exact absurd H (by simp [plunderlaw2_CellsMemory_l2])
  | succ k2 =>
    rw [plunderlaw2_CellsMemory_l2] at H
    refine wp_seq ?_
    refine wp_seq ?_
    refine wp_region_lit ?_
    refine ovs [245, 246, 247] [.int .i64 g74, .int .i64 (wi ((1 : Int) + r1)), .bool (decide (g74 < (wi ((1 : Int) + r1))))] hr ⟨rfl, rfl⟩ (by kernel_rfl) ?_; clear hr a; intro a hr
    refine wpList_nil ?_
    refine then_normal ?_
    by_cases c75 : g74 < (wi ((1 : Int) + r1))
    ·
      replace H := ifT c75 H
      refine cond_tt hr (b := (decide (g74 < (wi ((1 : Int) + r1))))) (decide_eq_true c75) ?_
      refine wp_skip ?_
      refine then_normal ?_
      refine wp_seq ?_
      refine wp_block ?_
      refine wp_seq ?_
      replace H := gd H; obtain ⟨c76, H⟩ := H
      replace H := gd H; obtain ⟨c77, H⟩ := H
      refine reg_E (fun w => heldC w b14 1 [.slice car12 r7.Cells.length r7.Cells.length] ∧ heldC w (blk car12) (g74.toNat * 1) [.int .i64 (at_ r7.Cells g74.toNat)] ∧ heldC w (blk (some ⟨b21, 0, none⟩)) (g74.toNat * 1) [.int .i64 (at_ l30 g74.toNat)] ∧ True) [0, 3, 6] h (by kernel_rfl) ?_; intro w h
      change wpAnyE _ _ _ _ _ _ 9 (Array.replicate 9 false) a w
      have hgo : ∀ w w', CellsGo w w' → (heldC w b14 1 [.slice car12 r7.Cells.length r7.Cells.length] ∧ heldC w (blk car12) (g74.toNat * 1) [.int .i64 (at_ r7.Cells g74.toNat)] ∧ heldC w (blk (some ⟨b21, 0, none⟩)) (g74.toNat * 1) [.int .i64 (at_ l30 g74.toNat)] ∧ True) → heldC w' b14 1 [.slice car12 r7.Cells.length r7.Cells.length] ∧ heldC w' (blk car12) (g74.toNat * 1) [.int .i64 (at_ r7.Cells g74.toNat)] ∧ heldC w' (blk (some ⟨b21, 0, none⟩)) (g74.toNat * 1) [.int .i64 (at_ l30 g74.toNat)] ∧ True := fun w w' g hD => ⟨heldC_go _ _ _ _ _ g hD.1, heldC_go _ _ _ _ _ g hD.2.1, heldC_go _ _ _ _ _ g hD.2.2.1, trivial⟩
      refine evD hgo ⟨⟨h.cell 1 rfl, trivial⟩, ⟨(h.pick 2).row_cell encZ_i64_ok (f := 0) (at_ok c76) rfl, trivial⟩, ⟨(h.pick 4).row_cell encZ_i64_ok (f := 0) (at_ok c77) rfl, trivial⟩, trivial⟩ 8 0 rfl (by kernel_rfl) (wn rfl) hr (.pointer (some ⟨b14, 1, none⟩)) (fun w => by kernel_rfl) ?_; clear hr a; intro a hr
      refine ev 7 2 rfl (by kernel_rfl) (wn rfl) hr (.int .i64 g74) (fun w => by kernel_rfl) ?_; clear hr a; intro a hr
      refine ev 6 5 rfl (by kernel_rfl) (wn rfl) hr (.int .i64 g74) (fun w => by kernel_rfl) ?_; clear hr a; intro a hr
      refine evD hgo ⟨⟨h.cell 1 rfl, trivial⟩, ⟨(h.pick 2).row_cell encZ_i64_ok (f := 0) (at_ok c76) rfl, trivial⟩, ⟨(h.pick 4).row_cell encZ_i64_ok (f := 0) (at_ok c77) rfl, trivial⟩, trivial⟩ 5 6 rfl (by kernel_rfl) (wn rfl) hr (.pointer (some ⟨blk (some ⟨b21, 0, none⟩), g74.toNat * 1, none⟩)) (fun w => ri_arr (k := .i64) (E := 2) rfl (by kernel_rfl) (by kernel_rfl) (by kernel_rfl) (by kernel_rfl) (h.pick 4).row_n.symm c77) ?_; clear hr a; intro a hr
      refine el [0, 3, 6] (b := b14) (off := 1) (cs := [.slice car12 r7.Cells.length r7.Cells.length]) (fun _ hk => ⟨hk, fun w hD => hD.1⟩) 4 1 rfl (by kernel_rfl) (wn rfl) hr (.slice car12 r7.Cells.length r7.Cells.length) ⟨h.cell 1 rfl, trivial⟩ (fun w hc => rl rfl (by kernel_rfl) (by kernel_rfl) hc.1) ?_; clear hr a; intro a hr
      refine evD hgo ⟨⟨h.cell 1 rfl, trivial⟩, ⟨(h.pick 2).row_cell encZ_i64_ok (f := 0) (at_ok c76) rfl, trivial⟩, ⟨(h.pick 4).row_cell encZ_i64_ok (f := 0) (at_ok c77) rfl, trivial⟩, trivial⟩ 3 3 rfl (by kernel_rfl) (wn rfl) hr (.pointer (some ⟨blk car12, g74.toNat * 1, none⟩)) (fun w => ri_row (k := .i64) (E := 2) rfl (by kernel_rfl) (by kernel_rfl) (by kernel_rfl) (by kernel_rfl) (h.pick 2) c76) ?_; clear hr a; intro a hr
      refine el [0, 3, 6] (b := blk car12) (off := g74.toNat * 1) (cs := [.int .i64 (at_ r7.Cells g74.toNat)]) (fun _ hk => ⟨hk, fun w hD => hD.2.1⟩) 2 4 rfl (by kernel_rfl) (wn rfl) hr (.int .i64 (at_ r7.Cells g74.toNat)) ⟨(h.pick 2).row_cell encZ_i64_ok (f := 0) (at_ok c76) rfl, trivial⟩ (fun w hc => rl rfl (by kernel_rfl) (by kernel_rfl) hc.1) ?_; clear hr a; intro a hr
      refine el [0, 3, 6] (b := blk (some ⟨b21, 0, none⟩)) (off := g74.toNat * 1) (cs := [.int .i64 (at_ l30 g74.toNat)]) (fun _ hk => ⟨hk, fun w hD => hD.2.2.1⟩) 1 7 rfl (by kernel_rfl) (wn rfl) hr (.int .i64 (at_ l30 g74.toNat)) ⟨(h.pick 4).row_cell encZ_i64_ok (f := 0) (at_ok c77) rfl, trivial⟩ (fun w hc => rl rfl (by kernel_rfl) (by kernel_rfl) hc.1) ?_; clear hr a; intro a hr
      refine ev 0 8 rfl (by kernel_rfl) (wn rfl) hr (.bool ((at_ r7.Cells g74.toNat) != (at_ l30 g74.toNat))) (fun w => by kernel_rfl) ?_; clear hr a; intro a hr
      refine e_end (by kernel_rfl) ?_
      refine then_normal ?_
      by_cases c78 : (at_ r7.Cells g74.toNat) = (at_ l30 g74.toNat)
      ·
        replace H := ifT c78 H
        refine cond_ff hr (b := ((at_ r7.Cells g74.toNat) != (at_ l30 g74.toNat))) (bne_eq_false_iff_eq.mpr c78) ?_
        refine wp_skip ?_
        refine blk_normal ?_
        refine then_normal ?_
        refine wp_region_lit ?_
        refine ovs [248, 249, 16] [.int .i64 g74, .int .i64 (wi (g74 + (1 : Int))), .int .i64 (wi (g74 + (1 : Int)))] hr ⟨rfl, rfl⟩ (by kernel_rfl) ?_; clear hr a; intro a hr
        refine wpList_nil ?_
        refine then_normal ?_
        replace hr := hr.fold2 [(0, .int .i64 (wi ((1 : Int) + r1))), (6, .pointer (some ⟨b14, 0, none⟩)), (8, .pointer (some ⟨b21, 0, none⟩)), (16, .int .i64 (wi (g74 + (1 : Int))))] (by kernel_rfl); obtain ⟨j, hr⟩ := hr
        exact ⟨_, ⟨(wi (g74 + (1 : Int))), H, j, hr, h⟩, Nat.lt_succ_self _⟩
      ·
        replace H := ifF c78 H
        refine cond_tt hr (b := ((at_ r7.Cells g74.toNat) != (at_ l30 g74.toNat))) (bne_iff_ne.mpr c78) ?_
        refine wp_seq ?_
        refine wp_region_lit ?_
        refine ov hr (.bool false) (by kernel_rfl) ?_; clear hr a; intro a hr
        refine wpList_nil ?_
        refine then_normal ?_
        refine wp_ret ?_
        refine blk_ret ?_
        refine then_ret ?_
        refine then_ret ?_
        refine blk_ret ?_
        refine then_ret ?_
        refine end_ret1 (v := .bool false) rfl hr (by kernel_rfl) ?_
        replace h : Fit z (sepL (L)) _ := h.sel 5 [] (by kernel_rfl) (by kernel_rfl)
        replace H := ej1 H; subst H
        exact ⟨rfl, h⟩
    ·
      replace H := ifF c75 H
      refine cond_ff hr (b := (decide (g74 < (wi ((1 : Int) + r1))))) (decide_eq_false c75) ?_
      refine wp_exit ?_
      refine then_exit ?_
      refine then_exit ?_
      refine blk_here ?_
      refine then_normal ?_
      refine wp_seq ?_
      refine wp_region_lit ?_
      refine ov hr (.bool true) (by kernel_rfl) ?_; clear hr a; intro a hr
      refine wpList_nil ?_
      refine then_normal ?_
      refine wp_ret ?_
      refine end_ret1 (v := .bool true) rfl hr (by kernel_rfl) ?_
      replace h : Fit z (sepL (L)) _ := h.sel 5 [] (by kernel_rfl) (by kernel_rfl)
      replace H := ej1 H; subst H
      exact ⟨rfl, h⟩


end Go.Proofs.Ytacgigkonoegiaa.Mo
