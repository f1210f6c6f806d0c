/- what the functions compute, as plain Lean functions, and that they do -/
import Derived.Test.YtacgigkonoegiaaMq4
namespace Go.Proofs.Ytacgigkonoegiaa.Mo
open Go Go.RowKit Go.Proofs.Ytacgigkonoegiaa.SL Go.Proofs.Ytacgigkonoegiaa.GX
set_option linter.unusedVariables false
set_option linter.unusedSimpArgs false

/-- plunder/plunderlaw2.stand -/
def plunderlaw2_stand (K : Nat) (p0 : T_plunderlaw2_kept) : Option (Bool) :=
  jn0 (ob1 (plunderlaw2_full K p0.l ((p0.l.length : Nat) : Int) p0.m) (fun r12 => (if r12 = true then ob1 (plunderlaw2_full K p0.g1 ((p0.l.length : Nat) : Int) p0.m) (fun r15 => (if r15 = true then ob1 (plunderlaw2_full K p0.g2 ((p0.l.length : Nat) : Int) p0.m) (fun r18 => (if r18 = true then ob1 (plunderlaw2_full K p0.g3 ((p0.l.length : Nat) : Int) p0.m) (fun r21 => (if r21 = true then some (.inl ()) else some (.inr false))) else some (.inr false))) else some (.inr false))) else some (.inr false)))) (jn0 ((if ((p0.g1.length : Nat) : Int) = (wi (((p0.l.length : Nat) : Int) + (1 : Int))) then (if ((p0.g2.length : Nat) : Int) = (wi (((p0.l.length : Nat) : Int) + (2 : Int))) then (if ((p0.g3.length : Nat) : Int) = (wi (((p0.l.length : Nat) : Int) + (3 : Int))) then some (.inl ()) else some (.inr false)) else some (.inr false)) else some (.inr false))) (if inr_ ((p0.l.length : Nat) : Int) p0.g1.length then if inr_ ((p0.l.length : Nat) : Int) p0.g2.length then if inr_ (wi (((p0.l.length : Nat) : Int) + (1 : Int))) p0.g2.length then jn0 ((if (wi ((at_ p0.g1 (((p0.l.length : Nat) : Int).toNat)) - p0.m)) = (1 : Int) then (if (wi ((at_ p0.g2 (((p0.l.length : Nat) : Int).toNat)) - p0.m)) = (2 : Int) then (if (wi ((at_ p0.g2 ((wi (((p0.l.length : Nat) : Int) + (1 : Int))).toNat)) - p0.m)) = (3 : Int) then some (.inl ()) else (if (wi ((at_ p0.g2 ((wi (((p0.l.length : Nat) : Int) + (1 : Int))).toNat)) - p0.m)) = (5 : Int) then some (.inl ()) else some (.inr false))) else (if (wi ((at_ p0.g2 (((p0.l.length : Nat) : Int).toNat)) - p0.m)) = (4 : Int) then (if (wi ((at_ p0.g2 ((wi (((p0.l.length : Nat) : Int) + (1 : Int))).toNat)) - p0.m)) = (3 : Int) then some (.inl ()) else (if (wi ((at_ p0.g2 ((wi (((p0.l.length : Nat) : Int) + (1 : Int))).toNat)) - p0.m)) = (5 : Int) then some (.inl ()) else some (.inr false))) else some (.inr false))) else (if (wi ((at_ p0.g1 (((p0.l.length : Nat) : Int).toNat)) - p0.m)) = (2 : Int) then (if (wi ((at_ p0.g2 (((p0.l.length : Nat) : Int).toNat)) - p0.m)) = (2 : Int) then (if (wi ((at_ p0.g2 ((wi (((p0.l.length : Nat) : Int) + (1 : Int))).toNat)) - p0.m)) = (3 : Int) then some (.inl ()) else (if (wi ((at_ p0.g2 ((wi (((p0.l.length : Nat) : Int) + (1 : Int))).toNat)) - p0.m)) = (5 : Int) then some (.inl ()) else some (.inr false))) else (if (wi ((at_ p0.g2 (((p0.l.length : Nat) : Int).toNat)) - p0.m)) = (4 : Int) then (if (wi ((at_ p0.g2 ((wi (((p0.l.length : Nat) : Int) + (1 : Int))).toNat)) - p0.m)) = (3 : Int) then some (.inl ()) else (if (wi ((at_ p0.g2 ((wi (((p0.l.length : Nat) : Int) + (1 : Int))).toNat)) - p0.m)) = (5 : Int) then some (.inl ()) else some (.inr false))) else some (.inr false))) else (if (wi ((at_ p0.g1 (((p0.l.length : Nat) : Int).toNat)) - p0.m)) = (4 : Int) then (if (wi ((at_ p0.g2 (((p0.l.length : Nat) : Int).toNat)) - p0.m)) = (2 : Int) then (if (wi ((at_ p0.g2 ((wi (((p0.l.length : Nat) : Int) + (1 : Int))).toNat)) - p0.m)) = (3 : Int) then some (.inl ()) else (if (wi ((at_ p0.g2 ((wi (((p0.l.length : Nat) : Int) + (1 : Int))).toNat)) - p0.m)) = (5 : Int) then some (.inl ()) else some (.inr false))) else (if (wi ((at_ p0.g2 (((p0.l.length : Nat) : Int).toNat)) - p0.m)) = (4 : Int) then (if (wi ((at_ p0.g2 ((wi (((p0.l.length : Nat) : Int) + (1 : Int))).toNat)) - p0.m)) = (3 : Int) then some (.inl ()) else (if (wi ((at_ p0.g2 ((wi (((p0.l.length : Nat) : Int) + (1 : Int))).toNat)) - p0.m)) = (5 : Int) then some (.inl ()) else some (.inr false))) else some (.inr false))) else some (.inr false))))) (if inr_ ((p0.l.length : Nat) : Int) p0.g3.length then (if (at_ p0.g3 (((p0.l.length : Nat) : Int).toNat)) = (wi (p0.m + (4 : Int))) then if inr_ (wi (((p0.l.length : Nat) : Int) + (1 : Int))) p0.g3.length then (if (at_ p0.g3 ((wi (((p0.l.length : Nat) : Int) + (1 : Int))).toNat)) = (wi (p0.m + (5 : Int))) then if inr_ (wi (((p0.l.length : Nat) : Int) + (2 : Int))) p0.g3.length then some ((at_ p0.g3 ((wi (((p0.l.length : Nat) : Int) + (2 : Int))).toNat)) == (wi (p0.m + (6 : Int)))) else none else some false) else none else some false) else none) else none else none else none))
set_option maxRecDepth 100000 in
set_option maxHeartbeats 4000000 in
theorem plunderlaw2_stand_ok {z w : World} {L : List HProp} {K : Nat} {p0 : T_plunderlaw2_kept} {ca1 : Option Addr} {cc2 : Nat} {ca3 : Option Addr} {cc4 : Nat} {ca5 : Option Addr} {cc6 : Nat} {ca7 : Option Addr} {cc8 : Nat} {r0 : Bool} (H : plunderlaw2_stand K p0 = some r0) (h : Fit z (sepL (ro2 ca1 cc2 p0.l :: ro2 ca3 cc4 p0.g1 :: ro2 ca5 cc6 p0.g2 :: ro2 ca7 cc8 p0.g3 :: L)) w)  :
    Calls Try.prog 92 #[.agg #[.int .i64 p0.m, .slice ca1 p0.l.length cc2, .slice ca3 p0.g1.length cc4, .slice ca5 p0.g2.length cc6, .slice ca7 p0.g3.length cc8]] w fun e w => e = .returned (.bool r0) ∧ Fit z (sepL (ro2 ca1 cc2 p0.l :: ro2 ca3 cc4 p0.g1 :: ro2 ca5 cc6 p0.g2 :: ro2 ca7 cc8 p0.g3 :: L)) w := by
  unfold plunderlaw2_stand at H
  refine enter Try.func92 rfl 150 rfl rfl [(0, .agg #[.int .i64 p0.m, .slice ca1 p0.l.length cc2, .slice ca3 p0.g1.length cc4, .slice ca5 p0.g2.length cc6, .slice ca7 p0.g3.length cc8])] ⟨rfl, trivial⟩ ?_
  intro j a hr
  refine wp_seq ?_
  refine wp_region_lit ?_
  refine op_new (wn rfl) rfl rfl hr h (vf := fun b => .pointer (some ⟨b, 0, none⟩)) (cs := #[.int .i64 p0.m, .slice ca1 p0.l.length cc2, .slice ca3 p0.g1.length cc4, .slice ca5 p0.g2.length cc6, .slice ca7 p0.g3.length cc8]) (T := 139) (by kernel_rfl) ?_; clear h hr a; intro b9 w a h hr
  refine ov hr (.bool false) (by kernel_rfl) ?_; clear hr a; intro a hr
  refine wpList_nil ?_
  refine then_normal ?_
  refine wp_seq ?_
  refine wp_region_lit ?_
  refine ov hr (.pointer (some ⟨b9, 1, none⟩)) (by kernel_rfl) ?_; clear hr a; intro a hr
  refine op_val (wn rfl) rfl rfl hr (v := .slice ca1 p0.l.length cc2) (rl rfl (by kernel_rfl) (by kernel_rfl) (h.cell 1 rfl)) ?_; clear hr a; intro a hr
  refine ovs [9, 3] [.int .i64 ((p0.l.length : Nat) : Int), .int .i64 ((p0.l.length : Nat) : Int)] hr ⟨rfl, rfl⟩ (by kernel_rfl) ?_; clear hr a; intro a hr
  refine wpList_nil ?_
  refine then_normal ?_
  replace H := jd0 H; obtain ⟨o11, H, hK10⟩ := H
  refine cut_rule (β := Unit) (fun _ a w => .inl () = o11 ∧ ∃ j, Rep 150 (lk [(1, .pointer (some ⟨b9, 0, none⟩)), (3, .int .i64 ((p0.l.length : Nat) : Int))] j) a ∧ Fit z (sepL (ob139 b9 p0 ca1 cc2 ca3 cc4 ca5 cc6 ca7 cc8 :: ro2 ca1 cc2 p0.l :: ro2 ca3 cc4 p0.g1 :: ro2 ca5 cc6 p0.g2 :: ro2 ca7 cc8 p0.g3 :: L)) w) ?_ ?_
  ·
    refine wp_seq ?_
    refine wp_region_lit ?_
    refine ov hr (.pointer (some ⟨b9, 1, none⟩)) (by kernel_rfl) ?_; clear hr a; intro a hr
    refine op_val (wn rfl) rfl rfl hr (v := .slice ca1 p0.l.length cc2) (rl rfl (by kernel_rfl) (by kernel_rfl) (h.cell 1 rfl)) ?_; clear hr a; intro a hr
    refine ovs [12, 13] [.int .i64 ((p0.l.length : Nat) : Int), .pointer (some ⟨b9, 0, none⟩)] hr ⟨rfl, rfl⟩ (by kernel_rfl) ?_; clear hr a; intro a hr
    refine op_val (wn rfl) rfl rfl hr (v := .int .i64 p0.m) (rl rfl (by kernel_rfl) (by kernel_rfl) (h.cell 0 rfl)) ?_; clear hr a; intro a hr
    replace H := bd1 H; obtain ⟨r12, e13, H⟩ := H
    have hc := plunderlaw2_full_ok (va0 := ca1) (vc0 := cc2) (hv0 := (RdRow.of_row encZ_i64_ok (h.pick 1) (fun h => (h.pick 1)))) (H := e13) (h := h)
    refine op_call (wn rfl) rfl rfl hr (f := 110) (args := #[.slice ca1 p0.l.length cc2, .int .i64 ((p0.l.length : Nat) : Int), .int .i64 p0.m]) (by kernel_rfl) hc ?_; clear hc h
    rintro _ w ⟨rfl, h⟩; refine ⟨_, rfl, ?_⟩
    clear hr a; intro a hr
    refine ovs [16, 17] [.bool (!r12), .bool (!r12)] hr ⟨rfl, rfl⟩ (by kernel_rfl) ?_; clear hr a; intro a hr
    by_cases c14 : r12 = true
    ·
      replace H := ifT c14 H
      refine op_val ((wg hr rfl rfl rfl (b' := (!r12)) (by kernel_rfl)).trans (by rw [show (!r12) = false from (by rw [show r12 = true from (c14)]; rfl)]; rfl)) rfl rfl hr (v := .pointer (some ⟨b9, 2, none⟩)) (by kernel_rfl) ?_; clear hr a; intro a hr
      refine op_val ((wg hr rfl rfl rfl (b' := (!r12)) (by kernel_rfl)).trans (by rw [show (!r12) = false from (by rw [show r12 = true from (c14)]; rfl)]; rfl)) rfl rfl hr (v := .slice ca3 p0.g1.length cc4) (rl rfl (by kernel_rfl) (by kernel_rfl) (h.cell 2 rfl)) ?_; clear hr a; intro a hr
      refine op_val ((wg hr rfl rfl rfl (b' := (!r12)) (by kernel_rfl)).trans (by rw [show (!r12) = false from (by rw [show r12 = true from (c14)]; rfl)]; rfl)) rfl rfl hr (v := .int .i64 ((p0.l.length : Nat) : Int)) (by kernel_rfl) ?_; clear hr a; intro a hr
      refine op_val ((wg hr rfl rfl rfl (b' := (!r12)) (by kernel_rfl)).trans (by rw [show (!r12) = false from (by rw [show r12 = true from (c14)]; rfl)]; rfl)) rfl rfl hr (v := .pointer (some ⟨b9, 0, none⟩)) (by kernel_rfl) ?_; clear hr a; intro a hr
      refine op_val ((wg hr rfl rfl rfl (b' := (!r12)) (by kernel_rfl)).trans (by rw [show (!r12) = false from (by rw [show r12 = true from (c14)]; rfl)]; rfl)) rfl rfl hr (v := .int .i64 p0.m) (rl rfl (by kernel_rfl) (by kernel_rfl) (h.cell 0 rfl)) ?_; clear hr a; intro a hr
      replace H := bd1 H; obtain ⟨r15, e16, H⟩ := H
      have hc := plunderlaw2_full_ok (va0 := ca3) (vc0 := cc4) (hv0 := (RdRow.of_row encZ_i64_ok (h.pick 2) (fun h => (h.pick 2)))) (H := e16) (h := h)
      refine op_call ((wg hr rfl rfl rfl (b' := (!r12)) (by kernel_rfl)).trans (by rw [show (!r12) = false from (by rw [show r12 = true from (c14)]; rfl)]; rfl)) rfl rfl hr (f := 110) (args := #[.slice ca3 p0.g1.length cc4, .int .i64 ((p0.l.length : Nat) : Int), .int .i64 p0.m]) (by kernel_rfl) hc ?_; clear hc h
      rintro _ w ⟨rfl, h⟩; refine ⟨_, rfl, ?_⟩
      clear hr a; intro a hr
      refine op_val ((wg hr rfl rfl rfl (b' := (!r12)) (by kernel_rfl)).trans (by rw [show (!r12) = false from (by rw [show r12 = true from (c14)]; rfl)]; rfl)) rfl rfl hr (v := .bool (!r15)) (by kernel_rfl) ?_; clear hr a; intro a hr
      refine op_val (wn rfl) rfl rfl hr (v := .bool (!r15)) (rp_f (b := (!r12)) rfl (by kernel_rfl) (by rw [show r12 = true from (c14)]; rfl) (by kernel_rfl)) ?_; clear hr a; intro a hr
      refine ov hr (.bool (!r15)) (by kernel_rfl) ?_; clear hr a; intro a hr
      by_cases c17 : r15 = true
      ·
        replace H := ifT c17 H
        refine op_val ((wg hr rfl rfl rfl (b' := (!r15)) (by kernel_rfl)).trans (by rw [show (!r15) = false from (by rw [show r15 = true from (c17)]; rfl)]; rfl)) rfl rfl hr (v := .pointer (some ⟨b9, 3, none⟩)) (by kernel_rfl) ?_; clear hr a; intro a hr
        refine op_val ((wg hr rfl rfl rfl (b' := (!r15)) (by kernel_rfl)).trans (by rw [show (!r15) = false from (by rw [show r15 = true from (c17)]; rfl)]; rfl)) rfl rfl hr (v := .slice ca5 p0.g2.length cc6) (rl rfl (by kernel_rfl) (by kernel_rfl) (h.cell 3 rfl)) ?_; clear hr a; intro a hr
        refine op_val ((wg hr rfl rfl rfl (b' := (!r15)) (by kernel_rfl)).trans (by rw [show (!r15) = false from (by rw [show r15 = true from (c17)]; rfl)]; rfl)) rfl rfl hr (v := .int .i64 ((p0.l.length : Nat) : Int)) (by kernel_rfl) ?_; clear hr a; intro a hr
        refine op_val ((wg hr rfl rfl rfl (b' := (!r15)) (by kernel_rfl)).trans (by rw [show (!r15) = false from (by rw [show r15 = true from (c17)]; rfl)]; rfl)) rfl rfl hr (v := .pointer (some ⟨b9, 0, none⟩)) (by kernel_rfl) ?_; clear hr a; intro a hr
        refine op_val ((wg hr rfl rfl rfl (b' := (!r15)) (by kernel_rfl)).trans (by rw [show (!r15) = false from (by rw [show r15 = true from (c17)]; rfl)]; rfl)) rfl rfl hr (v := .int .i64 p0.m) (rl rfl (by kernel_rfl) (by kernel_rfl) (h.cell 0 rfl)) ?_; clear hr a; intro a hr
        replace H := bd1 H; obtain ⟨r18, e19, H⟩ := H
        have hc := plunderlaw2_full_ok (va0 := ca5) (vc0 := cc6) (hv0 := (RdRow.of_row encZ_i64_ok (h.pick 3) (fun h => (h.pick 3)))) (H := e19) (h := h)
        refine op_call ((wg hr rfl rfl rfl (b' := (!r15)) (by kernel_rfl)).trans (by rw [show (!r15) = false from (by rw [show r15 = true from (c17)]; rfl)]; rfl)) rfl rfl hr (f := 110) (args := #[.slice ca5 p0.g2.length cc6, .int .i64 ((p0.l.length : Nat) : Int), .int .i64 p0.m]) (by kernel_rfl) hc ?_; clear hc h
        rintro _ w ⟨rfl, h⟩; refine ⟨_, rfl, ?_⟩
        clear hr a; intro a hr
        refine op_val ((wg hr rfl rfl rfl (b' := (!r15)) (by kernel_rfl)).trans (by rw [show (!r15) = false from (by rw [show r15 = true from (c17)]; rfl)]; rfl)) rfl rfl hr (v := .bool (!r18)) (by kernel_rfl) ?_; clear hr a; intro a hr
        refine op_val (wn rfl) rfl rfl hr (v := .bool (!r18)) (rp_f (b := (!r15)) rfl (by kernel_rfl) (by rw [show r15 = true from (c17)]; rfl) (by kernel_rfl)) ?_; clear hr a; intro a hr
        refine ov hr (.bool (!r18)) (by kernel_rfl) ?_; clear hr a; intro a hr
        by_cases c20 : r18 = true
        ·
          replace H := ifT c20 H
          refine op_val ((wg hr rfl rfl rfl (b' := (!r18)) (by kernel_rfl)).trans (by rw [show (!r18) = false from (by rw [show r18 = true from (c20)]; rfl)]; rfl)) rfl rfl hr (v := .pointer (some ⟨b9, 4, none⟩)) (by kernel_rfl) ?_; clear hr a; intro a hr
          refine op_val ((wg hr rfl rfl rfl (b' := (!r18)) (by kernel_rfl)).trans (by rw [show (!r18) = false from (by rw [show r18 = true from (c20)]; rfl)]; rfl)) rfl rfl hr (v := .slice ca7 p0.g3.length cc8) (rl rfl (by kernel_rfl) (by kernel_rfl) (h.cell 4 rfl)) ?_; clear hr a; intro a hr
          refine op_val ((wg hr rfl rfl rfl (b' := (!r18)) (by kernel_rfl)).trans (by rw [show (!r18) = false from (by rw [show r18 = true from (c20)]; rfl)]; rfl)) rfl rfl hr (v := .int .i64 ((p0.l.length : Nat) : Int)) (by kernel_rfl) ?_; clear hr a; intro a hr
          refine op_val ((wg hr rfl rfl rfl (b' := (!r18)) (by kernel_rfl)).trans (by rw [show (!r18) = false from (by rw [show r18 = true from (c20)]; rfl)]; rfl)) rfl rfl hr (v := .pointer (some ⟨b9, 0, none⟩)) (by kernel_rfl) ?_; clear hr a; intro a hr
          refine op_val ((wg hr rfl rfl rfl (b' := (!r18)) (by kernel_rfl)).trans (by rw [show (!r18) = false from (by rw [show r18 = true from (c20)]; rfl)]; rfl)) rfl rfl hr (v := .int .i64 p0.m) (rl rfl (by kernel_rfl) (by kernel_rfl) (h.cell 0 rfl)) ?_; clear hr a; intro a hr
          replace H := bd1 H; obtain ⟨r21, e22, H⟩ := H
          have hc := plunderlaw2_full_ok (va0 := ca7) (vc0 := cc8) (hv0 := (RdRow.of_row encZ_i64_ok (h.pick 4) (fun h => (h.pick 4)))) (H := e22) (h := h)
          refine op_call ((wg hr rfl rfl rfl (b' := (!r18)) (by kernel_rfl)).trans (by rw [show (!r18) = false from (by rw [show r18 = true from (c20)]; rfl)]; rfl)) rfl rfl hr (f := 110) (args := #[.slice ca7 p0.g3.length cc8, .int .i64 ((p0.l.length : Nat) : Int), .int .i64 p0.m]) (by kernel_rfl) hc ?_; clear hc h
          rintro _ w ⟨rfl, h⟩; refine ⟨_, rfl, ?_⟩
          clear hr a; intro a hr
          refine op_val ((wg hr rfl rfl rfl (b' := (!r18)) (by kernel_rfl)).trans (by rw [show (!r18) = false from (by rw [show r18 = true from (c20)]; rfl)]; rfl)) rfl rfl hr (v := .bool (!r21)) (by kernel_rfl) ?_; clear hr a; intro a hr
          refine op_val (wn rfl) rfl rfl hr (v := .bool (!r21)) (rp_f (b := (!r18)) rfl (by kernel_rfl) (by rw [show r18 = true from (c20)]; rfl) (by kernel_rfl)) ?_; clear hr a; intro a hr
          refine wpList_nil ?_
          refine then_normal ?_
          by_cases c23 : r21 = true
          ·
            replace H := ifT c23 H
            refine cond_ff hr (b := (!r21)) (by rw [show r21 = true from (c23)]; rfl) ?_
            refine wp_skip ?_
            refine then_normal ?_
            replace hr := hr.fold2 [(1, .pointer (some ⟨b9, 0, none⟩)), (3, .int .i64 ((p0.l.length : Nat) : Int))] (by kernel_rfl); obtain ⟨j, hr⟩ := hr
            exact ⟨(), sinj H, j, hr, h⟩
          ·
            replace H := ifF c23 H
            refine cond_tt hr (b := (!r21)) (by rw [show r21 = false from (bF c23)]; rfl) ?_
            refine wp_seq ?_
            refine wp_region_lit ?_
            refine ov hr (.bool false) (by kernel_rfl) ?_; clear hr a; intro a hr
            refine wpList_nil ?_
            refine then_normal ?_
            refine wp_ret ?_
            refine then_ret ?_
            refine end_ret1 (v := .bool false) rfl hr (by kernel_rfl) ?_
            replace H := jx0 H hK10
            replace h : Fit z (sepL (ro2 ca1 cc2 p0.l :: ro2 ca3 cc4 p0.g1 :: ro2 ca5 cc6 p0.g2 :: ro2 ca7 cc8 p0.g3 :: L)) _ := h.sel 5 [1, 2, 3, 4] (by kernel_rfl) (by kernel_rfl)
            replace H := ej1 H; subst H
            exact ⟨rfl, h⟩
        ·
          replace H := ifF c20 H
          refine op_off ((wg hr rfl rfl rfl (b' := (!r18)) (by kernel_rfl)).trans (by rw [show (!r18) = true from (by rw [show r18 = false from (bF c20)]; rfl)]; rfl)) rfl rfl hr ?_; clear hr a; intro a hr
          refine op_off ((wg hr rfl rfl rfl (b' := (!r18)) (by kernel_rfl)).trans (by rw [show (!r18) = true from (by rw [show r18 = false from (bF c20)]; rfl)]; rfl)) rfl rfl hr ?_; clear hr a; intro a hr
          refine op_off ((wg hr rfl rfl rfl (b' := (!r18)) (by kernel_rfl)).trans (by rw [show (!r18) = true from (by rw [show r18 = false from (bF c20)]; rfl)]; rfl)) rfl rfl hr ?_; clear hr a; intro a hr
          refine op_off ((wg hr rfl rfl rfl (b' := (!r18)) (by kernel_rfl)).trans (by rw [show (!r18) = true from (by rw [show r18 = false from (bF c20)]; rfl)]; rfl)) rfl rfl hr ?_; clear hr a; intro a hr
          refine op_off ((wg hr rfl rfl rfl (b' := (!r18)) (by kernel_rfl)).trans (by rw [show (!r18) = true from (by rw [show r18 = false from (bF c20)]; rfl)]; rfl)) rfl rfl hr ?_; clear hr a; intro a hr
          refine op_off ((wg hr rfl rfl rfl (b' := (!r18)) (by kernel_rfl)).trans (by rw [show (!r18) = true from (by rw [show r18 = false from (bF c20)]; rfl)]; rfl)) rfl rfl hr ?_; clear hr a; intro a hr
          refine op_off ((wg hr rfl rfl rfl (b' := (!r18)) (by kernel_rfl)).trans (by rw [show (!r18) = true from (by rw [show r18 = false from (bF c20)]; rfl)]; rfl)) rfl rfl hr ?_; clear hr a; intro a hr
          refine op_val (wn rfl) rfl rfl hr (v := .bool true) (rp_t (b := (!r18)) rfl (by kernel_rfl) (by rw [show r18 = false from (bF c20)]; rfl) (by kernel_rfl)) ?_; clear hr a; intro a hr
          refine wpList_nil ?_
          refine then_normal ?_
          refine cond_tt hr (b := true) rfl ?_
          refine wp_seq ?_
          refine wp_region_lit ?_
          refine ov hr (.bool false) (by kernel_rfl) ?_; clear hr a; intro a hr
          refine wpList_nil ?_
          refine then_normal ?_
          refine wp_ret ?_
          refine then_ret ?_
          refine end_ret1 (v := .bool false) rfl hr (by kernel_rfl) ?_
          replace H := jx0 H hK10
          replace h : Fit z (sepL (ro2 ca1 cc2 p0.l :: ro2 ca3 cc4 p0.g1 :: ro2 ca5 cc6 p0.g2 :: ro2 ca7 cc8 p0.g3 :: L)) _ := h.sel 5 [1, 2, 3, 4] (by kernel_rfl) (by kernel_rfl)
          replace H := ej1 H; subst H
          exact ⟨rfl, h⟩
      ·
        replace H := ifF c17 H
        refine op_off ((wg hr rfl rfl rfl (b' := (!r15)) (by kernel_rfl)).trans (by rw [show (!r15) = true from (by rw [show r15 = false from (bF c17)]; rfl)]; rfl)) rfl rfl hr ?_; clear hr a; intro a hr
        refine op_off ((wg hr rfl rfl rfl (b' := (!r15)) (by kernel_rfl)).trans (by rw [show (!r15) = true from (by rw [show r15 = false from (bF c17)]; rfl)]; rfl)) rfl rfl hr ?_; clear hr a; intro a hr
        refine op_off ((wg hr rfl rfl rfl (b' := (!r15)) (by kernel_rfl)).trans (by rw [show (!r15) = true from (by rw [show r15 = false from (bF c17)]; rfl)]; rfl)) rfl rfl hr ?_; clear hr a; intro a hr
        refine op_off ((wg hr rfl rfl rfl (b' := (!r15)) (by kernel_rfl)).trans (by rw [show (!r15) = true from (by rw [show r15 = false from (bF c17)]; rfl)]; rfl)) rfl rfl hr ?_; clear hr a; intro a hr
        refine op_off ((wg hr rfl rfl rfl (b' := (!r15)) (by kernel_rfl)).trans (by rw [show (!r15) = true from (by rw [show r15 = false from (bF c17)]; rfl)]; rfl)) rfl rfl hr ?_; clear hr a; intro a hr
        refine op_off ((wg hr rfl rfl rfl (b' := (!r15)) (by kernel_rfl)).trans (by rw [show (!r15) = true from (by rw [show r15 = false from (bF c17)]; rfl)]; rfl)) rfl rfl hr ?_; clear hr a; intro a hr
        refine op_off ((wg hr rfl rfl rfl (b' := (!r15)) (by kernel_rfl)).trans (by rw [show (!r15) = true from (by rw [show r15 = false from (bF c17)]; rfl)]; rfl)) rfl rfl hr ?_; clear hr a; intro a hr
        refine op_val (wn rfl) rfl rfl hr (v := .bool true) (rp_t (b := (!r15)) rfl (by kernel_rfl) (by rw [show r15 = false from (bF c17)]; rfl) (by kernel_rfl)) ?_; clear hr a; intro a hr
        refine ov hr (.bool true) (by kernel_rfl) ?_; clear hr a; intro a hr
        refine op_off ((wg hr rfl rfl rfl (b' := true) (by kernel_rfl)).trans rfl) rfl rfl hr ?_; clear hr a; intro a hr
        refine op_off ((wg hr rfl rfl rfl (b' := true) (by kernel_rfl)).trans rfl) rfl rfl hr ?_; clear hr a; intro a hr
        refine op_off ((wg hr rfl rfl rfl (b' := true) (by kernel_rfl)).trans rfl) rfl rfl hr ?_; clear hr a; intro a hr
        refine op_off ((wg hr rfl rfl rfl (b' := true) (by kernel_rfl)).trans rfl) rfl rfl hr ?_; clear hr a; intro a hr
        refine op_off ((wg hr rfl rfl rfl (b' := true) (by kernel_rfl)).trans rfl) rfl rfl hr ?_; clear hr a; intro a hr
        refine op_off ((wg hr rfl rfl rfl (b' := true) (by kernel_rfl)).trans rfl) rfl rfl hr ?_; clear hr a; intro a hr
        refine op_off ((wg hr rfl rfl rfl (b' := true) (by kernel_rfl)).trans rfl) rfl rfl hr ?_; clear hr a; intro a hr
        refine ov hr (.bool true) (by kernel_rfl) ?_; clear hr a; intro a hr
        refine wpList_nil ?_
        refine then_normal ?_
        refine cond_tt hr (b := true) rfl ?_
        refine wp_seq ?_
        refine wp_region_lit ?_
        refine ov hr (.bool false) (by kernel_rfl) ?_; clear hr a; intro a hr
        refine wpList_nil ?_
        refine then_normal ?_
        refine wp_ret ?_
        refine then_ret ?_
        refine end_ret1 (v := .bool false) rfl hr (by kernel_rfl) ?_
        replace H := jx0 H hK10
        replace h : Fit z (sepL (ro2 ca1 cc2 p0.l :: ro2 ca3 cc4 p0.g1 :: ro2 ca5 cc6 p0.g2 :: ro2 ca7 cc8 p0.g3 :: L)) _ := h.sel 5 [1, 2, 3, 4] (by kernel_rfl) (by kernel_rfl)
        replace H := ej1 H; subst H
        exact ⟨rfl, h⟩
    ·
      replace H := ifF c14 H
      refine op_off ((wg hr rfl rfl rfl (b' := (!r12)) (by kernel_rfl)).trans (by rw [show (!r12) = true from (by rw [show r12 = false from (bF c14)]; rfl)]; rfl)) rfl rfl hr ?_; clear hr a; intro a hr
      refine op_off ((wg hr rfl rfl rfl (b' := (!r12)) (by kernel_rfl)).trans (by rw [show (!r12) = true from (by rw [show r12 = false from (bF c14)]; rfl)]; rfl)) rfl rfl hr ?_; clear hr a; intro a hr
      refine op_off ((wg hr rfl rfl rfl (b' := (!r12)) (by kernel_rfl)).trans (by rw [show (!r12) = true from (by rw [show r12 = false from (bF c14)]; rfl)]; rfl)) rfl rfl hr ?_; clear hr a; intro a hr
      refine op_off ((wg hr rfl rfl rfl (b' := (!r12)) (by kernel_rfl)).trans (by rw [show (!r12) = true from (by rw [show r12 = false from (bF c14)]; rfl)]; rfl)) rfl rfl hr ?_; clear hr a; intro a hr
      refine op_off ((wg hr rfl rfl rfl (b' := (!r12)) (by kernel_rfl)).trans (by rw [show (!r12) = true from (by rw [show r12 = false from (bF c14)]; rfl)]; rfl)) rfl rfl hr ?_; clear hr a; intro a hr
      refine op_off ((wg hr rfl rfl rfl (b' := (!r12)) (by kernel_rfl)).trans (by rw [show (!r12) = true from (by rw [show r12 = false from (bF c14)]; rfl)]; rfl)) rfl rfl hr ?_; clear hr a; intro a hr
      refine op_off ((wg hr rfl rfl rfl (b' := (!r12)) (by kernel_rfl)).trans (by rw [show (!r12) = true from (by rw [show r12 = false from (bF c14)]; rfl)]; rfl)) rfl rfl hr ?_; clear hr a; intro a hr
      refine op_val (wn rfl) rfl rfl hr (v := .bool true) (rp_t (b := (!r12)) rfl (by kernel_rfl) (by rw [show r12 = false from (bF c14)]; rfl) (by kernel_rfl)) ?_; clear hr a; intro a hr
      refine ov hr (.bool true) (by kernel_rfl) ?_; clear hr a; intro a hr
      refine op_off ((wg hr rfl rfl rfl (b' := true) (by kernel_rfl)).trans rfl) rfl rfl hr ?_; clear hr a; intro a hr
      refine op_off ((wg hr rfl rfl rfl (b' := true) (by kernel_rfl)).trans rfl) rfl rfl hr ?_; clear hr a; intro a hr
      refine op_off ((wg hr rfl rfl rfl (b' := true) (by kernel_rfl)).trans rfl) rfl rfl hr ?_; clear hr a; intro a hr
      refine op_off ((wg hr rfl rfl rfl (b' := true) (by kernel_rfl)).trans rfl) rfl rfl hr ?_; clear hr a; intro a hr
      refine op_off ((wg hr rfl rfl rfl (b' := true) (by kernel_rfl)).trans rfl) rfl rfl hr ?_; clear hr a; intro a hr
      refine op_off ((wg hr rfl rfl rfl (b' := true) (by kernel_rfl)).trans rfl) rfl rfl hr ?_; clear hr a; intro a hr
      refine op_off ((wg hr rfl rfl rfl (b' := true) (by kernel_rfl)).trans rfl) rfl rfl hr ?_; clear hr a; intro a hr
      refine ovs [34, 35] [.bool true, .bool true] hr ⟨rfl, rfl⟩ (by kernel_rfl) ?_; clear hr a; intro a hr
      refine op_off ((wg hr rfl rfl rfl (b' := true) (by kernel_rfl)).trans rfl) rfl rfl hr ?_; clear hr a; intro a hr
      refine op_off ((wg hr rfl rfl rfl (b' := true) (by kernel_rfl)).trans rfl) rfl rfl hr ?_; clear hr a; intro a hr
      refine op_off ((wg hr rfl rfl rfl (b' := true) (by kernel_rfl)).trans rfl) rfl rfl hr ?_; clear hr a; intro a hr
      refine op_off ((wg hr rfl rfl rfl (b' := true) (by kernel_rfl)).trans rfl) rfl rfl hr ?_; clear hr a; intro a hr
      refine op_off ((wg hr rfl rfl rfl (b' := true) (by kernel_rfl)).trans rfl) rfl rfl hr ?_; clear hr a; intro a hr
      refine op_off ((wg hr rfl rfl rfl (b' := true) (by kernel_rfl)).trans rfl) rfl rfl hr ?_; clear hr a; intro a hr
      refine op_off ((wg hr rfl rfl rfl (b' := true) (by kernel_rfl)).trans rfl) rfl rfl hr ?_; clear hr a; intro a hr
      refine ov hr (.bool true) (by kernel_rfl) ?_; clear hr a; intro a hr
      refine wpList_nil ?_
      refine then_normal ?_
      refine cond_tt hr (b := true) rfl ?_
      refine wp_seq ?_
      refine wp_region_lit ?_
      refine ov hr (.bool false) (by kernel_rfl) ?_; clear hr a; intro a hr
      refine wpList_nil ?_
      refine then_normal ?_
      refine wp_ret ?_
      refine then_ret ?_
      refine end_ret1 (v := .bool false) rfl hr (by kernel_rfl) ?_
      replace H := jx0 H hK10
      replace h : Fit z (sepL (ro2 ca1 cc2 p0.l :: ro2 ca3 cc4 p0.g1 :: ro2 ca5 cc6 p0.g2 :: ro2 ca7 cc8 p0.g3 :: L)) _ := h.sel 5 [1, 2, 3, 4] (by kernel_rfl) (by kernel_rfl)
      replace H := ej1 H; subst H
      exact ⟨rfl, h⟩
  clear h hr a; rintro _ a w ⟨rfl, j, hr, h⟩
  replace H := jk0 hK10
  replace H := jd0 H; obtain ⟨o25, H, hK24⟩ := H
  refine cut_rule (β := Unit) (fun _ a w => .inl () = o25 ∧ ∃ j, Rep 150 (lk [(1, .pointer (some ⟨b9, 0, none⟩)), (3, .int .i64 ((p0.l.length : Nat) : Int))] j) a ∧ Fit z (sepL (ob139 b9 p0 ca1 cc2 ca3 cc4 ca5 cc6 ca7 cc8 :: ro2 ca1 cc2 p0.l :: ro2 ca3 cc4 p0.g1 :: ro2 ca5 cc6 p0.g2 :: ro2 ca7 cc8 p0.g3 :: L)) w) ?_ ?_
  ·
    refine wp_seq ?_
    refine wp_region_lit ?_
    refine ov hr (.pointer (some ⟨b9, 2, none⟩)) (by kernel_rfl) ?_; clear hr a; intro a hr
    refine op_val (wn rfl) rfl rfl hr (v := .slice ca3 p0.g1.length cc4) (rl rfl (by kernel_rfl) (by kernel_rfl) (h.cell 2 rfl)) ?_; clear hr a; intro a hr
    refine ovs [46, 47, 48, 49, 50] [.int .i64 ((p0.g1.length : Nat) : Int), .int .i64 ((p0.l.length : Nat) : Int), .int .i64 (wi (((p0.l.length : Nat) : Int) + (1 : Int))), .bool (((p0.g1.length : Nat) : Int) != (wi (((p0.l.length : Nat) : Int) + (1 : Int)))), .bool (((p0.g1.length : Nat) : Int) != (wi (((p0.l.length : Nat) : Int) + (1 : Int))))] hr ⟨rfl, rfl⟩ (by kernel_rfl) ?_; clear hr a; intro a hr
    by_cases c26 : ((p0.g1.length : Nat) : Int) = (wi (((p0.l.length : Nat) : Int) + (1 : Int)))
    ·
      replace H := ifT c26 H
      refine op_val ((wg hr rfl rfl rfl (b' := (((p0.g1.length : Nat) : Int) != (wi (((p0.l.length : Nat) : Int) + (1 : Int))))) (by kernel_rfl)).trans (by rw [show (((p0.g1.length : Nat) : Int) != (wi (((p0.l.length : Nat) : Int) + (1 : Int)))) = false from (bne_eq_false_iff_eq.mpr c26)]; rfl)) rfl rfl hr (v := .pointer (some ⟨b9, 3, none⟩)) (by kernel_rfl) ?_; clear hr a; intro a hr
      refine op_val ((wg hr rfl rfl rfl (b' := (((p0.g1.length : Nat) : Int) != (wi (((p0.l.length : Nat) : Int) + (1 : Int))))) (by kernel_rfl)).trans (by rw [show (((p0.g1.length : Nat) : Int) != (wi (((p0.l.length : Nat) : Int) + (1 : Int)))) = false from (bne_eq_false_iff_eq.mpr c26)]; rfl)) rfl rfl hr (v := .slice ca5 p0.g2.length cc6) (rl rfl (by kernel_rfl) (by kernel_rfl) (h.cell 3 rfl)) ?_; clear hr a; intro a hr
      refine op_val ((wg hr rfl rfl rfl (b' := (((p0.g1.length : Nat) : Int) != (wi (((p0.l.length : Nat) : Int) + (1 : Int))))) (by kernel_rfl)).trans (by rw [show (((p0.g1.length : Nat) : Int) != (wi (((p0.l.length : Nat) : Int) + (1 : Int)))) = false from (bne_eq_false_iff_eq.mpr c26)]; rfl)) rfl rfl hr (v := .int .i64 ((p0.g2.length : Nat) : Int)) (by kernel_rfl) ?_; clear hr a; intro a hr
      refine op_val ((wg hr rfl rfl rfl (b' := (((p0.g1.length : Nat) : Int) != (wi (((p0.l.length : Nat) : Int) + (1 : Int))))) (by kernel_rfl)).trans (by rw [show (((p0.g1.length : Nat) : Int) != (wi (((p0.l.length : Nat) : Int) + (1 : Int)))) = false from (bne_eq_false_iff_eq.mpr c26)]; rfl)) rfl rfl hr (v := .int .i64 ((p0.l.length : Nat) : Int)) (by kernel_rfl) ?_; clear hr a; intro a hr
      refine op_val ((wg hr rfl rfl rfl (b' := (((p0.g1.length : Nat) : Int) != (wi (((p0.l.length : Nat) : Int) + (1 : Int))))) (by kernel_rfl)).trans (by rw [show (((p0.g1.length : Nat) : Int) != (wi (((p0.l.length : Nat) : Int) + (1 : Int)))) = false from (bne_eq_false_iff_eq.mpr c26)]; rfl)) rfl rfl hr (v := .int .i64 (wi (((p0.l.length : Nat) : Int) + (2 : Int)))) (by kernel_rfl) ?_; clear hr a; intro a hr
      refine op_val ((wg hr rfl rfl rfl (b' := (((p0.g1.length : Nat) : Int) != (wi (((p0.l.length : Nat) : Int) + (1 : Int))))) (by kernel_rfl)).trans (by rw [show (((p0.g1.length : Nat) : Int) != (wi (((p0.l.length : Nat) : Int) + (1 : Int)))) = false from (bne_eq_false_iff_eq.mpr c26)]; rfl)) rfl rfl hr (v := .bool (((p0.g2.length : Nat) : Int) != (wi (((p0.l.length : Nat) : Int) + (2 : Int))))) (by kernel_rfl) ?_; clear hr a; intro a hr
      refine op_val (wn rfl) rfl rfl hr (v := .bool (((p0.g2.length : Nat) : Int) != (wi (((p0.l.length : Nat) : Int) + (2 : Int))))) (rp_f (b := (((p0.g1.length : Nat) : Int) != (wi (((p0.l.length : Nat) : Int) + (1 : Int))))) rfl (by kernel_rfl) (bne_eq_false_iff_eq.mpr c26) (by kernel_rfl)) ?_; clear hr a; intro a hr
      refine ov hr (.bool (((p0.g2.length : Nat) : Int) != (wi (((p0.l.length : Nat) : Int) + (2 : Int))))) (by kernel_rfl) ?_; clear hr a; intro a hr
      by_cases c27 : ((p0.g2.length : Nat) : Int) = (wi (((p0.l.length : Nat) : Int) + (2 : Int)))
      ·
        replace H := ifT c27 H
        refine op_val ((wg hr rfl rfl rfl (b' := (((p0.g2.length : Nat) : Int) != (wi (((p0.l.length : Nat) : Int) + (2 : Int))))) (by kernel_rfl)).trans (by rw [show (((p0.g2.length : Nat) : Int) != (wi (((p0.l.length : Nat) : Int) + (2 : Int)))) = false from (bne_eq_false_iff_eq.mpr c27)]; rfl)) rfl rfl hr (v := .pointer (some ⟨b9, 4, none⟩)) (by kernel_rfl) ?_; clear hr a; intro a hr
        refine op_val ((wg hr rfl rfl rfl (b' := (((p0.g2.length : Nat) : Int) != (wi (((p0.l.length : Nat) : Int) + (2 : Int))))) (by kernel_rfl)).trans (by rw [show (((p0.g2.length : Nat) : Int) != (wi (((p0.l.length : Nat) : Int) + (2 : Int)))) = false from (bne_eq_false_iff_eq.mpr c27)]; rfl)) rfl rfl hr (v := .slice ca7 p0.g3.length cc8) (rl rfl (by kernel_rfl) (by kernel_rfl) (h.cell 4 rfl)) ?_; clear hr a; intro a hr
        refine op_val ((wg hr rfl rfl rfl (b' := (((p0.g2.length : Nat) : Int) != (wi (((p0.l.length : Nat) : Int) + (2 : Int))))) (by kernel_rfl)).trans (by rw [show (((p0.g2.length : Nat) : Int) != (wi (((p0.l.length : Nat) : Int) + (2 : Int)))) = false from (bne_eq_false_iff_eq.mpr c27)]; rfl)) rfl rfl hr (v := .int .i64 ((p0.g3.length : Nat) : Int)) (by kernel_rfl) ?_; clear hr a; intro a hr
        refine op_val ((wg hr rfl rfl rfl (b' := (((p0.g2.length : Nat) : Int) != (wi (((p0.l.length : Nat) : Int) + (2 : Int))))) (by kernel_rfl)).trans (by rw [show (((p0.g2.length : Nat) : Int) != (wi (((p0.l.length : Nat) : Int) + (2 : Int)))) = false from (bne_eq_false_iff_eq.mpr c27)]; rfl)) rfl rfl hr (v := .int .i64 ((p0.l.length : Nat) : Int)) (by kernel_rfl) ?_; clear hr a; intro a hr
        refine op_val ((wg hr rfl rfl rfl (b' := (((p0.g2.length : Nat) : Int) != (wi (((p0.l.length : Nat) : Int) + (2 : Int))))) (by kernel_rfl)).trans (by rw [show (((p0.g2.length : Nat) : Int) != (wi (((p0.l.length : Nat) : Int) + (2 : Int)))) = false from (bne_eq_false_iff_eq.mpr c27)]; rfl)) rfl rfl hr (v := .int .i64 (wi (((p0.l.length : Nat) : Int) + (3 : Int)))) (by kernel_rfl) ?_; clear hr a; intro a hr
        refine op_val ((wg hr rfl rfl rfl (b' := (((p0.g2.length : Nat) : Int) != (wi (((p0.l.length : Nat) : Int) + (2 : Int))))) (by kernel_rfl)).trans (by rw [show (((p0.g2.length : Nat) : Int) != (wi (((p0.l.length : Nat) : Int) + (2 : Int)))) = false from (bne_eq_false_iff_eq.mpr c27)]; rfl)) rfl rfl hr (v := .bool (((p0.g3.length : Nat) : Int) != (wi (((p0.l.length : Nat) : Int) + (3 : Int))))) (by kernel_rfl) ?_; clear hr a; intro a hr
        refine op_val (wn rfl) rfl rfl hr (v := .bool (((p0.g3.length : Nat) : Int) != (wi (((p0.l.length : Nat) : Int) + (3 : Int))))) (rp_f (b := (((p0.g2.length : Nat) : Int) != (wi (((p0.l.length : Nat) : Int) + (2 : Int))))) rfl (by kernel_rfl) (bne_eq_false_iff_eq.mpr c27) (by kernel_rfl)) ?_; clear hr a; intro a hr
        refine wpList_nil ?_
        refine then_normal ?_
        by_cases c28 : ((p0.g3.length : Nat) : Int) = (wi (((p0.l.length : Nat) : Int) + (3 : Int)))
        ·
          replace H := ifT c28 H
          refine cond_ff hr (b := (((p0.g3.length : Nat) : Int) != (wi (((p0.l.length : Nat) : Int) + (3 : Int))))) (bne_eq_false_iff_eq.mpr c28) ?_
          refine wp_skip ?_
          refine then_normal ?_
          replace hr := hr.fold2 [(1, .pointer (some ⟨b9, 0, none⟩)), (3, .int .i64 ((p0.l.length : Nat) : Int))] (by kernel_rfl); obtain ⟨j, hr⟩ := hr
          exact ⟨(), sinj H, j, hr, h⟩
        ·
          replace H := ifF c28 H
          refine cond_tt hr (b := (((p0.g3.length : Nat) : Int) != (wi (((p0.l.length : Nat) : Int) + (3 : Int))))) (bne_iff_ne.mpr c28) ?_
          refine wp_seq ?_
          refine wp_region_lit ?_
          refine ov hr (.bool false) (by kernel_rfl) ?_; clear hr a; intro a hr
          refine wpList_nil ?_
          refine then_normal ?_
          refine wp_ret ?_
          refine then_ret ?_
          refine end_ret1 (v := .bool false) rfl hr (by kernel_rfl) ?_
          replace H := jx0 H hK24
          replace h : Fit z (sepL (ro2 ca1 cc2 p0.l :: ro2 ca3 cc4 p0.g1 :: ro2 ca5 cc6 p0.g2 :: ro2 ca7 cc8 p0.g3 :: L)) _ := h.sel 5 [1, 2, 3, 4] (by kernel_rfl) (by kernel_rfl)
          replace H := ej1 H; subst H
          exact ⟨rfl, h⟩
      ·
        replace H := ifF c27 H
        refine op_off ((wg hr rfl rfl rfl (b' := (((p0.g2.length : Nat) : Int) != (wi (((p0.l.length : Nat) : Int) + (2 : Int))))) (by kernel_rfl)).trans (by rw [show (((p0.g2.length : Nat) : Int) != (wi (((p0.l.length : Nat) : Int) + (2 : Int)))) = true from (bne_iff_ne.mpr c27)]; rfl)) rfl rfl hr ?_; clear hr a; intro a hr
        refine op_off ((wg hr rfl rfl rfl (b' := (((p0.g2.length : Nat) : Int) != (wi (((p0.l.length : Nat) : Int) + (2 : Int))))) (by kernel_rfl)).trans (by rw [show (((p0.g2.length : Nat) : Int) != (wi (((p0.l.length : Nat) : Int) + (2 : Int)))) = true from (bne_iff_ne.mpr c27)]; rfl)) rfl rfl hr ?_; clear hr a; intro a hr
        refine op_off ((wg hr rfl rfl rfl (b' := (((p0.g2.length : Nat) : Int) != (wi (((p0.l.length : Nat) : Int) + (2 : Int))))) (by kernel_rfl)).trans (by rw [show (((p0.g2.length : Nat) : Int) != (wi (((p0.l.length : Nat) : Int) + (2 : Int)))) = true from (bne_iff_ne.mpr c27)]; rfl)) rfl rfl hr ?_; clear hr a; intro a hr
        refine op_off ((wg hr rfl rfl rfl (b' := (((p0.g2.length : Nat) : Int) != (wi (((p0.l.length : Nat) : Int) + (2 : Int))))) (by kernel_rfl)).trans (by rw [show (((p0.g2.length : Nat) : Int) != (wi (((p0.l.length : Nat) : Int) + (2 : Int)))) = true from (bne_iff_ne.mpr c27)]; rfl)) rfl rfl hr ?_; clear hr a; intro a hr
        refine op_off ((wg hr rfl rfl rfl (b' := (((p0.g2.length : Nat) : Int) != (wi (((p0.l.length : Nat) : Int) + (2 : Int))))) (by kernel_rfl)).trans (by rw [show (((p0.g2.length : Nat) : Int) != (wi (((p0.l.length : Nat) : Int) + (2 : Int)))) = true from (bne_iff_ne.mpr c27)]; rfl)) rfl rfl hr ?_; clear hr a; intro a hr
        refine op_off ((wg hr rfl rfl rfl (b' := (((p0.g2.length : Nat) : Int) != (wi (((p0.l.length : Nat) : Int) + (2 : Int))))) (by kernel_rfl)).trans (by rw [show (((p0.g2.length : Nat) : Int) != (wi (((p0.l.length : Nat) : Int) + (2 : Int)))) = true from (bne_iff_ne.mpr c27)]; rfl)) rfl rfl hr ?_; clear hr a; intro a hr
        refine op_val (wn rfl) rfl rfl hr (v := .bool true) (rp_t (b := (((p0.g2.length : Nat) : Int) != (wi (((p0.l.length : Nat) : Int) + (2 : Int))))) rfl (by kernel_rfl) (bne_iff_ne.mpr c27) (by kernel_rfl)) ?_; clear hr a; intro a hr
        refine wpList_nil ?_
        refine then_normal ?_
        refine cond_tt hr (b := true) rfl ?_
        refine wp_seq ?_
        refine wp_region_lit ?_
        refine ov hr (.bool false) (by kernel_rfl) ?_; clear hr a; intro a hr
        refine wpList_nil ?_
        refine then_normal ?_
        refine wp_ret ?_
        refine then_ret ?_
        refine end_ret1 (v := .bool false) rfl hr (by kernel_rfl) ?_
        replace H := jx0 H hK24
        replace h : Fit z (sepL (ro2 ca1 cc2 p0.l :: ro2 ca3 cc4 p0.g1 :: ro2 ca5 cc6 p0.g2 :: ro2 ca7 cc8 p0.g3 :: L)) _ := h.sel 5 [1, 2, 3, 4] (by kernel_rfl) (by kernel_rfl)
        replace H := ej1 H; subst H
        exact ⟨rfl, h⟩
    ·
      replace H := ifF c26 H
      refine op_off ((wg hr rfl rfl rfl (b' := (((p0.g1.length : Nat) : Int) != (wi (((p0.l.length : Nat) : Int) + (1 : Int))))) (by kernel_rfl)).trans (by rw [show (((p0.g1.length : Nat) : Int) != (wi (((p0.l.length : Nat) : Int) + (1 : Int)))) = true from (bne_iff_ne.mpr c26)]; rfl)) rfl rfl hr ?_; clear hr a; intro a hr
      refine op_off ((wg hr rfl rfl rfl (b' := (((p0.g1.length : Nat) : Int) != (wi (((p0.l.length : Nat) : Int) + (1 : Int))))) (by kernel_rfl)).trans (by rw [show (((p0.g1.length : Nat) : Int) != (wi (((p0.l.length : Nat) : Int) + (1 : Int)))) = true from (bne_iff_ne.mpr c26)]; rfl)) rfl rfl hr ?_; clear hr a; intro a hr
      refine op_off ((wg hr rfl rfl rfl (b' := (((p0.g1.length : Nat) : Int) != (wi (((p0.l.length : Nat) : Int) + (1 : Int))))) (by kernel_rfl)).trans (by rw [show (((p0.g1.length : Nat) : Int) != (wi (((p0.l.length : Nat) : Int) + (1 : Int)))) = true from (bne_iff_ne.mpr c26)]; rfl)) rfl rfl hr ?_; clear hr a; intro a hr
      refine op_off ((wg hr rfl rfl rfl (b' := (((p0.g1.length : Nat) : Int) != (wi (((p0.l.length : Nat) : Int) + (1 : Int))))) (by kernel_rfl)).trans (by rw [show (((p0.g1.length : Nat) : Int) != (wi (((p0.l.length : Nat) : Int) + (1 : Int)))) = true from (bne_iff_ne.mpr c26)]; rfl)) rfl rfl hr ?_; clear hr a; intro a hr
      refine op_off ((wg hr rfl rfl rfl (b' := (((p0.g1.length : Nat) : Int) != (wi (((p0.l.length : Nat) : Int) + (1 : Int))))) (by kernel_rfl)).trans (by rw [show (((p0.g1.length : Nat) : Int) != (wi (((p0.l.length : Nat) : Int) + (1 : Int)))) = true from (bne_iff_ne.mpr c26)]; rfl)) rfl rfl hr ?_; clear hr a; intro a hr
      refine op_off ((wg hr rfl rfl rfl (b' := (((p0.g1.length : Nat) : Int) != (wi (((p0.l.length : Nat) : Int) + (1 : Int))))) (by kernel_rfl)).trans (by rw [show (((p0.g1.length : Nat) : Int) != (wi (((p0.l.length : Nat) : Int) + (1 : Int)))) = true from (bne_iff_ne.mpr c26)]; rfl)) rfl rfl hr ?_; clear hr a; intro a hr
      refine op_val (wn rfl) rfl rfl hr (v := .bool true) (rp_t (b := (((p0.g1.length : Nat) : Int) != (wi (((p0.l.length : Nat) : Int) + (1 : Int))))) rfl (by kernel_rfl) (bne_iff_ne.mpr c26) (by kernel_rfl)) ?_; clear hr a; intro a hr
      refine ov hr (.bool true) (by kernel_rfl) ?_; clear hr a; intro a hr
      refine op_off ((wg hr rfl rfl rfl (b' := true) (by kernel_rfl)).trans rfl) rfl rfl hr ?_; clear hr a; intro a hr
      refine op_off ((wg hr rfl rfl rfl (b' := true) (by kernel_rfl)).trans rfl) rfl rfl hr ?_; clear hr a; intro a hr
      refine op_off ((wg hr rfl rfl rfl (b' := true) (by kernel_rfl)).trans rfl) rfl rfl hr ?_; clear hr a; intro a hr
      refine op_off ((wg hr rfl rfl rfl (b' := true) (by kernel_rfl)).trans rfl) rfl rfl hr ?_; clear hr a; intro a hr
      refine op_off ((wg hr rfl rfl rfl (b' := true) (by kernel_rfl)).trans rfl) rfl rfl hr ?_; clear hr a; intro a hr
      refine op_off ((wg hr rfl rfl rfl (b' := true) (by kernel_rfl)).trans rfl) rfl rfl hr ?_; clear hr a; intro a hr
      refine ov hr (.bool true) (by kernel_rfl) ?_; clear hr a; intro a hr
      refine wpList_nil ?_
      refine then_normal ?_
      refine cond_tt hr (b := true) rfl ?_
      refine wp_seq ?_
      refine wp_region_lit ?_
      refine ov hr (.bool false) (by kernel_rfl) ?_; clear hr a; intro a hr
      refine wpList_nil ?_
      refine then_normal ?_
      refine wp_ret ?_
      refine then_ret ?_
      refine end_ret1 (v := .bool false) rfl hr (by kernel_rfl) ?_
      replace H := jx0 H hK24
      replace h : Fit z (sepL (ro2 ca1 cc2 p0.l :: ro2 ca3 cc4 p0.g1 :: ro2 ca5 cc6 p0.g2 :: ro2 ca7 cc8 p0.g3 :: L)) _ := h.sel 5 [1, 2, 3, 4] (by kernel_rfl) (by kernel_rfl)
      replace H := ej1 H; subst H
      exact ⟨rfl, h⟩
  clear h hr a; rintro _ a w ⟨rfl, j, hr, h⟩
  replace H := jk0 hK24
  refine wp_seq ?_
  replace H := gd H; obtain ⟨c29, H⟩ := H
  refine reg_E (fun w => heldC w b9 2 [.slice ca3 p0.g1.length cc4] ∧ heldC w (blk ca3) ((((p0.l.length : Nat) : Int).toNat) * 1) [.int .i64 (at_ p0.g1 (((p0.l.length : Nat) : Int).toNat))] ∧ heldC w b9 0 [.int .i64 p0.m] ∧ True) [0, 3, 5] h (by kernel_rfl) ?_; intro w h
  change wpAnyE _ _ _ _ _ _ 9 (Array.replicate 9 false) a w
  have hgo : ∀ w w', CellsGo w w' → (heldC w b9 2 [.slice ca3 p0.g1.length cc4] ∧ heldC w (blk ca3) ((((p0.l.length : Nat) : Int).toNat) * 1) [.int .i64 (at_ p0.g1 (((p0.l.length : Nat) : Int).toNat))] ∧ heldC w b9 0 [.int .i64 p0.m] ∧ True) → heldC w' b9 2 [.slice ca3 p0.g1.length cc4] ∧ heldC w' (blk ca3) ((((p0.l.length : Nat) : Int).toNat) * 1) [.int .i64 (at_ p0.g1 (((p0.l.length : Nat) : Int).toNat))] ∧ heldC w' b9 0 [.int .i64 p0.m] ∧ True := fun w w' g hD => ⟨heldC_go _ _ _ _ _ g hD.1, heldC_go _ _ _ _ _ g hD.2.1, heldC_go _ _ _ _ _ g hD.2.2.1, trivial⟩
  refine evD hgo ⟨⟨h.cell 2 rfl, trivial⟩, ⟨(h.pick 2).row_cell encZ_i64_ok (f := 0) (at_ok c29) rfl, trivial⟩, ⟨h.cell 0 rfl, trivial⟩, trivial⟩ 8 0 rfl (by kernel_rfl) (wn rfl) hr (.pointer (some ⟨b9, 2, none⟩)) (fun w => by kernel_rfl) ?_; clear hr a; intro a hr
  refine ev 7 2 rfl (by kernel_rfl) (wn rfl) hr (.int .i64 ((p0.l.length : Nat) : Int)) (fun w => by kernel_rfl) ?_; clear hr a; intro a hr
  refine evD hgo ⟨⟨h.cell 2 rfl, trivial⟩, ⟨(h.pick 2).row_cell encZ_i64_ok (f := 0) (at_ok c29) rfl, trivial⟩, ⟨h.cell 0 rfl, trivial⟩, trivial⟩ 6 5 rfl (by kernel_rfl) (wn rfl) hr (.pointer (some ⟨b9, 0, none⟩)) (fun w => by kernel_rfl) ?_; clear hr a; intro a hr
  refine el [0, 3, 5] (b := b9) (off := 2) (cs := [.slice ca3 p0.g1.length cc4]) (fun _ hk => ⟨hk, fun w hD => hD.1⟩) 5 1 rfl (by kernel_rfl) (wn rfl) hr (.slice ca3 p0.g1.length cc4) ⟨h.cell 2 rfl, trivial⟩ (fun w hc => rl rfl (by kernel_rfl) (by kernel_rfl) hc.1) ?_; clear hr a; intro a hr
  refine evD hgo ⟨⟨h.cell 2 rfl, trivial⟩, ⟨(h.pick 2).row_cell encZ_i64_ok (f := 0) (at_ok c29) rfl, trivial⟩, ⟨h.cell 0 rfl, trivial⟩, trivial⟩ 4 3 rfl (by kernel_rfl) (wn rfl) hr (.pointer (some ⟨blk ca3, (((p0.l.length : Nat) : Int).toNat) * 1, none⟩)) (fun w => ri_row (k := .i64) (E := 2) rfl (by kernel_rfl) (by kernel_rfl) (by kernel_rfl) (by kernel_rfl) (h.pick 2) c29) ?_; clear hr a; intro a hr
  refine el [0, 3, 5] (b := blk ca3) (off := (((p0.l.length : Nat) : Int).toNat) * 1) (cs := [.int .i64 (at_ p0.g1 (((p0.l.length : Nat) : Int).toNat))]) (fun _ hk => ⟨hk, fun w hD => hD.2.1⟩) 3 4 rfl (by kernel_rfl) (wn rfl) hr (.int .i64 (at_ p0.g1 (((p0.l.length : Nat) : Int).toNat))) ⟨(h.pick 2).row_cell encZ_i64_ok (f := 0) (at_ok c29) rfl, trivial⟩ (fun w hc => rl rfl (by kernel_rfl) (by kernel_rfl) hc.1) ?_; clear hr a; intro a hr
  refine el [0, 3, 5] (b := b9) (off := 0) (cs := [.int .i64 p0.m]) (fun _ hk => ⟨hk, fun w hD => hD.2.2.1⟩) 2 6 rfl (by kernel_rfl) (wn rfl) hr (.int .i64 p0.m) ⟨h.cell 0 rfl, trivial⟩ (fun w hc => rl rfl (by kernel_rfl) (by kernel_rfl) hc.1) ?_; clear hr a; intro a hr
  refine ev 1 7 rfl (by kernel_rfl) (wn rfl) hr (.int .i64 (wi ((at_ p0.g1 (((p0.l.length : Nat) : Int).toNat)) - p0.m))) (fun w => by kernel_rfl) ?_; clear hr a; intro a hr
  refine ev 0 8 rfl (by kernel_rfl) (wn rfl) hr (.int .i64 (wi ((at_ p0.g1 (((p0.l.length : Nat) : Int).toNat)) - p0.m))) (fun w => by kernel_rfl) ?_; clear hr a; intro a hr
  refine e_end (by kernel_rfl) ?_
  refine then_normal ?_
  refine wp_seq ?_
  replace H := gd H; obtain ⟨c30, H⟩ := H
  refine reg_E (fun w => heldC w b9 3 [.slice ca5 p0.g2.length cc6] ∧ heldC w (blk ca5) ((((p0.l.length : Nat) : Int).toNat) * 1) [.int .i64 (at_ p0.g2 (((p0.l.length : Nat) : Int).toNat))] ∧ heldC w b9 0 [.int .i64 p0.m] ∧ True) [0, 3, 5] h (by kernel_rfl) ?_; intro w h
  change wpAnyE _ _ _ _ _ _ 9 (Array.replicate 9 false) a w
  have hgo : ∀ w w', CellsGo w w' → (heldC w b9 3 [.slice ca5 p0.g2.length cc6] ∧ heldC w (blk ca5) ((((p0.l.length : Nat) : Int).toNat) * 1) [.int .i64 (at_ p0.g2 (((p0.l.length : Nat) : Int).toNat))] ∧ heldC w b9 0 [.int .i64 p0.m] ∧ True) → heldC w' b9 3 [.slice ca5 p0.g2.length cc6] ∧ heldC w' (blk ca5) ((((p0.l.length : Nat) : Int).toNat) * 1) [.int .i64 (at_ p0.g2 (((p0.l.length : Nat) : Int).toNat))] ∧ heldC w' b9 0 [.int .i64 p0.m] ∧ True := fun w w' g hD => ⟨heldC_go _ _ _ _ _ g hD.1, heldC_go _ _ _ _ _ g hD.2.1, heldC_go _ _ _ _ _ g hD.2.2.1, trivial⟩
  refine evD hgo ⟨⟨h.cell 3 rfl, trivial⟩, ⟨(h.pick 3).row_cell encZ_i64_ok (f := 0) (at_ok c30) rfl, trivial⟩, ⟨h.cell 0 rfl, trivial⟩, trivial⟩ 8 0 rfl (by kernel_rfl) (wn rfl) hr (.pointer (some ⟨b9, 3, none⟩)) (fun w => by kernel_rfl) ?_; clear hr a; intro a hr
  refine ev 7 2 rfl (by kernel_rfl) (wn rfl) hr (.int .i64 ((p0.l.length : Nat) : Int)) (fun w => by kernel_rfl) ?_; clear hr a; intro a hr
  refine evD hgo ⟨⟨h.cell 3 rfl, trivial⟩, ⟨(h.pick 3).row_cell encZ_i64_ok (f := 0) (at_ok c30) rfl, trivial⟩, ⟨h.cell 0 rfl, trivial⟩, trivial⟩ 6 5 rfl (by kernel_rfl) (wn rfl) hr (.pointer (some ⟨b9, 0, none⟩)) (fun w => by kernel_rfl) ?_; clear hr a; intro a hr
  refine el [0, 3, 5] (b := b9) (off := 3) (cs := [.slice ca5 p0.g2.length cc6]) (fun _ hk => ⟨hk, fun w hD => hD.1⟩) 5 1 rfl (by kernel_rfl) (wn rfl) hr (.slice ca5 p0.g2.length cc6) ⟨h.cell 3 rfl, trivial⟩ (fun w hc => rl rfl (by kernel_rfl) (by kernel_rfl) hc.1) ?_; clear hr a; intro a hr
  refine evD hgo ⟨⟨h.cell 3 rfl, trivial⟩, ⟨(h.pick 3).row_cell encZ_i64_ok (f := 0) (at_ok c30) rfl, trivial⟩, ⟨h.cell 0 rfl, trivial⟩, trivial⟩ 4 3 rfl (by kernel_rfl) (wn rfl) hr (.pointer (some ⟨blk ca5, (((p0.l.length : Nat) : Int).toNat) * 1, none⟩)) (fun w => ri_row (k := .i64) (E := 2) rfl (by kernel_rfl) (by kernel_rfl) (by kernel_rfl) (by kernel_rfl) (h.pick 3) c30) ?_; clear hr a; intro a hr
  refine el [0, 3, 5] (b := blk ca5) (off := (((p0.l.length : Nat) : Int).toNat) * 1) (cs := [.int .i64 (at_ p0.g2 (((p0.l.length : Nat) : Int).toNat))]) (fun _ hk => ⟨hk, fun w hD => hD.2.1⟩) 3 4 rfl (by kernel_rfl) (wn rfl) hr (.int .i64 (at_ p0.g2 (((p0.l.length : Nat) : Int).toNat))) ⟨(h.pick 3).row_cell encZ_i64_ok (f := 0) (at_ok c30) rfl, trivial⟩ (fun w hc => rl rfl (by kernel_rfl) (by kernel_rfl) hc.1) ?_; clear hr a; intro a hr
  refine el [0, 3, 5] (b := b9) (off := 0) (cs := [.int .i64 p0.m]) (fun _ hk => ⟨hk, fun w hD => hD.2.2.1⟩) 2 6 rfl (by kernel_rfl) (wn rfl) hr (.int .i64 p0.m) ⟨h.cell 0 rfl, trivial⟩ (fun w hc => rl rfl (by kernel_rfl) (by kernel_rfl) hc.1) ?_; clear hr a; intro a hr
  refine ev 1 7 rfl (by kernel_rfl) (wn rfl) hr (.int .i64 (wi ((at_ p0.g2 (((p0.l.length : Nat) : Int).toNat)) - p0.m))) (fun w => by kernel_rfl) ?_; clear hr a; intro a hr
  refine ev 0 8 rfl (by kernel_rfl) (wn rfl) hr (.int .i64 (wi ((at_ p0.g2 (((p0.l.length : Nat) : Int).toNat)) - p0.m))) (fun w => by kernel_rfl) ?_; clear hr a; intro a hr
  refine e_end (by kernel_rfl) ?_
  refine then_normal ?_
  refine wp_seq ?_
  replace H := gd H; obtain ⟨c31, H⟩ := H
  refine reg_E (fun w => heldC w b9 3 [.slice ca5 p0.g2.length cc6] ∧ heldC w (blk ca5) (((wi (((p0.l.length : Nat) : Int) + (1 : Int))).toNat) * 1) [.int .i64 (at_ p0.g2 ((wi (((p0.l.length : Nat) : Int) + (1 : Int))).toNat))] ∧ heldC w b9 0 [.int .i64 p0.m] ∧ True) [0, 3, 4, 6] h (by kernel_rfl) ?_; intro w h
  change wpAnyE _ _ _ _ _ _ 10 (Array.replicate 10 false) a w
  have hgo : ∀ w w', CellsGo w w' → (heldC w b9 3 [.slice ca5 p0.g2.length cc6] ∧ heldC w (blk ca5) (((wi (((p0.l.length : Nat) : Int) + (1 : Int))).toNat) * 1) [.int .i64 (at_ p0.g2 ((wi (((p0.l.length : Nat) : Int) + (1 : Int))).toNat))] ∧ heldC w b9 0 [.int .i64 p0.m] ∧ True) → heldC w' b9 3 [.slice ca5 p0.g2.length cc6] ∧ heldC w' (blk ca5) (((wi (((p0.l.length : Nat) : Int) + (1 : Int))).toNat) * 1) [.int .i64 (at_ p0.g2 ((wi (((p0.l.length : Nat) : Int) + (1 : Int))).toNat))] ∧ heldC w' b9 0 [.int .i64 p0.m] ∧ True := fun w w' g hD => ⟨heldC_go _ _ _ _ _ g hD.1, heldC_go _ _ _ _ _ g hD.2.1, heldC_go _ _ _ _ _ g hD.2.2.1, trivial⟩
  refine evD hgo ⟨⟨h.cell 3 rfl, trivial⟩, ⟨(h.pick 3).row_cell encZ_i64_ok (f := 0) (at_ok c31) rfl, trivial⟩, ⟨h.cell 0 rfl, trivial⟩, trivial⟩ 9 0 rfl (by kernel_rfl) (wn rfl) hr (.pointer (some ⟨b9, 3, none⟩)) (fun w => by kernel_rfl) ?_; clear hr a; intro a hr
  refine ev 8 2 rfl (by kernel_rfl) (wn rfl) hr (.int .i64 ((p0.l.length : Nat) : Int)) (fun w => by kernel_rfl) ?_; clear hr a; intro a hr
  refine evD hgo ⟨⟨h.cell 3 rfl, trivial⟩, ⟨(h.pick 3).row_cell encZ_i64_ok (f := 0) (at_ok c31) rfl, trivial⟩, ⟨h.cell 0 rfl, trivial⟩, trivial⟩ 7 3 rfl (by kernel_rfl) (wn rfl) hr (.int .i64 (wi (((p0.l.length : Nat) : Int) + (1 : Int)))) (fun w => by kernel_rfl) ?_; clear hr a; intro a hr
  refine evD hgo ⟨⟨h.cell 3 rfl, trivial⟩, ⟨(h.pick 3).row_cell encZ_i64_ok (f := 0) (at_ok c31) rfl, trivial⟩, ⟨h.cell 0 rfl, trivial⟩, trivial⟩ 6 6 rfl (by kernel_rfl) (wn rfl) hr (.pointer (some ⟨b9, 0, none⟩)) (fun w => by kernel_rfl) ?_; clear hr a; intro a hr
  refine el [0, 3, 4, 6] (b := b9) (off := 3) (cs := [.slice ca5 p0.g2.length cc6]) (fun _ hk => ⟨hk, fun w hD => hD.1⟩) 5 1 rfl (by kernel_rfl) (wn rfl) hr (.slice ca5 p0.g2.length cc6) ⟨h.cell 3 rfl, trivial⟩ (fun w hc => rl rfl (by kernel_rfl) (by kernel_rfl) hc.1) ?_; clear hr a; intro a hr
  refine evD hgo ⟨⟨h.cell 3 rfl, trivial⟩, ⟨(h.pick 3).row_cell encZ_i64_ok (f := 0) (at_ok c31) rfl, trivial⟩, ⟨h.cell 0 rfl, trivial⟩, trivial⟩ 4 4 rfl (by kernel_rfl) (wn rfl) hr (.pointer (some ⟨blk ca5, ((wi (((p0.l.length : Nat) : Int) + (1 : Int))).toNat) * 1, none⟩)) (fun w => ri_row (k := .i64) (E := 2) rfl (by kernel_rfl) (by kernel_rfl) (by kernel_rfl) (by kernel_rfl) (h.pick 3) c31) ?_; clear hr a; intro a hr
  refine el [0, 3, 4, 6] (b := blk ca5) (off := ((wi (((p0.l.length : Nat) : Int) + (1 : Int))).toNat) * 1) (cs := [.int .i64 (at_ p0.g2 ((wi (((p0.l.length : Nat) : Int) + (1 : Int))).toNat))]) (fun _ hk => ⟨hk, fun w hD => hD.2.1⟩) 3 5 rfl (by kernel_rfl) (wn rfl) hr (.int .i64 (at_ p0.g2 ((wi (((p0.l.length : Nat) : Int) + (1 : Int))).toNat))) ⟨(h.pick 3).row_cell encZ_i64_ok (f := 0) (at_ok c31) rfl, trivial⟩ (fun w hc => rl rfl (by kernel_rfl) (by kernel_rfl) hc.1) ?_; clear hr a; intro a hr
  refine el [0, 3, 4, 6] (b := b9) (off := 0) (cs := [.int .i64 p0.m]) (fun _ hk => ⟨hk, fun w hD => hD.2.2.1⟩) 2 7 rfl (by kernel_rfl) (wn rfl) hr (.int .i64 p0.m) ⟨h.cell 0 rfl, trivial⟩ (fun w hc => rl rfl (by kernel_rfl) (by kernel_rfl) hc.1) ?_; clear hr a; intro a hr
  refine ev 1 8 rfl (by kernel_rfl) (wn rfl) hr (.int .i64 (wi ((at_ p0.g2 ((wi (((p0.l.length : Nat) : Int) + (1 : Int))).toNat)) - p0.m))) (fun w => by kernel_rfl) ?_; clear hr a; intro a hr
  refine ev 0 9 rfl (by kernel_rfl) (wn rfl) hr (.int .i64 (wi ((at_ p0.g2 ((wi (((p0.l.length : Nat) : Int) + (1 : Int))).toNat)) - p0.m))) (fun w => by kernel_rfl) ?_; clear hr a; intro a hr
  refine e_end (by kernel_rfl) ?_
  refine then_normal ?_
  replace H := jd0 H; obtain ⟨o33, H, hK32⟩ := H
  refine cut_rule (β := Unit) (fun _ a w => .inl () = o33 ∧ ∃ j, Rep 150 (lk [(1, .pointer (some ⟨b9, 0, none⟩)), (3, .int .i64 ((p0.l.length : Nat) : Int))] j) a ∧ Fit z (sepL (ob139 b9 p0 ca1 cc2 ca3 cc4 ca5 cc6 ca7 cc8 :: ro2 ca1 cc2 p0.l :: ro2 ca3 cc4 p0.g1 :: ro2 ca5 cc6 p0.g2 :: ro2 ca7 cc8 p0.g3 :: L)) w) ?_ ?_
  ·
    refine wp_seq ?_
    refine wp_region_lit ?_
    refine ovs [91, 92, 93] [.int .i64 (wi ((at_ p0.g1 (((p0.l.length : Nat) : Int).toNat)) - p0.m)), .bool ((wi ((at_ p0.g1 (((p0.l.length : Nat) : Int).toNat)) - p0.m)) != (1 : Int)), .bool ((wi ((at_ p0.g1 (((p0.l.length : Nat) : Int).toNat)) - p0.m)) != (1 : Int))] hr ⟨rfl, rfl⟩ (by kernel_rfl) ?_; clear hr a; intro a hr
    by_cases c34 : (wi ((at_ p0.g1 (((p0.l.length : Nat) : Int).toNat)) - p0.m)) = (1 : Int)
    ·
      replace H := ifT c34 H
      refine op_off ((wg hr rfl rfl rfl (b' := ((wi ((at_ p0.g1 (((p0.l.length : Nat) : Int).toNat)) - p0.m)) != (1 : Int))) (by kernel_rfl)).trans (by rw [show ((wi ((at_ p0.g1 (((p0.l.length : Nat) : Int).toNat)) - p0.m)) != (1 : Int)) = false from (bne_eq_false_iff_eq.mpr c34)]; rfl)) rfl rfl hr ?_; clear hr a; intro a hr
      refine op_off ((wg hr rfl rfl rfl (b' := ((wi ((at_ p0.g1 (((p0.l.length : Nat) : Int).toNat)) - p0.m)) != (1 : Int))) (by kernel_rfl)).trans (by rw [show ((wi ((at_ p0.g1 (((p0.l.length : Nat) : Int).toNat)) - p0.m)) != (1 : Int)) = false from (bne_eq_false_iff_eq.mpr c34)]; rfl)) rfl rfl hr ?_; clear hr a; intro a hr
      refine op_val (wn rfl) rfl rfl hr (v := .bool false) (rp_f (b := ((wi ((at_ p0.g1 (((p0.l.length : Nat) : Int).toNat)) - p0.m)) != (1 : Int))) rfl (by kernel_rfl) (bne_eq_false_iff_eq.mpr c34) (by kernel_rfl)) ?_; clear hr a; intro a hr
      refine ov hr (.bool false) (by kernel_rfl) ?_; clear hr a; intro a hr
      refine op_off ((wg hr rfl rfl rfl (b' := false) (by kernel_rfl)).trans rfl) rfl rfl hr ?_; clear hr a; intro a hr
      refine op_off ((wg hr rfl rfl rfl (b' := false) (by kernel_rfl)).trans rfl) rfl rfl hr ?_; clear hr a; intro a hr
      refine ovs [100, 101] [.bool false, .bool false] hr ⟨rfl, rfl⟩ (by kernel_rfl) ?_; clear hr a; intro a hr
      refine op_val ((wg hr rfl rfl rfl (b' := false) (by kernel_rfl)).trans rfl) rfl rfl hr (v := .int .i64 (wi ((at_ p0.g2 (((p0.l.length : Nat) : Int).toNat)) - p0.m))) (by kernel_rfl) ?_; clear hr a; intro a hr
      refine op_val ((wg hr rfl rfl rfl (b' := false) (by kernel_rfl)).trans rfl) rfl rfl hr (v := .bool ((wi ((at_ p0.g2 (((p0.l.length : Nat) : Int).toNat)) - p0.m)) != (2 : Int))) (by kernel_rfl) ?_; clear hr a; intro a hr
      refine op_val ((wg hr rfl rfl rfl (b' := false) (by kernel_rfl)).trans rfl) rfl rfl hr (v := .bool ((wi ((at_ p0.g2 (((p0.l.length : Nat) : Int).toNat)) - p0.m)) != (2 : Int))) (by kernel_rfl) ?_; clear hr a; intro a hr
      by_cases c35 : (wi ((at_ p0.g2 (((p0.l.length : Nat) : Int).toNat)) - p0.m)) = (2 : Int)
      ·
        replace H := ifT c35 H
        refine op_off ((wg hr rfl rfl rfl (b' := ((wi ((at_ p0.g2 (((p0.l.length : Nat) : Int).toNat)) - p0.m)) != (2 : Int))) (by kernel_rfl)).trans (by rw [show ((wi ((at_ p0.g2 (((p0.l.length : Nat) : Int).toNat)) - p0.m)) != (2 : Int)) = false from (bne_eq_false_iff_eq.mpr c35)]; rfl)) rfl rfl hr ?_; clear hr a; intro a hr
        refine op_off ((wg hr rfl rfl rfl (b' := ((wi ((at_ p0.g2 (((p0.l.length : Nat) : Int).toNat)) - p0.m)) != (2 : Int))) (by kernel_rfl)).trans (by rw [show ((wi ((at_ p0.g2 (((p0.l.length : Nat) : Int).toNat)) - p0.m)) != (2 : Int)) = false from (bne_eq_false_iff_eq.mpr c35)]; rfl)) rfl rfl hr ?_; clear hr a; intro a hr
        refine op_val ((wg hr rfl rfl rfl (b' := false) (by kernel_rfl)).trans rfl) rfl rfl hr (v := .bool false) (rp_f (b := ((wi ((at_ p0.g2 (((p0.l.length : Nat) : Int).toNat)) - p0.m)) != (2 : Int))) rfl (by kernel_rfl) (bne_eq_false_iff_eq.mpr c35) (by kernel_rfl)) ?_; clear hr a; intro a hr
        refine ovs [108, 109] [.bool false, .bool false] hr ⟨rfl, rfl⟩ (by kernel_rfl) ?_; clear hr a; intro a hr
        refine op_val ((wg hr rfl rfl rfl (b' := false) (by kernel_rfl)).trans rfl) rfl rfl hr (v := .int .i64 (wi ((at_ p0.g2 ((wi (((p0.l.length : Nat) : Int) + (1 : Int))).toNat)) - p0.m))) (by kernel_rfl) ?_; clear hr a; intro a hr
        refine op_val ((wg hr rfl rfl rfl (b' := false) (by kernel_rfl)).trans rfl) rfl rfl hr (v := .bool ((wi ((at_ p0.g2 ((wi (((p0.l.length : Nat) : Int) + (1 : Int))).toNat)) - p0.m)) != (3 : Int))) (by kernel_rfl) ?_; clear hr a; intro a hr
        refine op_val ((wg hr rfl rfl rfl (b' := false) (by kernel_rfl)).trans rfl) rfl rfl hr (v := .bool ((wi ((at_ p0.g2 ((wi (((p0.l.length : Nat) : Int) + (1 : Int))).toNat)) - p0.m)) != (3 : Int))) (by kernel_rfl) ?_; clear hr a; intro a hr
        by_cases c36 : (wi ((at_ p0.g2 ((wi (((p0.l.length : Nat) : Int) + (1 : Int))).toNat)) - p0.m)) = (3 : Int)
        ·
          replace H := ifT c36 H
          refine op_off ((wg hr rfl rfl rfl (b' := ((wi ((at_ p0.g2 ((wi (((p0.l.length : Nat) : Int) + (1 : Int))).toNat)) - p0.m)) != (3 : Int))) (by kernel_rfl)).trans (by rw [show ((wi ((at_ p0.g2 ((wi (((p0.l.length : Nat) : Int) + (1 : Int))).toNat)) - p0.m)) != (3 : Int)) = false from (bne_eq_false_iff_eq.mpr c36)]; rfl)) rfl rfl hr ?_; clear hr a; intro a hr
          refine op_off ((wg hr rfl rfl rfl (b' := ((wi ((at_ p0.g2 ((wi (((p0.l.length : Nat) : Int) + (1 : Int))).toNat)) - p0.m)) != (3 : Int))) (by kernel_rfl)).trans (by rw [show ((wi ((at_ p0.g2 ((wi (((p0.l.length : Nat) : Int) + (1 : Int))).toNat)) - p0.m)) != (3 : Int)) = false from (bne_eq_false_iff_eq.mpr c36)]; rfl)) rfl rfl hr ?_; clear hr a; intro a hr
          refine op_val ((wg hr rfl rfl rfl (b' := false) (by kernel_rfl)).trans rfl) rfl rfl hr (v := .bool false) (rp_f (b := ((wi ((at_ p0.g2 ((wi (((p0.l.length : Nat) : Int) + (1 : Int))).toNat)) - p0.m)) != (3 : Int))) rfl (by kernel_rfl) (bne_eq_false_iff_eq.mpr c36) (by kernel_rfl)) ?_; clear hr a; intro a hr
          refine ov hr (.bool false) (by kernel_rfl) ?_; clear hr a; intro a hr
          refine wpList_nil ?_
          refine then_normal ?_
          refine cond_ff hr (b := false) rfl ?_
          refine wp_skip ?_
          refine then_normal ?_
          replace hr := hr.fold2 [(1, .pointer (some ⟨b9, 0, none⟩)), (3, .int .i64 ((p0.l.length : Nat) : Int))] (by kernel_rfl); obtain ⟨j, hr⟩ := hr
          exact ⟨(), sinj H, j, hr, h⟩
        ·
          replace H := ifF c36 H
          refine op_val ((wg hr rfl rfl rfl (b' := ((wi ((at_ p0.g2 ((wi (((p0.l.length : Nat) : Int) + (1 : Int))).toNat)) - p0.m)) != (3 : Int))) (by kernel_rfl)).trans (by rw [show ((wi ((at_ p0.g2 ((wi (((p0.l.length : Nat) : Int) + (1 : Int))).toNat)) - p0.m)) != (3 : Int)) = true from (bne_iff_ne.mpr c36)]; rfl)) rfl rfl hr (v := .int .i64 (wi ((at_ p0.g2 ((wi (((p0.l.length : Nat) : Int) + (1 : Int))).toNat)) - p0.m))) (by kernel_rfl) ?_; clear hr a; intro a hr
          refine op_val ((wg hr rfl rfl rfl (b' := ((wi ((at_ p0.g2 ((wi (((p0.l.length : Nat) : Int) + (1 : Int))).toNat)) - p0.m)) != (3 : Int))) (by kernel_rfl)).trans (by rw [show ((wi ((at_ p0.g2 ((wi (((p0.l.length : Nat) : Int) + (1 : Int))).toNat)) - p0.m)) != (3 : Int)) = true from (bne_iff_ne.mpr c36)]; rfl)) rfl rfl hr (v := .bool ((wi ((at_ p0.g2 ((wi (((p0.l.length : Nat) : Int) + (1 : Int))).toNat)) - p0.m)) != (5 : Int))) (by kernel_rfl) ?_; clear hr a; intro a hr
          refine op_val ((wg hr rfl rfl rfl (b' := false) (by kernel_rfl)).trans rfl) rfl rfl hr (v := .bool ((wi ((at_ p0.g2 ((wi (((p0.l.length : Nat) : Int) + (1 : Int))).toNat)) - p0.m)) != (5 : Int))) (rp_t (b := ((wi ((at_ p0.g2 ((wi (((p0.l.length : Nat) : Int) + (1 : Int))).toNat)) - p0.m)) != (3 : Int))) rfl (by kernel_rfl) (bne_iff_ne.mpr c36) (by kernel_rfl)) ?_; clear hr a; intro a hr
          refine ov hr (.bool ((wi ((at_ p0.g2 ((wi (((p0.l.length : Nat) : Int) + (1 : Int))).toNat)) - p0.m)) != (5 : Int))) (by kernel_rfl) ?_; clear hr a; intro a hr
          refine wpList_nil ?_
          refine then_normal ?_
          by_cases c37 : (wi ((at_ p0.g2 ((wi (((p0.l.length : Nat) : Int) + (1 : Int))).toNat)) - p0.m)) = (5 : Int)
          ·
            replace H := ifT c37 H
            refine cond_ff hr (b := ((wi ((at_ p0.g2 ((wi (((p0.l.length : Nat) : Int) + (1 : Int))).toNat)) - p0.m)) != (5 : Int))) (bne_eq_false_iff_eq.mpr c37) ?_
            refine wp_skip ?_
            refine then_normal ?_
            replace hr := hr.fold2 [(1, .pointer (some ⟨b9, 0, none⟩)), (3, .int .i64 ((p0.l.length : Nat) : Int))] (by kernel_rfl); obtain ⟨j, hr⟩ := hr
            exact ⟨(), sinj H, j, hr, h⟩
          ·
            replace H := ifF c37 H
            refine cond_tt hr (b := ((wi ((at_ p0.g2 ((wi (((p0.l.length : Nat) : Int) + (1 : Int))).toNat)) - p0.m)) != (5 : Int))) (bne_iff_ne.mpr c37) ?_
            refine wp_seq ?_
            refine wp_region_lit ?_
            refine ov hr (.bool false) (by kernel_rfl) ?_; clear hr a; intro a hr
            refine wpList_nil ?_
            refine then_normal ?_
            refine wp_ret ?_
            refine then_ret ?_
            refine end_ret1 (v := .bool false) rfl hr (by kernel_rfl) ?_
            replace H := jx0 H hK32
            replace h : Fit z (sepL (ro2 ca1 cc2 p0.l :: ro2 ca3 cc4 p0.g1 :: ro2 ca5 cc6 p0.g2 :: ro2 ca7 cc8 p0.g3 :: L)) _ := h.sel 5 [1, 2, 3, 4] (by kernel_rfl) (by kernel_rfl)
            replace H := ej1 H; subst H
            exact ⟨rfl, h⟩
      ·
        replace H := ifF c35 H
        refine op_val ((wg hr rfl rfl rfl (b' := ((wi ((at_ p0.g2 (((p0.l.length : Nat) : Int).toNat)) - p0.m)) != (2 : Int))) (by kernel_rfl)).trans (by rw [show ((wi ((at_ p0.g2 (((p0.l.length : Nat) : Int).toNat)) - p0.m)) != (2 : Int)) = true from (bne_iff_ne.mpr c35)]; rfl)) rfl rfl hr (v := .int .i64 (wi ((at_ p0.g2 (((p0.l.length : Nat) : Int).toNat)) - p0.m))) (by kernel_rfl) ?_; clear hr a; intro a hr
        refine op_val ((wg hr rfl rfl rfl (b' := ((wi ((at_ p0.g2 (((p0.l.length : Nat) : Int).toNat)) - p0.m)) != (2 : Int))) (by kernel_rfl)).trans (by rw [show ((wi ((at_ p0.g2 (((p0.l.length : Nat) : Int).toNat)) - p0.m)) != (2 : Int)) = true from (bne_iff_ne.mpr c35)]; rfl)) rfl rfl hr (v := .bool ((wi ((at_ p0.g2 (((p0.l.length : Nat) : Int).toNat)) - p0.m)) != (4 : Int))) (by kernel_rfl) ?_; clear hr a; intro a hr
        refine op_val ((wg hr rfl rfl rfl (b' := false) (by kernel_rfl)).trans rfl) rfl rfl hr (v := .bool ((wi ((at_ p0.g2 (((p0.l.length : Nat) : Int).toNat)) - p0.m)) != (4 : Int))) (rp_t (b := ((wi ((at_ p0.g2 (((p0.l.length : Nat) : Int).toNat)) - p0.m)) != (2 : Int))) rfl (by kernel_rfl) (bne_iff_ne.mpr c35) (by kernel_rfl)) ?_; clear hr a; intro a hr
        refine ovs [108, 109] [.bool ((wi ((at_ p0.g2 (((p0.l.length : Nat) : Int).toNat)) - p0.m)) != (4 : Int)), .bool ((wi ((at_ p0.g2 (((p0.l.length : Nat) : Int).toNat)) - p0.m)) != (4 : Int))] hr ⟨rfl, rfl⟩ (by kernel_rfl) ?_; clear hr a; intro a hr
        by_cases c38 : (wi ((at_ p0.g2 (((p0.l.length : Nat) : Int).toNat)) - p0.m)) = (4 : Int)
        ·
          replace H := ifT c38 H
          refine op_val ((wg hr rfl rfl rfl (b' := ((wi ((at_ p0.g2 (((p0.l.length : Nat) : Int).toNat)) - p0.m)) != (4 : Int))) (by kernel_rfl)).trans (by rw [show ((wi ((at_ p0.g2 (((p0.l.length : Nat) : Int).toNat)) - p0.m)) != (4 : Int)) = false from (bne_eq_false_iff_eq.mpr c38)]; rfl)) rfl rfl hr (v := .int .i64 (wi ((at_ p0.g2 ((wi (((p0.l.length : Nat) : Int) + (1 : Int))).toNat)) - p0.m))) (by kernel_rfl) ?_; clear hr a; intro a hr
          refine op_val ((wg hr rfl rfl rfl (b' := ((wi ((at_ p0.g2 (((p0.l.length : Nat) : Int).toNat)) - p0.m)) != (4 : Int))) (by kernel_rfl)).trans (by rw [show ((wi ((at_ p0.g2 (((p0.l.length : Nat) : Int).toNat)) - p0.m)) != (4 : Int)) = false from (bne_eq_false_iff_eq.mpr c38)]; rfl)) rfl rfl hr (v := .bool ((wi ((at_ p0.g2 ((wi (((p0.l.length : Nat) : Int) + (1 : Int))).toNat)) - p0.m)) != (3 : Int))) (by kernel_rfl) ?_; clear hr a; intro a hr
          refine op_val ((wg hr rfl rfl rfl (b' := ((wi ((at_ p0.g2 (((p0.l.length : Nat) : Int).toNat)) - p0.m)) != (4 : Int))) (by kernel_rfl)).trans (by rw [show ((wi ((at_ p0.g2 (((p0.l.length : Nat) : Int).toNat)) - p0.m)) != (4 : Int)) = false from (bne_eq_false_iff_eq.mpr c38)]; rfl)) rfl rfl hr (v := .bool ((wi ((at_ p0.g2 ((wi (((p0.l.length : Nat) : Int) + (1 : Int))).toNat)) - p0.m)) != (3 : Int))) (by kernel_rfl) ?_; clear hr a; intro a hr
          by_cases c39 : (wi ((at_ p0.g2 ((wi (((p0.l.length : Nat) : Int) + (1 : Int))).toNat)) - p0.m)) = (3 : Int)
          ·
            replace H := ifT c39 H
            refine op_off ((wg hr rfl rfl rfl (b' := ((wi ((at_ p0.g2 ((wi (((p0.l.length : Nat) : Int) + (1 : Int))).toNat)) - p0.m)) != (3 : Int))) (by kernel_rfl)).trans (by rw [show ((wi ((at_ p0.g2 ((wi (((p0.l.length : Nat) : Int) + (1 : Int))).toNat)) - p0.m)) != (3 : Int)) = false from (bne_eq_false_iff_eq.mpr c39)]; rfl)) rfl rfl hr ?_; clear hr a; intro a hr
            refine op_off ((wg hr rfl rfl rfl (b' := ((wi ((at_ p0.g2 ((wi (((p0.l.length : Nat) : Int) + (1 : Int))).toNat)) - p0.m)) != (3 : Int))) (by kernel_rfl)).trans (by rw [show ((wi ((at_ p0.g2 ((wi (((p0.l.length : Nat) : Int) + (1 : Int))).toNat)) - p0.m)) != (3 : Int)) = false from (bne_eq_false_iff_eq.mpr c39)]; rfl)) rfl rfl hr ?_; clear hr a; intro a hr
            refine op_val ((wg hr rfl rfl rfl (b' := ((wi ((at_ p0.g2 (((p0.l.length : Nat) : Int).toNat)) - p0.m)) != (4 : Int))) (by kernel_rfl)).trans (by rw [show ((wi ((at_ p0.g2 (((p0.l.length : Nat) : Int).toNat)) - p0.m)) != (4 : Int)) = false from (bne_eq_false_iff_eq.mpr c38)]; rfl)) rfl rfl hr (v := .bool false) (rp_f (b := ((wi ((at_ p0.g2 ((wi (((p0.l.length : Nat) : Int) + (1 : Int))).toNat)) - p0.m)) != (3 : Int))) rfl (by kernel_rfl) (bne_eq_false_iff_eq.mpr c39) (by kernel_rfl)) ?_; clear hr a; intro a hr
            refine op_val (wn rfl) rfl rfl hr (v := .bool false) (rp_f (b := ((wi ((at_ p0.g2 (((p0.l.length : Nat) : Int).toNat)) - p0.m)) != (4 : Int))) rfl (by kernel_rfl) (bne_eq_false_iff_eq.mpr c38) (by kernel_rfl)) ?_; clear hr a; intro a hr
            refine wpList_nil ?_
            refine then_normal ?_
            refine cond_ff hr (b := false) rfl ?_
            refine wp_skip ?_
            refine then_normal ?_
            replace hr := hr.fold2 [(1, .pointer (some ⟨b9, 0, none⟩)), (3, .int .i64 ((p0.l.length : Nat) : Int))] (by kernel_rfl); obtain ⟨j, hr⟩ := hr
            exact ⟨(), sinj H, j, hr, h⟩
          ·
            replace H := ifF c39 H
            refine op_val ((wg hr rfl rfl rfl (b' := ((wi ((at_ p0.g2 ((wi (((p0.l.length : Nat) : Int) + (1 : Int))).toNat)) - p0.m)) != (3 : Int))) (by kernel_rfl)).trans (by rw [show ((wi ((at_ p0.g2 ((wi (((p0.l.length : Nat) : Int) + (1 : Int))).toNat)) - p0.m)) != (3 : Int)) = true from (bne_iff_ne.mpr c39)]; rfl)) rfl rfl hr (v := .int .i64 (wi ((at_ p0.g2 ((wi (((p0.l.length : Nat) : Int) + (1 : Int))).toNat)) - p0.m))) (by kernel_rfl) ?_; clear hr a; intro a hr
            refine op_val ((wg hr rfl rfl rfl (b' := ((wi ((at_ p0.g2 ((wi (((p0.l.length : Nat) : Int) + (1 : Int))).toNat)) - p0.m)) != (3 : Int))) (by kernel_rfl)).trans (by rw [show ((wi ((at_ p0.g2 ((wi (((p0.l.length : Nat) : Int) + (1 : Int))).toNat)) - p0.m)) != (3 : Int)) = true from (bne_iff_ne.mpr c39)]; rfl)) rfl rfl hr (v := .bool ((wi ((at_ p0.g2 ((wi (((p0.l.length : Nat) : Int) + (1 : Int))).toNat)) - p0.m)) != (5 : Int))) (by kernel_rfl) ?_; clear hr a; intro a hr
            refine op_val ((wg hr rfl rfl rfl (b' := ((wi ((at_ p0.g2 (((p0.l.length : Nat) : Int).toNat)) - p0.m)) != (4 : Int))) (by kernel_rfl)).trans (by rw [show ((wi ((at_ p0.g2 (((p0.l.length : Nat) : Int).toNat)) - p0.m)) != (4 : Int)) = false from (bne_eq_false_iff_eq.mpr c38)]; rfl)) rfl rfl hr (v := .bool ((wi ((at_ p0.g2 ((wi (((p0.l.length : Nat) : Int) + (1 : Int))).toNat)) - p0.m)) != (5 : Int))) (rp_t (b := ((wi ((at_ p0.g2 ((wi (((p0.l.length : Nat) : Int) + (1 : Int))).toNat)) - p0.m)) != (3 : Int))) rfl (by kernel_rfl) (bne_iff_ne.mpr c39) (by kernel_rfl)) ?_; clear hr a; intro a hr
            refine op_val (wn rfl) rfl rfl hr (v := .bool ((wi ((at_ p0.g2 ((wi (((p0.l.length : Nat) : Int) + (1 : Int))).toNat)) - p0.m)) != (5 : Int))) (rp_f (b := ((wi ((at_ p0.g2 (((p0.l.length : Nat) : Int).toNat)) - p0.m)) != (4 : Int))) rfl (by kernel_rfl) (bne_eq_false_iff_eq.mpr c38) (by kernel_rfl)) ?_; clear hr a; intro a hr
            refine wpList_nil ?_
            refine then_normal ?_
            by_cases c40 : (wi ((at_ p0.g2 ((wi (((p0.l.length : Nat) : Int) + (1 : Int))).toNat)) - p0.m)) = (5 : Int)
            ·
              replace H := ifT c40 H
              refine cond_ff hr (b := ((wi ((at_ p0.g2 ((wi (((p0.l.length : Nat) : Int) + (1 : Int))).toNat)) - p0.m)) != (5 : Int))) (bne_eq_false_iff_eq.mpr c40) ?_
              refine wp_skip ?_
              refine then_normal ?_
              replace hr := hr.fold2 [(1, .pointer (some ⟨b9, 0, none⟩)), (3, .int .i64 ((p0.l.length : Nat) : Int))] (by kernel_rfl); obtain ⟨j, hr⟩ := hr
              exact ⟨(), sinj H, j, hr, h⟩
            ·
              replace H := ifF c40 H
              refine cond_tt hr (b := ((wi ((at_ p0.g2 ((wi (((p0.l.length : Nat) : Int) + (1 : Int))).toNat)) - p0.m)) != (5 : Int))) (bne_iff_ne.mpr c40) ?_
              refine wp_seq ?_
              refine wp_region_lit ?_
              refine ov hr (.bool false) (by kernel_rfl) ?_; clear hr a; intro a hr
              refine wpList_nil ?_
              refine then_normal ?_
              refine wp_ret ?_
              refine then_ret ?_
              refine end_ret1 (v := .bool false) rfl hr (by kernel_rfl) ?_
              replace H := jx0 H hK32
              replace h : Fit z (sepL (ro2 ca1 cc2 p0.l :: ro2 ca3 cc4 p0.g1 :: ro2 ca5 cc6 p0.g2 :: ro2 ca7 cc8 p0.g3 :: L)) _ := h.sel 5 [1, 2, 3, 4] (by kernel_rfl) (by kernel_rfl)
              replace H := ej1 H; subst H
              exact ⟨rfl, h⟩
        ·
          replace H := ifF c38 H
          refine op_off ((wg hr rfl rfl rfl (b' := ((wi ((at_ p0.g2 (((p0.l.length : Nat) : Int).toNat)) - p0.m)) != (4 : Int))) (by kernel_rfl)).trans (by rw [show ((wi ((at_ p0.g2 (((p0.l.length : Nat) : Int).toNat)) - p0.m)) != (4 : Int)) = true from (bne_iff_ne.mpr c38)]; rfl)) rfl rfl hr ?_; clear hr a; intro a hr
          refine op_off ((wg hr rfl rfl rfl (b' := ((wi ((at_ p0.g2 (((p0.l.length : Nat) : Int).toNat)) - p0.m)) != (4 : Int))) (by kernel_rfl)).trans (by rw [show ((wi ((at_ p0.g2 (((p0.l.length : Nat) : Int).toNat)) - p0.m)) != (4 : Int)) = true from (bne_iff_ne.mpr c38)]; rfl)) rfl rfl hr ?_; clear hr a; intro a hr
          refine op_off ((wg hr rfl rfl rfl (b' := ((wi ((at_ p0.g2 (((p0.l.length : Nat) : Int).toNat)) - p0.m)) != (4 : Int))) (by kernel_rfl)).trans (by rw [show ((wi ((at_ p0.g2 (((p0.l.length : Nat) : Int).toNat)) - p0.m)) != (4 : Int)) = true from (bne_iff_ne.mpr c38)]; rfl)) rfl rfl hr ?_; clear hr a; intro a hr
          refine op_off (wg_undef hr rfl rfl rfl (by kernel_rfl)) rfl rfl hr ?_; clear hr a; intro a hr
          refine op_off (wg_undef hr rfl rfl rfl (by kernel_rfl)) rfl rfl hr ?_; clear hr a; intro a hr
          refine op_off ((wg hr rfl rfl rfl (b' := ((wi ((at_ p0.g2 (((p0.l.length : Nat) : Int).toNat)) - p0.m)) != (4 : Int))) (by kernel_rfl)).trans (by rw [show ((wi ((at_ p0.g2 (((p0.l.length : Nat) : Int).toNat)) - p0.m)) != (4 : Int)) = true from (bne_iff_ne.mpr c38)]; rfl)) rfl rfl hr ?_; clear hr a; intro a hr
          refine op_val (wn rfl) rfl rfl hr (v := .bool true) (rp_t (b := ((wi ((at_ p0.g2 (((p0.l.length : Nat) : Int).toNat)) - p0.m)) != (4 : Int))) rfl (by kernel_rfl) (bne_iff_ne.mpr c38) (by kernel_rfl)) ?_; clear hr a; intro a hr
          refine wpList_nil ?_
          refine then_normal ?_
          refine cond_tt hr (b := true) rfl ?_
          refine wp_seq ?_
          refine wp_region_lit ?_
          refine ov hr (.bool false) (by kernel_rfl) ?_; clear hr a; intro a hr
          refine wpList_nil ?_
          refine then_normal ?_
          refine wp_ret ?_
          refine then_ret ?_
          refine end_ret1 (v := .bool false) rfl hr (by kernel_rfl) ?_
          replace H := jx0 H hK32
          replace h : Fit z (sepL (ro2 ca1 cc2 p0.l :: ro2 ca3 cc4 p0.g1 :: ro2 ca5 cc6 p0.g2 :: ro2 ca7 cc8 p0.g3 :: L)) _ := h.sel 5 [1, 2, 3, 4] (by kernel_rfl) (by kernel_rfl)
          replace H := ej1 H; subst H
          exact ⟨rfl, h⟩
    ·
      replace H := ifF c34 H
      refine op_val ((wg hr rfl rfl rfl (b' := ((wi ((at_ p0.g1 (((p0.l.length : Nat) : Int).toNat)) - p0.m)) != (1 : Int))) (by kernel_rfl)).trans (by rw [show ((wi ((at_ p0.g1 (((p0.l.length : Nat) : Int).toNat)) - p0.m)) != (1 : Int)) = true from (bne_iff_ne.mpr c34)]; rfl)) rfl rfl hr (v := .int .i64 (wi ((at_ p0.g1 (((p0.l.length : Nat) : Int).toNat)) - p0.m))) (by kernel_rfl) ?_; clear hr a; intro a hr
      refine op_val ((wg hr rfl rfl rfl (b' := ((wi ((at_ p0.g1 (((p0.l.length : Nat) : Int).toNat)) - p0.m)) != (1 : Int))) (by kernel_rfl)).trans (by rw [show ((wi ((at_ p0.g1 (((p0.l.length : Nat) : Int).toNat)) - p0.m)) != (1 : Int)) = true from (bne_iff_ne.mpr c34)]; rfl)) rfl rfl hr (v := .bool ((wi ((at_ p0.g1 (((p0.l.length : Nat) : Int).toNat)) - p0.m)) != (2 : Int))) (by kernel_rfl) ?_; clear hr a; intro a hr
      refine op_val (wn rfl) rfl rfl hr (v := .bool ((wi ((at_ p0.g1 (((p0.l.length : Nat) : Int).toNat)) - p0.m)) != (2 : Int))) (rp_t (b := ((wi ((at_ p0.g1 (((p0.l.length : Nat) : Int).toNat)) - p0.m)) != (1 : Int))) rfl (by kernel_rfl) (bne_iff_ne.mpr c34) (by kernel_rfl)) ?_; clear hr a; intro a hr
      refine ov hr (.bool ((wi ((at_ p0.g1 (((p0.l.length : Nat) : Int).toNat)) - p0.m)) != (2 : Int))) (by kernel_rfl) ?_; clear hr a; intro a hr
      by_cases c41 : (wi ((at_ p0.g1 (((p0.l.length : Nat) : Int).toNat)) - p0.m)) = (2 : Int)
      ·
        replace H := ifT c41 H
        refine op_off ((wg hr rfl rfl rfl (b' := ((wi ((at_ p0.g1 (((p0.l.length : Nat) : Int).toNat)) - p0.m)) != (2 : Int))) (by kernel_rfl)).trans (by rw [show ((wi ((at_ p0.g1 (((p0.l.length : Nat) : Int).toNat)) - p0.m)) != (2 : Int)) = false from (bne_eq_false_iff_eq.mpr c41)]; rfl)) rfl rfl hr ?_; clear hr a; intro a hr
        refine op_off ((wg hr rfl rfl rfl (b' := ((wi ((at_ p0.g1 (((p0.l.length : Nat) : Int).toNat)) - p0.m)) != (2 : Int))) (by kernel_rfl)).trans (by rw [show ((wi ((at_ p0.g1 (((p0.l.length : Nat) : Int).toNat)) - p0.m)) != (2 : Int)) = false from (bne_eq_false_iff_eq.mpr c41)]; rfl)) rfl rfl hr ?_; clear hr a; intro a hr
        refine op_val (wn rfl) rfl rfl hr (v := .bool false) (rp_f (b := ((wi ((at_ p0.g1 (((p0.l.length : Nat) : Int).toNat)) - p0.m)) != (2 : Int))) rfl (by kernel_rfl) (bne_eq_false_iff_eq.mpr c41) (by kernel_rfl)) ?_; clear hr a; intro a hr
        refine ov hr (.bool false) (by kernel_rfl) ?_; clear hr a; intro a hr
        refine op_val ((wg hr rfl rfl rfl (b' := false) (by kernel_rfl)).trans rfl) rfl rfl hr (v := .int .i64 (wi ((at_ p0.g2 (((p0.l.length : Nat) : Int).toNat)) - p0.m))) (by kernel_rfl) ?_; clear hr a; intro a hr
        refine op_val ((wg hr rfl rfl rfl (b' := false) (by kernel_rfl)).trans rfl) rfl rfl hr (v := .bool ((wi ((at_ p0.g2 (((p0.l.length : Nat) : Int).toNat)) - p0.m)) != (2 : Int))) (by kernel_rfl) ?_; clear hr a; intro a hr
        refine op_val ((wg hr rfl rfl rfl (b' := false) (by kernel_rfl)).trans rfl) rfl rfl hr (v := .bool ((wi ((at_ p0.g2 (((p0.l.length : Nat) : Int).toNat)) - p0.m)) != (2 : Int))) (by kernel_rfl) ?_; clear hr a; intro a hr
        by_cases c42 : (wi ((at_ p0.g2 (((p0.l.length : Nat) : Int).toNat)) - p0.m)) = (2 : Int)
        ·
          replace H := ifT c42 H
          refine op_off ((wg hr rfl rfl rfl (b' := ((wi ((at_ p0.g2 (((p0.l.length : Nat) : Int).toNat)) - p0.m)) != (2 : Int))) (by kernel_rfl)).trans (by rw [show ((wi ((at_ p0.g2 (((p0.l.length : Nat) : Int).toNat)) - p0.m)) != (2 : Int)) = false from (bne_eq_false_iff_eq.mpr c42)]; rfl)) rfl rfl hr ?_; clear hr a; intro a hr
          refine op_off ((wg hr rfl rfl rfl (b' := ((wi ((at_ p0.g2 (((p0.l.length : Nat) : Int).toNat)) - p0.m)) != (2 : Int))) (by kernel_rfl)).trans (by rw [show ((wi ((at_ p0.g2 (((p0.l.length : Nat) : Int).toNat)) - p0.m)) != (2 : Int)) = false from (bne_eq_false_iff_eq.mpr c42)]; rfl)) rfl rfl hr ?_; clear hr a; intro a hr
          refine op_val ((wg hr rfl rfl rfl (b' := false) (by kernel_rfl)).trans rfl) rfl rfl hr (v := .bool false) (rp_f (b := ((wi ((at_ p0.g2 (((p0.l.length : Nat) : Int).toNat)) - p0.m)) != (2 : Int))) rfl (by kernel_rfl) (bne_eq_false_iff_eq.mpr c42) (by kernel_rfl)) ?_; clear hr a; intro a hr
          refine ovs [108, 109] [.bool false, .bool false] hr ⟨rfl, rfl⟩ (by kernel_rfl) ?_; clear hr a; intro a hr
          refine op_val ((wg hr rfl rfl rfl (b' := false) (by kernel_rfl)).trans rfl) rfl rfl hr (v := .int .i64 (wi ((at_ p0.g2 ((wi (((p0.l.length : Nat) : Int) + (1 : Int))).toNat)) - p0.m))) (by kernel_rfl) ?_; clear hr a; intro a hr
          refine op_val ((wg hr rfl rfl rfl (b' := false) (by kernel_rfl)).trans rfl) rfl rfl hr (v := .bool ((wi ((at_ p0.g2 ((wi (((p0.l.length : Nat) : Int) + (1 : Int))).toNat)) - p0.m)) != (3 : Int))) (by kernel_rfl) ?_; clear hr a; intro a hr
          refine op_val ((wg hr rfl rfl rfl (b' := false) (by kernel_rfl)).trans rfl) rfl rfl hr (v := .bool ((wi ((at_ p0.g2 ((wi (((p0.l.length : Nat) : Int) + (1 : Int))).toNat)) - p0.m)) != (3 : Int))) (by kernel_rfl) ?_; clear hr a; intro a hr
          by_cases c43 : (wi ((at_ p0.g2 ((wi (((p0.l.length : Nat) : Int) + (1 : Int))).toNat)) - p0.m)) = (3 : Int)
          ·
            replace H := ifT c43 H
            refine op_off ((wg hr rfl rfl rfl (b' := ((wi ((at_ p0.g2 ((wi (((p0.l.length : Nat) : Int) + (1 : Int))).toNat)) - p0.m)) != (3 : Int))) (by kernel_rfl)).trans (by rw [show ((wi ((at_ p0.g2 ((wi (((p0.l.length : Nat) : Int) + (1 : Int))).toNat)) - p0.m)) != (3 : Int)) = false from (bne_eq_false_iff_eq.mpr c43)]; rfl)) rfl rfl hr ?_; clear hr a; intro a hr
            refine op_off ((wg hr rfl rfl rfl (b' := ((wi ((at_ p0.g2 ((wi (((p0.l.length : Nat) : Int) + (1 : Int))).toNat)) - p0.m)) != (3 : Int))) (by kernel_rfl)).trans (by rw [show ((wi ((at_ p0.g2 ((wi (((p0.l.length : Nat) : Int) + (1 : Int))).toNat)) - p0.m)) != (3 : Int)) = false from (bne_eq_false_iff_eq.mpr c43)]; rfl)) rfl rfl hr ?_; clear hr a; intro a hr
            refine op_val ((wg hr rfl rfl rfl (b' := false) (by kernel_rfl)).trans rfl) rfl rfl hr (v := .bool false) (rp_f (b := ((wi ((at_ p0.g2 ((wi (((p0.l.length : Nat) : Int) + (1 : Int))).toNat)) - p0.m)) != (3 : Int))) rfl (by kernel_rfl) (bne_eq_false_iff_eq.mpr c43) (by kernel_rfl)) ?_; clear hr a; intro a hr
            refine ov hr (.bool false) (by kernel_rfl) ?_; clear hr a; intro a hr
            refine wpList_nil ?_
            refine then_normal ?_
            refine cond_ff hr (b := false) rfl ?_
            refine wp_skip ?_
            refine then_normal ?_
            replace hr := hr.fold2 [(1, .pointer (some ⟨b9, 0, none⟩)), (3, .int .i64 ((p0.l.length : Nat) : Int))] (by kernel_rfl); obtain ⟨j, hr⟩ := hr
            exact ⟨(), sinj H, j, hr, h⟩
          ·
            replace H := ifF c43 H
            refine op_val ((wg hr rfl rfl rfl (b' := ((wi ((at_ p0.g2 ((wi (((p0.l.length : Nat) : Int) + (1 : Int))).toNat)) - p0.m)) != (3 : Int))) (by kernel_rfl)).trans (by rw [show ((wi ((at_ p0.g2 ((wi (((p0.l.length : Nat) : Int) + (1 : Int))).toNat)) - p0.m)) != (3 : Int)) = true from (bne_iff_ne.mpr c43)]; rfl)) rfl rfl hr (v := .int .i64 (wi ((at_ p0.g2 ((wi (((p0.l.length : Nat) : Int) + (1 : Int))).toNat)) - p0.m))) (by kernel_rfl) ?_; clear hr a; intro a hr
            refine op_val ((wg hr rfl rfl rfl (b' := ((wi ((at_ p0.g2 ((wi (((p0.l.length : Nat) : Int) + (1 : Int))).toNat)) - p0.m)) != (3 : Int))) (by kernel_rfl)).trans (by rw [show ((wi ((at_ p0.g2 ((wi (((p0.l.length : Nat) : Int) + (1 : Int))).toNat)) - p0.m)) != (3 : Int)) = true from (bne_iff_ne.mpr c43)]; rfl)) rfl rfl hr (v := .bool ((wi ((at_ p0.g2 ((wi (((p0.l.length : Nat) : Int) + (1 : Int))).toNat)) - p0.m)) != (5 : Int))) (by kernel_rfl) ?_; clear hr a; intro a hr
            refine op_val ((wg hr rfl rfl rfl (b' := false) (by kernel_rfl)).trans rfl) rfl rfl hr (v := .bool ((wi ((at_ p0.g2 ((wi (((p0.l.length : Nat) : Int) + (1 : Int))).toNat)) - p0.m)) != (5 : Int))) (rp_t (b := ((wi ((at_ p0.g2 ((wi (((p0.l.length : Nat) : Int) + (1 : Int))).toNat)) - p0.m)) != (3 : Int))) rfl (by kernel_rfl) (bne_iff_ne.mpr c43) (by kernel_rfl)) ?_; clear hr a; intro a hr
            refine ov hr (.bool ((wi ((at_ p0.g2 ((wi (((p0.l.length : Nat) : Int) + (1 : Int))).toNat)) - p0.m)) != (5 : Int))) (by kernel_rfl) ?_; clear hr a; intro a hr
            refine wpList_nil ?_
            refine then_normal ?_
            by_cases c44 : (wi ((at_ p0.g2 ((wi (((p0.l.length : Nat) : Int) + (1 : Int))).toNat)) - p0.m)) = (5 : Int)
            ·
              replace H := ifT c44 H
              refine cond_ff hr (b := ((wi ((at_ p0.g2 ((wi (((p0.l.length : Nat) : Int) + (1 : Int))).toNat)) - p0.m)) != (5 : Int))) (bne_eq_false_iff_eq.mpr c44) ?_
              refine wp_skip ?_
              refine then_normal ?_
              replace hr := hr.fold2 [(1, .pointer (some ⟨b9, 0, none⟩)), (3, .int .i64 ((p0.l.length : Nat) : Int))] (by kernel_rfl); obtain ⟨j, hr⟩ := hr
              exact ⟨(), sinj H, j, hr, h⟩
            ·
              replace H := ifF c44 H
              refine cond_tt hr (b := ((wi ((at_ p0.g2 ((wi (((p0.l.length : Nat) : Int) + (1 : Int))).toNat)) - p0.m)) != (5 : Int))) (bne_iff_ne.mpr c44) ?_
              refine wp_seq ?_
              refine wp_region_lit ?_
              refine ov hr (.bool false) (by kernel_rfl) ?_; clear hr a; intro a hr
              refine wpList_nil ?_
              refine then_normal ?_
              refine wp_ret ?_
              refine then_ret ?_
              refine end_ret1 (v := .bool false) rfl hr (by kernel_rfl) ?_
              replace H := jx0 H hK32
              replace h : Fit z (sepL (ro2 ca1 cc2 p0.l :: ro2 ca3 cc4 p0.g1 :: ro2 ca5 cc6 p0.g2 :: ro2 ca7 cc8 p0.g3 :: L)) _ := h.sel 5 [1, 2, 3, 4] (by kernel_rfl) (by kernel_rfl)
              replace H := ej1 H; subst H
              exact ⟨rfl, h⟩
        ·
          replace H := ifF c42 H
          refine op_val ((wg hr rfl rfl rfl (b' := ((wi ((at_ p0.g2 (((p0.l.length : Nat) : Int).toNat)) - p0.m)) != (2 : Int))) (by kernel_rfl)).trans (by rw [show ((wi ((at_ p0.g2 (((p0.l.length : Nat) : Int).toNat)) - p0.m)) != (2 : Int)) = true from (bne_iff_ne.mpr c42)]; rfl)) rfl rfl hr (v := .int .i64 (wi ((at_ p0.g2 (((p0.l.length : Nat) : Int).toNat)) - p0.m))) (by kernel_rfl) ?_; clear hr a; intro a hr
          refine op_val ((wg hr rfl rfl rfl (b' := ((wi ((at_ p0.g2 (((p0.l.length : Nat) : Int).toNat)) - p0.m)) != (2 : Int))) (by kernel_rfl)).trans (by rw [show ((wi ((at_ p0.g2 (((p0.l.length : Nat) : Int).toNat)) - p0.m)) != (2 : Int)) = true from (bne_iff_ne.mpr c42)]; rfl)) rfl rfl hr (v := .bool ((wi ((at_ p0.g2 (((p0.l.length : Nat) : Int).toNat)) - p0.m)) != (4 : Int))) (by kernel_rfl) ?_; clear hr a; intro a hr
          refine op_val ((wg hr rfl rfl rfl (b' := false) (by kernel_rfl)).trans rfl) rfl rfl hr (v := .bool ((wi ((at_ p0.g2 (((p0.l.length : Nat) : Int).toNat)) - p0.m)) != (4 : Int))) (rp_t (b := ((wi ((at_ p0.g2 (((p0.l.length : Nat) : Int).toNat)) - p0.m)) != (2 : Int))) rfl (by kernel_rfl) (bne_iff_ne.mpr c42) (by kernel_rfl)) ?_; clear hr a; intro a hr
          refine ovs [108, 109] [.bool ((wi ((at_ p0.g2 (((p0.l.length : Nat) : Int).toNat)) - p0.m)) != (4 : Int)), .bool ((wi ((at_ p0.g2 (((p0.l.length : Nat) : Int).toNat)) - p0.m)) != (4 : Int))] hr ⟨rfl, rfl⟩ (by kernel_rfl) ?_; clear hr a; intro a hr
          by_cases c45 : (wi ((at_ p0.g2 (((p0.l.length : Nat) : Int).toNat)) - p0.m)) = (4 : Int)
          ·
            replace H := ifT c45 H
            refine op_val ((wg hr rfl rfl rfl (b' := ((wi ((at_ p0.g2 (((p0.l.length : Nat) : Int).toNat)) - p0.m)) != (4 : Int))) (by kernel_rfl)).trans (by rw [show ((wi ((at_ p0.g2 (((p0.l.length : Nat) : Int).toNat)) - p0.m)) != (4 : Int)) = false from (bne_eq_false_iff_eq.mpr c45)]; rfl)) rfl rfl hr (v := .int .i64 (wi ((at_ p0.g2 ((wi (((p0.l.length : Nat) : Int) + (1 : Int))).toNat)) - p0.m))) (by kernel_rfl) ?_; clear hr a; intro a hr
            refine op_val ((wg hr rfl rfl rfl (b' := ((wi ((at_ p0.g2 (((p0.l.length : Nat) : Int).toNat)) - p0.m)) != (4 : Int))) (by kernel_rfl)).trans (by rw [show ((wi ((at_ p0.g2 (((p0.l.length : Nat) : Int).toNat)) - p0.m)) != (4 : Int)) = false from (bne_eq_false_iff_eq.mpr c45)]; rfl)) rfl rfl hr (v := .bool ((wi ((at_ p0.g2 ((wi (((p0.l.length : Nat) : Int) + (1 : Int))).toNat)) - p0.m)) != (3 : Int))) (by kernel_rfl) ?_; clear hr a; intro a hr
            refine op_val ((wg hr rfl rfl rfl (b' := ((wi ((at_ p0.g2 (((p0.l.length : Nat) : Int).toNat)) - p0.m)) != (4 : Int))) (by kernel_rfl)).trans (by rw [show ((wi ((at_ p0.g2 (((p0.l.length : Nat) : Int).toNat)) - p0.m)) != (4 : Int)) = false from (bne_eq_false_iff_eq.mpr c45)]; rfl)) rfl rfl hr (v := .bool ((wi ((at_ p0.g2 ((wi (((p0.l.length : Nat) : Int) + (1 : Int))).toNat)) - p0.m)) != (3 : Int))) (by kernel_rfl) ?_; clear hr a; intro a hr
            by_cases c46 : (wi ((at_ p0.g2 ((wi (((p0.l.length : Nat) : Int) + (1 : Int))).toNat)) - p0.m)) = (3 : Int)
            ·
              replace H := ifT c46 H
              refine op_off ((wg hr rfl rfl rfl (b' := ((wi ((at_ p0.g2 ((wi (((p0.l.length : Nat) : Int) + (1 : Int))).toNat)) - p0.m)) != (3 : Int))) (by kernel_rfl)).trans (by rw [show ((wi ((at_ p0.g2 ((wi (((p0.l.length : Nat) : Int) + (1 : Int))).toNat)) - p0.m)) != (3 : Int)) = false from (bne_eq_false_iff_eq.mpr c46)]; rfl)) rfl rfl hr ?_; clear hr a; intro a hr
              refine op_off ((wg hr rfl rfl rfl (b' := ((wi ((at_ p0.g2 ((wi (((p0.l.length : Nat) : Int) + (1 : Int))).toNat)) - p0.m)) != (3 : Int))) (by kernel_rfl)).trans (by rw [show ((wi ((at_ p0.g2 ((wi (((p0.l.length : Nat) : Int) + (1 : Int))).toNat)) - p0.m)) != (3 : Int)) = false from (bne_eq_false_iff_eq.mpr c46)]; rfl)) rfl rfl hr ?_; clear hr a; intro a hr
              refine op_val ((wg hr rfl rfl rfl (b' := ((wi ((at_ p0.g2 (((p0.l.length : Nat) : Int).toNat)) - p0.m)) != (4 : Int))) (by kernel_rfl)).trans (by rw [show ((wi ((at_ p0.g2 (((p0.l.length : Nat) : Int).toNat)) - p0.m)) != (4 : Int)) = false from (bne_eq_false_iff_eq.mpr c45)]; rfl)) rfl rfl hr (v := .bool false) (rp_f (b := ((wi ((at_ p0.g2 ((wi (((p0.l.length : Nat) : Int) + (1 : Int))).toNat)) - p0.m)) != (3 : Int))) rfl (by kernel_rfl) (bne_eq_false_iff_eq.mpr c46) (by kernel_rfl)) ?_; clear hr a; intro a hr
              refine op_val (wn rfl) rfl rfl hr (v := .bool false) (rp_f (b := ((wi ((at_ p0.g2 (((p0.l.length : Nat) : Int).toNat)) - p0.m)) != (4 : Int))) rfl (by kernel_rfl) (bne_eq_false_iff_eq.mpr c45) (by kernel_rfl)) ?_; clear hr a; intro a hr
              refine wpList_nil ?_
              refine then_normal ?_
              refine cond_ff hr (b := false) rfl ?_
              refine wp_skip ?_
              refine then_normal ?_
              replace hr := hr.fold2 [(1, .pointer (some ⟨b9, 0, none⟩)), (3, .int .i64 ((p0.l.length : Nat) : Int))] (by kernel_rfl); obtain ⟨j, hr⟩ := hr
              exact ⟨(), sinj H, j, hr, h⟩
            ·
              replace H := ifF c46 H
              refine op_val ((wg hr rfl rfl rfl (b' := ((wi ((at_ p0.g2 ((wi (((p0.l.length : Nat) : Int) + (1 : Int))).toNat)) - p0.m)) != (3 : Int))) (by kernel_rfl)).trans (by rw [show ((wi ((at_ p0.g2 ((wi (((p0.l.length : Nat) : Int) + (1 : Int))).toNat)) - p0.m)) != (3 : Int)) = true from (bne_iff_ne.mpr c46)]; rfl)) rfl rfl hr (v := .int .i64 (wi ((at_ p0.g2 ((wi (((p0.l.length : Nat) : Int) + (1 : Int))).toNat)) - p0.m))) (by kernel_rfl) ?_; clear hr a; intro a hr
              refine op_val ((wg hr rfl rfl rfl (b' := ((wi ((at_ p0.g2 ((wi (((p0.l.length : Nat) : Int) + (1 : Int))).toNat)) - p0.m)) != (3 : Int))) (by kernel_rfl)).trans (by rw [show ((wi ((at_ p0.g2 ((wi (((p0.l.length : Nat) : Int) + (1 : Int))).toNat)) - p0.m)) != (3 : Int)) = true from (bne_iff_ne.mpr c46)]; rfl)) rfl rfl hr (v := .bool ((wi ((at_ p0.g2 ((wi (((p0.l.length : Nat) : Int) + (1 : Int))).toNat)) - p0.m)) != (5 : Int))) (by kernel_rfl) ?_; clear hr a; intro a hr
              refine op_val ((wg hr rfl rfl rfl (b' := ((wi ((at_ p0.g2 (((p0.l.length : Nat) : Int).toNat)) - p0.m)) != (4 : Int))) (by kernel_rfl)).trans (by rw [show ((wi ((at_ p0.g2 (((p0.l.length : Nat) : Int).toNat)) - p0.m)) != (4 : Int)) = false from (bne_eq_false_iff_eq.mpr c45)]; rfl)) rfl rfl hr (v := .bool ((wi ((at_ p0.g2 ((wi (((p0.l.length : Nat) : Int) + (1 : Int))).toNat)) - p0.m)) != (5 : Int))) (rp_t (b := ((wi ((at_ p0.g2 ((wi (((p0.l.length : Nat) : Int) + (1 : Int))).toNat)) - p0.m)) != (3 : Int))) rfl (by kernel_rfl) (bne_iff_ne.mpr c46) (by kernel_rfl)) ?_; clear hr a; intro a hr
              refine op_val (wn rfl) rfl rfl hr (v := .bool ((wi ((at_ p0.g2 ((wi (((p0.l.length : Nat) : Int) + (1 : Int))).toNat)) - p0.m)) != (5 : Int))) (rp_f (b := ((wi ((at_ p0.g2 (((p0.l.length : Nat) : Int).toNat)) - p0.m)) != (4 : Int))) rfl (by kernel_rfl) (bne_eq_false_iff_eq.mpr c45) (by kernel_rfl)) ?_; clear hr a; intro a hr
              refine wpList_nil ?_
              refine then_normal ?_
              by_cases c47 : (wi ((at_ p0.g2 ((wi (((p0.l.length : Nat) : Int) + (1 : Int))).toNat)) - p0.m)) = (5 : Int)
              ·
                replace H := ifT c47 H
                refine cond_ff hr (b := ((wi ((at_ p0.g2 ((wi (((p0.l.length : Nat) : Int) + (1 : Int))).toNat)) - p0.m)) != (5 : Int))) (bne_eq_false_iff_eq.mpr c47) ?_
                refine wp_skip ?_
                refine then_normal ?_
                replace hr := hr.fold2 [(1, .pointer (some ⟨b9, 0, none⟩)), (3, .int .i64 ((p0.l.length : Nat) : Int))] (by kernel_rfl); obtain ⟨j, hr⟩ := hr
                exact ⟨(), sinj H, j, hr, h⟩
              ·
                replace H := ifF c47 H
                refine cond_tt hr (b := ((wi ((at_ p0.g2 ((wi (((p0.l.length : Nat) : Int) + (1 : Int))).toNat)) - p0.m)) != (5 : Int))) (bne_iff_ne.mpr c47) ?_
                refine wp_seq ?_
                refine wp_region_lit ?_
                refine ov hr (.bool false) (by kernel_rfl) ?_; clear hr a; intro a hr
                refine wpList_nil ?_
                refine then_normal ?_
                refine wp_ret ?_
                refine then_ret ?_
                refine end_ret1 (v := .bool false) rfl hr (by kernel_rfl) ?_
                replace H := jx0 H hK32
                replace h : Fit z (sepL (ro2 ca1 cc2 p0.l :: ro2 ca3 cc4 p0.g1 :: ro2 ca5 cc6 p0.g2 :: ro2 ca7 cc8 p0.g3 :: L)) _ := h.sel 5 [1, 2, 3, 4] (by kernel_rfl) (by kernel_rfl)
                replace H := ej1 H; subst H
                exact ⟨rfl, h⟩
          ·
            replace H := ifF c45 H
            refine op_off ((wg hr rfl rfl rfl (b' := ((wi ((at_ p0.g2 (((p0.l.length : Nat) : Int).toNat)) - p0.m)) != (4 : Int))) (by kernel_rfl)).trans (by rw [show ((wi ((at_ p0.g2 (((p0.l.length : Nat) : Int).toNat)) - p0.m)) != (4 : Int)) = true from (bne_iff_ne.mpr c45)]; rfl)) rfl rfl hr ?_; clear hr a; intro a hr
            refine op_off ((wg hr rfl rfl rfl (b' := ((wi ((at_ p0.g2 (((p0.l.length : Nat) : Int).toNat)) - p0.m)) != (4 : Int))) (by kernel_rfl)).trans (by rw [show ((wi ((at_ p0.g2 (((p0.l.length : Nat) : Int).toNat)) - p0.m)) != (4 : Int)) = true from (bne_iff_ne.mpr c45)]; rfl)) rfl rfl hr ?_; clear hr a; intro a hr
            refine op_off ((wg hr rfl rfl rfl (b' := ((wi ((at_ p0.g2 (((p0.l.length : Nat) : Int).toNat)) - p0.m)) != (4 : Int))) (by kernel_rfl)).trans (by rw [show ((wi ((at_ p0.g2 (((p0.l.length : Nat) : Int).toNat)) - p0.m)) != (4 : Int)) = true from (bne_iff_ne.mpr c45)]; rfl)) rfl rfl hr ?_; clear hr a; intro a hr
            refine op_off (wg_undef hr rfl rfl rfl (by kernel_rfl)) rfl rfl hr ?_; clear hr a; intro a hr
            refine op_off (wg_undef hr rfl rfl rfl (by kernel_rfl)) rfl rfl hr ?_; clear hr a; intro a hr
            refine op_off ((wg hr rfl rfl rfl (b' := ((wi ((at_ p0.g2 (((p0.l.length : Nat) : Int).toNat)) - p0.m)) != (4 : Int))) (by kernel_rfl)).trans (by rw [show ((wi ((at_ p0.g2 (((p0.l.length : Nat) : Int).toNat)) - p0.m)) != (4 : Int)) = true from (bne_iff_ne.mpr c45)]; rfl)) rfl rfl hr ?_; clear hr a; intro a hr
            refine op_val (wn rfl) rfl rfl hr (v := .bool true) (rp_t (b := ((wi ((at_ p0.g2 (((p0.l.length : Nat) : Int).toNat)) - p0.m)) != (4 : Int))) rfl (by kernel_rfl) (bne_iff_ne.mpr c45) (by kernel_rfl)) ?_; clear hr a; intro a hr
            refine wpList_nil ?_
            refine then_normal ?_
            refine cond_tt hr (b := true) rfl ?_
            refine wp_seq ?_
            refine wp_region_lit ?_
            refine ov hr (.bool false) (by kernel_rfl) ?_; clear hr a; intro a hr
            refine wpList_nil ?_
            refine then_normal ?_
            refine wp_ret ?_
            refine then_ret ?_
            refine end_ret1 (v := .bool false) rfl hr (by kernel_rfl) ?_
            replace H := jx0 H hK32
            replace h : Fit z (sepL (ro2 ca1 cc2 p0.l :: ro2 ca3 cc4 p0.g1 :: ro2 ca5 cc6 p0.g2 :: ro2 ca7 cc8 p0.g3 :: L)) _ := h.sel 5 [1, 2, 3, 4] (by kernel_rfl) (by kernel_rfl)
            replace H := ej1 H; subst H
            exact ⟨rfl, h⟩
      ·
        replace H := ifF c41 H
        refine op_val ((wg hr rfl rfl rfl (b' := ((wi ((at_ p0.g1 (((p0.l.length : Nat) : Int).toNat)) - p0.m)) != (2 : Int))) (by kernel_rfl)).trans (by rw [show ((wi ((at_ p0.g1 (((p0.l.length : Nat) : Int).toNat)) - p0.m)) != (2 : Int)) = true from (bne_iff_ne.mpr c41)]; rfl)) rfl rfl hr (v := .int .i64 (wi ((at_ p0.g1 (((p0.l.length : Nat) : Int).toNat)) - p0.m))) (by kernel_rfl) ?_; clear hr a; intro a hr
        refine op_val ((wg hr rfl rfl rfl (b' := ((wi ((at_ p0.g1 (((p0.l.length : Nat) : Int).toNat)) - p0.m)) != (2 : Int))) (by kernel_rfl)).trans (by rw [show ((wi ((at_ p0.g1 (((p0.l.length : Nat) : Int).toNat)) - p0.m)) != (2 : Int)) = true from (bne_iff_ne.mpr c41)]; rfl)) rfl rfl hr (v := .bool ((wi ((at_ p0.g1 (((p0.l.length : Nat) : Int).toNat)) - p0.m)) != (4 : Int))) (by kernel_rfl) ?_; clear hr a; intro a hr
        refine op_val (wn rfl) rfl rfl hr (v := .bool ((wi ((at_ p0.g1 (((p0.l.length : Nat) : Int).toNat)) - p0.m)) != (4 : Int))) (rp_t (b := ((wi ((at_ p0.g1 (((p0.l.length : Nat) : Int).toNat)) - p0.m)) != (2 : Int))) rfl (by kernel_rfl) (bne_iff_ne.mpr c41) (by kernel_rfl)) ?_; clear hr a; intro a hr
        refine ov hr (.bool ((wi ((at_ p0.g1 (((p0.l.length : Nat) : Int).toNat)) - p0.m)) != (4 : Int))) (by kernel_rfl) ?_; clear hr a; intro a hr
        by_cases c48 : (wi ((at_ p0.g1 (((p0.l.length : Nat) : Int).toNat)) - p0.m)) = (4 : Int)
        ·
          replace H := ifT c48 H
          refine op_val ((wg hr rfl rfl rfl (b' := ((wi ((at_ p0.g1 (((p0.l.length : Nat) : Int).toNat)) - p0.m)) != (4 : Int))) (by kernel_rfl)).trans (by rw [show ((wi ((at_ p0.g1 (((p0.l.length : Nat) : Int).toNat)) - p0.m)) != (4 : Int)) = false from (bne_eq_false_iff_eq.mpr c48)]; rfl)) rfl rfl hr (v := .int .i64 (wi ((at_ p0.g2 (((p0.l.length : Nat) : Int).toNat)) - p0.m))) (by kernel_rfl) ?_; clear hr a; intro a hr
          refine op_val ((wg hr rfl rfl rfl (b' := ((wi ((at_ p0.g1 (((p0.l.length : Nat) : Int).toNat)) - p0.m)) != (4 : Int))) (by kernel_rfl)).trans (by rw [show ((wi ((at_ p0.g1 (((p0.l.length : Nat) : Int).toNat)) - p0.m)) != (4 : Int)) = false from (bne_eq_false_iff_eq.mpr c48)]; rfl)) rfl rfl hr (v := .bool ((wi ((at_ p0.g2 (((p0.l.length : Nat) : Int).toNat)) - p0.m)) != (2 : Int))) (by kernel_rfl) ?_; clear hr a; intro a hr
          refine op_val ((wg hr rfl rfl rfl (b' := ((wi ((at_ p0.g1 (((p0.l.length : Nat) : Int).toNat)) - p0.m)) != (4 : Int))) (by kernel_rfl)).trans (by rw [show ((wi ((at_ p0.g1 (((p0.l.length : Nat) : Int).toNat)) - p0.m)) != (4 : Int)) = false from (bne_eq_false_iff_eq.mpr c48)]; rfl)) rfl rfl hr (v := .bool ((wi ((at_ p0.g2 (((p0.l.length : Nat) : Int).toNat)) - p0.m)) != (2 : Int))) (by kernel_rfl) ?_; clear hr a; intro a hr
          by_cases c49 : (wi ((at_ p0.g2 (((p0.l.length : Nat) : Int).toNat)) - p0.m)) = (2 : Int)
          ·
            replace H := ifT c49 H
            refine op_off ((wg hr rfl rfl rfl (b' := ((wi ((at_ p0.g2 (((p0.l.length : Nat) : Int).toNat)) - p0.m)) != (2 : Int))) (by kernel_rfl)).trans (by rw [show ((wi ((at_ p0.g2 (((p0.l.length : Nat) : Int).toNat)) - p0.m)) != (2 : Int)) = false from (bne_eq_false_iff_eq.mpr c49)]; rfl)) rfl rfl hr ?_; clear hr a; intro a hr
            refine op_off ((wg hr rfl rfl rfl (b' := ((wi ((at_ p0.g2 (((p0.l.length : Nat) : Int).toNat)) - p0.m)) != (2 : Int))) (by kernel_rfl)).trans (by rw [show ((wi ((at_ p0.g2 (((p0.l.length : Nat) : Int).toNat)) - p0.m)) != (2 : Int)) = false from (bne_eq_false_iff_eq.mpr c49)]; rfl)) rfl rfl hr ?_; clear hr a; intro a hr
            refine op_val ((wg hr rfl rfl rfl (b' := ((wi ((at_ p0.g1 (((p0.l.length : Nat) : Int).toNat)) - p0.m)) != (4 : Int))) (by kernel_rfl)).trans (by rw [show ((wi ((at_ p0.g1 (((p0.l.length : Nat) : Int).toNat)) - p0.m)) != (4 : Int)) = false from (bne_eq_false_iff_eq.mpr c48)]; rfl)) rfl rfl hr (v := .bool false) (rp_f (b := ((wi ((at_ p0.g2 (((p0.l.length : Nat) : Int).toNat)) - p0.m)) != (2 : Int))) rfl (by kernel_rfl) (bne_eq_false_iff_eq.mpr c49) (by kernel_rfl)) ?_; clear hr a; intro a hr
            refine op_val (wn rfl) rfl rfl hr (v := .bool false) (rp_f (b := ((wi ((at_ p0.g1 (((p0.l.length : Nat) : Int).toNat)) - p0.m)) != (4 : Int))) rfl (by kernel_rfl) (bne_eq_false_iff_eq.mpr c48) (by kernel_rfl)) ?_; clear hr a; intro a hr
            refine ov hr (.bool false) (by kernel_rfl) ?_; clear hr a; intro a hr
            refine op_val ((wg hr rfl rfl rfl (b' := false) (by kernel_rfl)).trans rfl) rfl rfl hr (v := .int .i64 (wi ((at_ p0.g2 ((wi (((p0.l.length : Nat) : Int) + (1 : Int))).toNat)) - p0.m))) (by kernel_rfl) ?_; clear hr a; intro a hr
            refine op_val ((wg hr rfl rfl rfl (b' := false) (by kernel_rfl)).trans rfl) rfl rfl hr (v := .bool ((wi ((at_ p0.g2 ((wi (((p0.l.length : Nat) : Int) + (1 : Int))).toNat)) - p0.m)) != (3 : Int))) (by kernel_rfl) ?_; clear hr a; intro a hr
            refine op_val ((wg hr rfl rfl rfl (b' := false) (by kernel_rfl)).trans rfl) rfl rfl hr (v := .bool ((wi ((at_ p0.g2 ((wi (((p0.l.length : Nat) : Int) + (1 : Int))).toNat)) - p0.m)) != (3 : Int))) (by kernel_rfl) ?_; clear hr a; intro a hr
            by_cases c50 : (wi ((at_ p0.g2 ((wi (((p0.l.length : Nat) : Int) + (1 : Int))).toNat)) - p0.m)) = (3 : Int)
            ·
              replace H := ifT c50 H
              refine op_off ((wg hr rfl rfl rfl (b' := ((wi ((at_ p0.g2 ((wi (((p0.l.length : Nat) : Int) + (1 : Int))).toNat)) - p0.m)) != (3 : Int))) (by kernel_rfl)).trans (by rw [show ((wi ((at_ p0.g2 ((wi (((p0.l.length : Nat) : Int) + (1 : Int))).toNat)) - p0.m)) != (3 : Int)) = false from (bne_eq_false_iff_eq.mpr c50)]; rfl)) rfl rfl hr ?_; clear hr a; intro a hr
              refine op_off ((wg hr rfl rfl rfl (b' := ((wi ((at_ p0.g2 ((wi (((p0.l.length : Nat) : Int) + (1 : Int))).toNat)) - p0.m)) != (3 : Int))) (by kernel_rfl)).trans (by rw [show ((wi ((at_ p0.g2 ((wi (((p0.l.length : Nat) : Int) + (1 : Int))).toNat)) - p0.m)) != (3 : Int)) = false from (bne_eq_false_iff_eq.mpr c50)]; rfl)) rfl rfl hr ?_; clear hr a; intro a hr
              refine op_val ((wg hr rfl rfl rfl (b' := false) (by kernel_rfl)).trans rfl) rfl rfl hr (v := .bool false) (rp_f (b := ((wi ((at_ p0.g2 ((wi (((p0.l.length : Nat) : Int) + (1 : Int))).toNat)) - p0.m)) != (3 : Int))) rfl (by kernel_rfl) (bne_eq_false_iff_eq.mpr c50) (by kernel_rfl)) ?_; clear hr a; intro a hr
              refine ov hr (.bool false) (by kernel_rfl) ?_; clear hr a; intro a hr
              refine wpList_nil ?_
              refine then_normal ?_
              refine cond_ff hr (b := false) rfl ?_
              refine wp_skip ?_
              refine then_normal ?_
              replace hr := hr.fold2 [(1, .pointer (some ⟨b9, 0, none⟩)), (3, .int .i64 ((p0.l.length : Nat) : Int))] (by kernel_rfl); obtain ⟨j, hr⟩ := hr
              exact ⟨(), sinj H, j, hr, h⟩
            ·
              replace H := ifF c50 H
              refine op_val ((wg hr rfl rfl rfl (b' := ((wi ((at_ p0.g2 ((wi (((p0.l.length : Nat) : Int) + (1 : Int))).toNat)) - p0.m)) != (3 : Int))) (by kernel_rfl)).trans (by rw [show ((wi ((at_ p0.g2 ((wi (((p0.l.length : Nat) : Int) + (1 : Int))).toNat)) - p0.m)) != (3 : Int)) = true from (bne_iff_ne.mpr c50)]; rfl)) rfl rfl hr (v := .int .i64 (wi ((at_ p0.g2 ((wi (((p0.l.length : Nat) : Int) + (1 : Int))).toNat)) - p0.m))) (by kernel_rfl) ?_; clear hr a; intro a hr
              refine op_val ((wg hr rfl rfl rfl (b' := ((wi ((at_ p0.g2 ((wi (((p0.l.length : Nat) : Int) + (1 : Int))).toNat)) - p0.m)) != (3 : Int))) (by kernel_rfl)).trans (by rw [show ((wi ((at_ p0.g2 ((wi (((p0.l.length : Nat) : Int) + (1 : Int))).toNat)) - p0.m)) != (3 : Int)) = true from (bne_iff_ne.mpr c50)]; rfl)) rfl rfl hr (v := .bool ((wi ((at_ p0.g2 ((wi (((p0.l.length : Nat) : Int) + (1 : Int))).toNat)) - p0.m)) != (5 : Int))) (by kernel_rfl) ?_; clear hr a; intro a hr
              refine op_val ((wg hr rfl rfl rfl (b' := false) (by kernel_rfl)).trans rfl) rfl rfl hr (v := .bool ((wi ((at_ p0.g2 ((wi (((p0.l.length : Nat) : Int) + (1 : Int))).toNat)) - p0.m)) != (5 : Int))) (rp_t (b := ((wi ((at_ p0.g2 ((wi (((p0.l.length : Nat) : Int) + (1 : Int))).toNat)) - p0.m)) != (3 : Int))) rfl (by kernel_rfl) (bne_iff_ne.mpr c50) (by kernel_rfl)) ?_; clear hr a; intro a hr
              refine ov hr (.bool ((wi ((at_ p0.g2 ((wi (((p0.l.length : Nat) : Int) + (1 : Int))).toNat)) - p0.m)) != (5 : Int))) (by kernel_rfl) ?_; clear hr a; intro a hr
              refine wpList_nil ?_
              refine then_normal ?_
              by_cases c51 : (wi ((at_ p0.g2 ((wi (((p0.l.length : Nat) : Int) + (1 : Int))).toNat)) - p0.m)) = (5 : Int)
              ·
                replace H := ifT c51 H
                refine cond_ff hr (b := ((wi ((at_ p0.g2 ((wi (((p0.l.length : Nat) : Int) + (1 : Int))).toNat)) - p0.m)) != (5 : Int))) (bne_eq_false_iff_eq.mpr c51) ?_
                refine wp_skip ?_
                refine then_normal ?_
                replace hr := hr.fold2 [(1, .pointer (some ⟨b9, 0, none⟩)), (3, .int .i64 ((p0.l.length : Nat) : Int))] (by kernel_rfl); obtain ⟨j, hr⟩ := hr
                exact ⟨(), sinj H, j, hr, h⟩
              ·
                replace H := ifF c51 H
                refine cond_tt hr (b := ((wi ((at_ p0.g2 ((wi (((p0.l.length : Nat) : Int) + (1 : Int))).toNat)) - p0.m)) != (5 : Int))) (bne_iff_ne.mpr c51) ?_
                refine wp_seq ?_
                refine wp_region_lit ?_
                refine ov hr (.bool false) (by kernel_rfl) ?_; clear hr a; intro a hr
                refine wpList_nil ?_
                refine then_normal ?_
                refine wp_ret ?_
                refine then_ret ?_
                refine end_ret1 (v := .bool false) rfl hr (by kernel_rfl) ?_
                replace H := jx0 H hK32
                replace h : Fit z (sepL (ro2 ca1 cc2 p0.l :: ro2 ca3 cc4 p0.g1 :: ro2 ca5 cc6 p0.g2 :: ro2 ca7 cc8 p0.g3 :: L)) _ := h.sel 5 [1, 2, 3, 4] (by kernel_rfl) (by kernel_rfl)
                replace H := ej1 H; subst H
                exact ⟨rfl, h⟩
          ·
            replace H := ifF c49 H
            refine op_val ((wg hr rfl rfl rfl (b' := ((wi ((at_ p0.g2 (((p0.l.length : Nat) : Int).toNat)) - p0.m)) != (2 : Int))) (by kernel_rfl)).trans (by rw [show ((wi ((at_ p0.g2 (((p0.l.length : Nat) : Int).toNat)) - p0.m)) != (2 : Int)) = true from (bne_iff_ne.mpr c49)]; rfl)) rfl rfl hr (v := .int .i64 (wi ((at_ p0.g2 (((p0.l.length : Nat) : Int).toNat)) - p0.m))) (by kernel_rfl) ?_; clear hr a; intro a hr
            refine op_val ((wg hr rfl rfl rfl (b' := ((wi ((at_ p0.g2 (((p0.l.length : Nat) : Int).toNat)) - p0.m)) != (2 : Int))) (by kernel_rfl)).trans (by rw [show ((wi ((at_ p0.g2 (((p0.l.length : Nat) : Int).toNat)) - p0.m)) != (2 : Int)) = true from (bne_iff_ne.mpr c49)]; rfl)) rfl rfl hr (v := .bool ((wi ((at_ p0.g2 (((p0.l.length : Nat) : Int).toNat)) - p0.m)) != (4 : Int))) (by kernel_rfl) ?_; clear hr a; intro a hr
            refine op_val ((wg hr rfl rfl rfl (b' := ((wi ((at_ p0.g1 (((p0.l.length : Nat) : Int).toNat)) - p0.m)) != (4 : Int))) (by kernel_rfl)).trans (by rw [show ((wi ((at_ p0.g1 (((p0.l.length : Nat) : Int).toNat)) - p0.m)) != (4 : Int)) = false from (bne_eq_false_iff_eq.mpr c48)]; rfl)) rfl rfl hr (v := .bool ((wi ((at_ p0.g2 (((p0.l.length : Nat) : Int).toNat)) - p0.m)) != (4 : Int))) (rp_t (b := ((wi ((at_ p0.g2 (((p0.l.length : Nat) : Int).toNat)) - p0.m)) != (2 : Int))) rfl (by kernel_rfl) (bne_iff_ne.mpr c49) (by kernel_rfl)) ?_; clear hr a; intro a hr
            refine op_val (wn rfl) rfl rfl hr (v := .bool ((wi ((at_ p0.g2 (((p0.l.length : Nat) : Int).toNat)) - p0.m)) != (4 : Int))) (rp_f (b := ((wi ((at_ p0.g1 (((p0.l.length : Nat) : Int).toNat)) - p0.m)) != (4 : Int))) rfl (by kernel_rfl) (bne_eq_false_iff_eq.mpr c48) (by kernel_rfl)) ?_; clear hr a; intro a hr
            refine ov hr (.bool ((wi ((at_ p0.g2 (((p0.l.length : Nat) : Int).toNat)) - p0.m)) != (4 : Int))) (by kernel_rfl) ?_; clear hr a; intro a hr
            by_cases c52 : (wi ((at_ p0.g2 (((p0.l.length : Nat) : Int).toNat)) - p0.m)) = (4 : Int)
            ·
              replace H := ifT c52 H
              refine op_val ((wg hr rfl rfl rfl (b' := ((wi ((at_ p0.g2 (((p0.l.length : Nat) : Int).toNat)) - p0.m)) != (4 : Int))) (by kernel_rfl)).trans (by rw [show ((wi ((at_ p0.g2 (((p0.l.length : Nat) : Int).toNat)) - p0.m)) != (4 : Int)) = false from (bne_eq_false_iff_eq.mpr c52)]; rfl)) rfl rfl hr (v := .int .i64 (wi ((at_ p0.g2 ((wi (((p0.l.length : Nat) : Int) + (1 : Int))).toNat)) - p0.m))) (by kernel_rfl) ?_; clear hr a; intro a hr
              refine op_val ((wg hr rfl rfl rfl (b' := ((wi ((at_ p0.g2 (((p0.l.length : Nat) : Int).toNat)) - p0.m)) != (4 : Int))) (by kernel_rfl)).trans (by rw [show ((wi ((at_ p0.g2 (((p0.l.length : Nat) : Int).toNat)) - p0.m)) != (4 : Int)) = false from (bne_eq_false_iff_eq.mpr c52)]; rfl)) rfl rfl hr (v := .bool ((wi ((at_ p0.g2 ((wi (((p0.l.length : Nat) : Int) + (1 : Int))).toNat)) - p0.m)) != (3 : Int))) (by kernel_rfl) ?_; clear hr a; intro a hr
              refine op_val ((wg hr rfl rfl rfl (b' := ((wi ((at_ p0.g2 (((p0.l.length : Nat) : Int).toNat)) - p0.m)) != (4 : Int))) (by kernel_rfl)).trans (by rw [show ((wi ((at_ p0.g2 (((p0.l.length : Nat) : Int).toNat)) - p0.m)) != (4 : Int)) = false from (bne_eq_false_iff_eq.mpr c52)]; rfl)) rfl rfl hr (v := .bool ((wi ((at_ p0.g2 ((wi (((p0.l.length : Nat) : Int) + (1 : Int))).toNat)) - p0.m)) != (3 : Int))) (by kernel_rfl) ?_; clear hr a; intro a hr
              by_cases c53 : (wi ((at_ p0.g2 ((wi (((p0.l.length : Nat) : Int) + (1 : Int))).toNat)) - p0.m)) = (3 : Int)
              ·
                replace H := ifT c53 H
                refine op_off ((wg hr rfl rfl rfl (b' := ((wi ((at_ p0.g2 ((wi (((p0.l.length : Nat) : Int) + (1 : Int))).toNat)) - p0.m)) != (3 : Int))) (by kernel_rfl)).trans (by rw [show ((wi ((at_ p0.g2 ((wi (((p0.l.length : Nat) : Int) + (1 : Int))).toNat)) - p0.m)) != (3 : Int)) = false from (bne_eq_false_iff_eq.mpr c53)]; rfl)) rfl rfl hr ?_; clear hr a; intro a hr
                refine op_off ((wg hr rfl rfl rfl (b' := ((wi ((at_ p0.g2 ((wi (((p0.l.length : Nat) : Int) + (1 : Int))).toNat)) - p0.m)) != (3 : Int))) (by kernel_rfl)).trans (by rw [show ((wi ((at_ p0.g2 ((wi (((p0.l.length : Nat) : Int) + (1 : Int))).toNat)) - p0.m)) != (3 : Int)) = false from (bne_eq_false_iff_eq.mpr c53)]; rfl)) rfl rfl hr ?_; clear hr a; intro a hr
                refine op_val ((wg hr rfl rfl rfl (b' := ((wi ((at_ p0.g2 (((p0.l.length : Nat) : Int).toNat)) - p0.m)) != (4 : Int))) (by kernel_rfl)).trans (by rw [show ((wi ((at_ p0.g2 (((p0.l.length : Nat) : Int).toNat)) - p0.m)) != (4 : Int)) = false from (bne_eq_false_iff_eq.mpr c52)]; rfl)) rfl rfl hr (v := .bool false) (rp_f (b := ((wi ((at_ p0.g2 ((wi (((p0.l.length : Nat) : Int) + (1 : Int))).toNat)) - p0.m)) != (3 : Int))) rfl (by kernel_rfl) (bne_eq_false_iff_eq.mpr c53) (by kernel_rfl)) ?_; clear hr a; intro a hr
                refine op_val (wn rfl) rfl rfl hr (v := .bool false) (rp_f (b := ((wi ((at_ p0.g2 (((p0.l.length : Nat) : Int).toNat)) - p0.m)) != (4 : Int))) rfl (by kernel_rfl) (bne_eq_false_iff_eq.mpr c52) (by kernel_rfl)) ?_; clear hr a; intro a hr
                refine wpList_nil ?_
                refine then_normal ?_
                refine cond_ff hr (b := false) rfl ?_
                refine wp_skip ?_
                refine then_normal ?_
                replace hr := hr.fold2 [(1, .pointer (some ⟨b9, 0, none⟩)), (3, .int .i64 ((p0.l.length : Nat) : Int))] (by kernel_rfl); obtain ⟨j, hr⟩ := hr
                exact ⟨(), sinj H, j, hr, h⟩
              ·
                replace H := ifF c53 H
                refine op_val ((wg hr rfl rfl rfl (b' := ((wi ((at_ p0.g2 ((wi (((p0.l.length : Nat) : Int) + (1 : Int))).toNat)) - p0.m)) != (3 : Int))) (by kernel_rfl)).trans (by rw [show ((wi ((at_ p0.g2 ((wi (((p0.l.length : Nat) : Int) + (1 : Int))).toNat)) - p0.m)) != (3 : Int)) = true from (bne_iff_ne.mpr c53)]; rfl)) rfl rfl hr (v := .int .i64 (wi ((at_ p0.g2 ((wi (((p0.l.length : Nat) : Int) + (1 : Int))).toNat)) - p0.m))) (by kernel_rfl) ?_; clear hr a; intro a hr
                refine op_val ((wg hr rfl rfl rfl (b' := ((wi ((at_ p0.g2 ((wi (((p0.l.length : Nat) : Int) + (1 : Int))).toNat)) - p0.m)) != (3 : Int))) (by kernel_rfl)).trans (by rw [show ((wi ((at_ p0.g2 ((wi (((p0.l.length : Nat) : Int) + (1 : Int))).toNat)) - p0.m)) != (3 : Int)) = true from (bne_iff_ne.mpr c53)]; rfl)) rfl rfl hr (v := .bool ((wi ((at_ p0.g2 ((wi (((p0.l.length : Nat) : Int) + (1 : Int))).toNat)) - p0.m)) != (5 : Int))) (by kernel_rfl) ?_; clear hr a; intro a hr
                refine op_val ((wg hr rfl rfl rfl (b' := ((wi ((at_ p0.g2 (((p0.l.length : Nat) : Int).toNat)) - p0.m)) != (4 : Int))) (by kernel_rfl)).trans (by rw [show ((wi ((at_ p0.g2 (((p0.l.length : Nat) : Int).toNat)) - p0.m)) != (4 : Int)) = false from (bne_eq_false_iff_eq.mpr c52)]; rfl)) rfl rfl hr (v := .bool ((wi ((at_ p0.g2 ((wi (((p0.l.length : Nat) : Int) + (1 : Int))).toNat)) - p0.m)) != (5 : Int))) (rp_t (b := ((wi ((at_ p0.g2 ((wi (((p0.l.length : Nat) : Int) + (1 : Int))).toNat)) - p0.m)) != (3 : Int))) rfl (by kernel_rfl) (bne_iff_ne.mpr c53) (by kernel_rfl)) ?_; clear hr a; intro a hr
                refine op_val (wn rfl) rfl rfl hr (v := .bool ((wi ((at_ p0.g2 ((wi (((p0.l.length : Nat) : Int) + (1 : Int))).toNat)) - p0.m)) != (5 : Int))) (rp_f (b := ((wi ((at_ p0.g2 (((p0.l.length : Nat) : Int).toNat)) - p0.m)) != (4 : Int))) rfl (by kernel_rfl) (bne_eq_false_iff_eq.mpr c52) (by kernel_rfl)) ?_; clear hr a; intro a hr
                refine wpList_nil ?_
                refine then_normal ?_
                by_cases c54 : (wi ((at_ p0.g2 ((wi (((p0.l.length : Nat) : Int) + (1 : Int))).toNat)) - p0.m)) = (5 : Int)
                ·
                  replace H := ifT c54 H
                  refine cond_ff hr (b := ((wi ((at_ p0.g2 ((wi (((p0.l.length : Nat) : Int) + (1 : Int))).toNat)) - p0.m)) != (5 : Int))) (bne_eq_false_iff_eq.mpr c54) ?_
                  refine wp_skip ?_
                  refine then_normal ?_
                  replace hr := hr.fold2 [(1, .pointer (some ⟨b9, 0, none⟩)), (3, .int .i64 ((p0.l.length : Nat) : Int))] (by kernel_rfl); obtain ⟨j, hr⟩ := hr
                  exact ⟨(), sinj H, j, hr, h⟩
                ·
                  replace H := ifF c54 H
                  refine cond_tt hr (b := ((wi ((at_ p0.g2 ((wi (((p0.l.length : Nat) : Int) + (1 : Int))).toNat)) - p0.m)) != (5 : Int))) (bne_iff_ne.mpr c54) ?_
                  refine wp_seq ?_
                  refine wp_region_lit ?_
                  refine ov hr (.bool false) (by kernel_rfl) ?_; clear hr a; intro a hr
                  refine wpList_nil ?_
                  refine then_normal ?_
                  refine wp_ret ?_
                  refine then_ret ?_
                  refine end_ret1 (v := .bool false) rfl hr (by kernel_rfl) ?_
                  replace H := jx0 H hK32
                  replace h : Fit z (sepL (ro2 ca1 cc2 p0.l :: ro2 ca3 cc4 p0.g1 :: ro2 ca5 cc6 p0.g2 :: ro2 ca7 cc8 p0.g3 :: L)) _ := h.sel 5 [1, 2, 3, 4] (by kernel_rfl) (by kernel_rfl)
                  replace H := ej1 H; subst H
                  exact ⟨rfl, h⟩
            ·
              replace H := ifF c52 H
              refine op_off ((wg hr rfl rfl rfl (b' := ((wi ((at_ p0.g2 (((p0.l.length : Nat) : Int).toNat)) - p0.m)) != (4 : Int))) (by kernel_rfl)).trans (by rw [show ((wi ((at_ p0.g2 (((p0.l.length : Nat) : Int).toNat)) - p0.m)) != (4 : Int)) = true from (bne_iff_ne.mpr c52)]; rfl)) rfl rfl hr ?_; clear hr a; intro a hr
              refine op_off ((wg hr rfl rfl rfl (b' := ((wi ((at_ p0.g2 (((p0.l.length : Nat) : Int).toNat)) - p0.m)) != (4 : Int))) (by kernel_rfl)).trans (by rw [show ((wi ((at_ p0.g2 (((p0.l.length : Nat) : Int).toNat)) - p0.m)) != (4 : Int)) = true from (bne_iff_ne.mpr c52)]; rfl)) rfl rfl hr ?_; clear hr a; intro a hr
              refine op_off ((wg hr rfl rfl rfl (b' := ((wi ((at_ p0.g2 (((p0.l.length : Nat) : Int).toNat)) - p0.m)) != (4 : Int))) (by kernel_rfl)).trans (by rw [show ((wi ((at_ p0.g2 (((p0.l.length : Nat) : Int).toNat)) - p0.m)) != (4 : Int)) = true from (bne_iff_ne.mpr c52)]; rfl)) rfl rfl hr ?_; clear hr a; intro a hr
              refine op_off (wg_undef hr rfl rfl rfl (by kernel_rfl)) rfl rfl hr ?_; clear hr a; intro a hr
              refine op_off (wg_undef hr rfl rfl rfl (by kernel_rfl)) rfl rfl hr ?_; clear hr a; intro a hr
              refine op_off ((wg hr rfl rfl rfl (b' := ((wi ((at_ p0.g2 (((p0.l.length : Nat) : Int).toNat)) - p0.m)) != (4 : Int))) (by kernel_rfl)).trans (by rw [show ((wi ((at_ p0.g2 (((p0.l.length : Nat) : Int).toNat)) - p0.m)) != (4 : Int)) = true from (bne_iff_ne.mpr c52)]; rfl)) rfl rfl hr ?_; clear hr a; intro a hr
              refine op_val (wn rfl) rfl rfl hr (v := .bool true) (rp_t (b := ((wi ((at_ p0.g2 (((p0.l.length : Nat) : Int).toNat)) - p0.m)) != (4 : Int))) rfl (by kernel_rfl) (bne_iff_ne.mpr c52) (by kernel_rfl)) ?_; clear hr a; intro a hr
              refine wpList_nil ?_
              refine then_normal ?_
              refine cond_tt hr (b := true) rfl ?_
              refine wp_seq ?_
              refine wp_region_lit ?_
              refine ov hr (.bool false) (by kernel_rfl) ?_; clear hr a; intro a hr
              refine wpList_nil ?_
              refine then_normal ?_
              refine wp_ret ?_
              refine then_ret ?_
              refine end_ret1 (v := .bool false) rfl hr (by kernel_rfl) ?_
              replace H := jx0 H hK32
              replace h : Fit z (sepL (ro2 ca1 cc2 p0.l :: ro2 ca3 cc4 p0.g1 :: ro2 ca5 cc6 p0.g2 :: ro2 ca7 cc8 p0.g3 :: L)) _ := h.sel 5 [1, 2, 3, 4] (by kernel_rfl) (by kernel_rfl)
              replace H := ej1 H; subst H
              exact ⟨rfl, h⟩
        ·
          replace H := ifF c48 H
          refine op_off ((wg hr rfl rfl rfl (b' := ((wi ((at_ p0.g1 (((p0.l.length : Nat) : Int).toNat)) - p0.m)) != (4 : Int))) (by kernel_rfl)).trans (by rw [show ((wi ((at_ p0.g1 (((p0.l.length : Nat) : Int).toNat)) - p0.m)) != (4 : Int)) = true from (bne_iff_ne.mpr c48)]; rfl)) rfl rfl hr ?_; clear hr a; intro a hr
          refine op_off ((wg hr rfl rfl rfl (b' := ((wi ((at_ p0.g1 (((p0.l.length : Nat) : Int).toNat)) - p0.m)) != (4 : Int))) (by kernel_rfl)).trans (by rw [show ((wi ((at_ p0.g1 (((p0.l.length : Nat) : Int).toNat)) - p0.m)) != (4 : Int)) = true from (bne_iff_ne.mpr c48)]; rfl)) rfl rfl hr ?_; clear hr a; intro a hr
          refine op_off ((wg hr rfl rfl rfl (b' := ((wi ((at_ p0.g1 (((p0.l.length : Nat) : Int).toNat)) - p0.m)) != (4 : Int))) (by kernel_rfl)).trans (by rw [show ((wi ((at_ p0.g1 (((p0.l.length : Nat) : Int).toNat)) - p0.m)) != (4 : Int)) = true from (bne_iff_ne.mpr c48)]; rfl)) rfl rfl hr ?_; clear hr a; intro a hr
          refine op_off (wg_undef hr rfl rfl rfl (by kernel_rfl)) rfl rfl hr ?_; clear hr a; intro a hr
          refine op_off (wg_undef hr rfl rfl rfl (by kernel_rfl)) rfl rfl hr ?_; clear hr a; intro a hr
          refine op_off ((wg hr rfl rfl rfl (b' := ((wi ((at_ p0.g1 (((p0.l.length : Nat) : Int).toNat)) - p0.m)) != (4 : Int))) (by kernel_rfl)).trans (by rw [show ((wi ((at_ p0.g1 (((p0.l.length : Nat) : Int).toNat)) - p0.m)) != (4 : Int)) = true from (bne_iff_ne.mpr c48)]; rfl)) rfl rfl hr ?_; clear hr a; intro a hr
          refine op_val (wn rfl) rfl rfl hr (v := .bool true) (rp_t (b := ((wi ((at_ p0.g1 (((p0.l.length : Nat) : Int).toNat)) - p0.m)) != (4 : Int))) rfl (by kernel_rfl) (bne_iff_ne.mpr c48) (by kernel_rfl)) ?_; clear hr a; intro a hr
          refine ov hr (.bool true) (by kernel_rfl) ?_; clear hr a; intro a hr
          refine op_off ((wg hr rfl rfl rfl (b' := true) (by kernel_rfl)).trans rfl) rfl rfl hr ?_; clear hr a; intro a hr
          refine op_off ((wg hr rfl rfl rfl (b' := true) (by kernel_rfl)).trans rfl) rfl rfl hr ?_; clear hr a; intro a hr
          refine op_off ((wg hr rfl rfl rfl (b' := true) (by kernel_rfl)).trans rfl) rfl rfl hr ?_; clear hr a; intro a hr
          refine op_off (wg_undef hr rfl rfl rfl (by kernel_rfl)) rfl rfl hr ?_; clear hr a; intro a hr
          refine op_off (wg_undef hr rfl rfl rfl (by kernel_rfl)) rfl rfl hr ?_; clear hr a; intro a hr
          refine op_off ((wg hr rfl rfl rfl (b' := true) (by kernel_rfl)).trans rfl) rfl rfl hr ?_; clear hr a; intro a hr
          refine ov hr (.bool true) (by kernel_rfl) ?_; clear hr a; intro a hr
          refine wpList_nil ?_
          refine then_normal ?_
          refine cond_tt hr (b := true) rfl ?_
          refine wp_seq ?_
          refine wp_region_lit ?_
          refine ov hr (.bool false) (by kernel_rfl) ?_; clear hr a; intro a hr
          refine wpList_nil ?_
          refine then_normal ?_
          refine wp_ret ?_
          refine then_ret ?_
          refine end_ret1 (v := .bool false) rfl hr (by kernel_rfl) ?_
          replace H := jx0 H hK32
          replace h : Fit z (sepL (ro2 ca1 cc2 p0.l :: ro2 ca3 cc4 p0.g1 :: ro2 ca5 cc6 p0.g2 :: ro2 ca7 cc8 p0.g3 :: L)) _ := h.sel 5 [1, 2, 3, 4] (by kernel_rfl) (by kernel_rfl)
          replace H := ej1 H; subst H
          exact ⟨rfl, h⟩
  clear h hr a; rintro _ a w ⟨rfl, j, hr, h⟩
  replace H := jk0 hK32
  refine wp_seq ?_
  replace H := gd H; obtain ⟨c55, H⟩ := H
  by_cases c56 : (at_ p0.g3 (((p0.l.length : Nat) : Int).toNat)) = (wi (p0.m + (4 : Int)))
  ·
    replace H := ifT c56 H
    replace H := gd H; obtain ⟨c57, H⟩ := H
    by_cases c58 : (at_ p0.g3 ((wi (((p0.l.length : Nat) : Int) + (1 : Int))).toNat)) = (wi (p0.m + (5 : Int)))
    ·
      replace H := ifT c58 H
      replace H := gd H; obtain ⟨c59, H⟩ := H
      refine reg_E (fun w => heldC w b9 4 [.slice ca7 p0.g3.length cc8] ∧ heldC w (blk ca7) ((((p0.l.length : Nat) : Int).toNat) * 1) [.int .i64 (at_ p0.g3 (((p0.l.length : Nat) : Int).toNat))] ∧ heldC w b9 0 [.int .i64 p0.m] ∧ heldC w b9 4 [.slice ca7 p0.g3.length cc8] ∧ heldC w (blk ca7) (((wi (((p0.l.length : Nat) : Int) + (1 : Int))).toNat) * 1) [.int .i64 (at_ p0.g3 ((wi (((p0.l.length : Nat) : Int) + (1 : Int))).toNat))] ∧ heldC w b9 0 [.int .i64 p0.m] ∧ heldC w b9 4 [.slice ca7 p0.g3.length cc8] ∧ heldC w (blk ca7) (((wi (((p0.l.length : Nat) : Int) + (2 : Int))).toNat) * 1) [.int .i64 (at_ p0.g3 ((wi (((p0.l.length : Nat) : Int) + (2 : Int))).toNat))] ∧ heldC w b9 0 [.int .i64 p0.m] ∧ True) [0, 3, 5, 7, 8, 10, 13, 14, 16, 18, 19, 22, 25, 26, 28, 30] h (by kernel_rfl) ?_; intro w h
      change wpAnyE _ _ _ _ _ _ 34 (Array.replicate 34 false) a w
      have hgo : ∀ w w', CellsGo w w' → (heldC w b9 4 [.slice ca7 p0.g3.length cc8] ∧ heldC w (blk ca7) ((((p0.l.length : Nat) : Int).toNat) * 1) [.int .i64 (at_ p0.g3 (((p0.l.length : Nat) : Int).toNat))] ∧ heldC w b9 0 [.int .i64 p0.m] ∧ heldC w b9 4 [.slice ca7 p0.g3.length cc8] ∧ heldC w (blk ca7) (((wi (((p0.l.length : Nat) : Int) + (1 : Int))).toNat) * 1) [.int .i64 (at_ p0.g3 ((wi (((p0.l.length : Nat) : Int) + (1 : Int))).toNat))] ∧ heldC w b9 0 [.int .i64 p0.m] ∧ heldC w b9 4 [.slice ca7 p0.g3.length cc8] ∧ heldC w (blk ca7) (((wi (((p0.l.length : Nat) : Int) + (2 : Int))).toNat) * 1) [.int .i64 (at_ p0.g3 ((wi (((p0.l.length : Nat) : Int) + (2 : Int))).toNat))] ∧ heldC w b9 0 [.int .i64 p0.m] ∧ True) → heldC w' b9 4 [.slice ca7 p0.g3.length cc8] ∧ heldC w' (blk ca7) ((((p0.l.length : Nat) : Int).toNat) * 1) [.int .i64 (at_ p0.g3 (((p0.l.length : Nat) : Int).toNat))] ∧ heldC w' b9 0 [.int .i64 p0.m] ∧ heldC w' b9 4 [.slice ca7 p0.g3.length cc8] ∧ heldC w' (blk ca7) (((wi (((p0.l.length : Nat) : Int) + (1 : Int))).toNat) * 1) [.int .i64 (at_ p0.g3 ((wi (((p0.l.length : Nat) : Int) + (1 : Int))).toNat))] ∧ heldC w' b9 0 [.int .i64 p0.m] ∧ heldC w' b9 4 [.slice ca7 p0.g3.length cc8] ∧ heldC w' (blk ca7) (((wi (((p0.l.length : Nat) : Int) + (2 : Int))).toNat) * 1) [.int .i64 (at_ p0.g3 ((wi (((p0.l.length : Nat) : Int) + (2 : Int))).toNat))] ∧ heldC w' b9 0 [.int .i64 p0.m] ∧ True := fun w w' g hD => ⟨heldC_go _ _ _ _ _ g hD.1, heldC_go _ _ _ _ _ g hD.2.1, heldC_go _ _ _ _ _ g hD.2.2.1, heldC_go _ _ _ _ _ g hD.2.2.2.1, heldC_go _ _ _ _ _ g hD.2.2.2.2.1, heldC_go _ _ _ _ _ g hD.2.2.2.2.2.1, heldC_go _ _ _ _ _ g hD.2.2.2.2.2.2.1, heldC_go _ _ _ _ _ g hD.2.2.2.2.2.2.2.1, heldC_go _ _ _ _ _ g hD.2.2.2.2.2.2.2.2.1, trivial⟩
      refine evD hgo ⟨⟨h.cell 4 rfl, trivial⟩, ⟨(h.pick 4).row_cell encZ_i64_ok (f := 0) (at_ok c55) rfl, trivial⟩, ⟨h.cell 0 rfl, trivial⟩, ⟨h.cell 4 rfl, trivial⟩, ⟨(h.pick 4).row_cell encZ_i64_ok (f := 0) (at_ok c57) rfl, trivial⟩, ⟨h.cell 0 rfl, trivial⟩, ⟨h.cell 4 rfl, trivial⟩, ⟨(h.pick 4).row_cell encZ_i64_ok (f := 0) (at_ok c59) rfl, trivial⟩, ⟨h.cell 0 rfl, trivial⟩, trivial⟩ 33 0 rfl (by kernel_rfl) (wn rfl) hr (.pointer (some ⟨b9, 4, none⟩)) (fun w => by kernel_rfl) ?_; clear hr a; intro a hr
      refine ev 32 2 rfl (by kernel_rfl) (wn rfl) hr (.int .i64 ((p0.l.length : Nat) : Int)) (fun w => by kernel_rfl) ?_; clear hr a; intro a hr
      refine evD hgo ⟨⟨h.cell 4 rfl, trivial⟩, ⟨(h.pick 4).row_cell encZ_i64_ok (f := 0) (at_ok c55) rfl, trivial⟩, ⟨h.cell 0 rfl, trivial⟩, ⟨h.cell 4 rfl, trivial⟩, ⟨(h.pick 4).row_cell encZ_i64_ok (f := 0) (at_ok c57) rfl, trivial⟩, ⟨h.cell 0 rfl, trivial⟩, ⟨h.cell 4 rfl, trivial⟩, ⟨(h.pick 4).row_cell encZ_i64_ok (f := 0) (at_ok c59) rfl, trivial⟩, ⟨h.cell 0 rfl, trivial⟩, trivial⟩ 31 5 rfl (by kernel_rfl) (wn rfl) hr (.pointer (some ⟨b9, 0, none⟩)) (fun w => by kernel_rfl) ?_; clear hr a; intro a hr
      refine el [0, 3, 5, 7, 8, 10, 13, 14, 16, 18, 19, 22, 25, 26, 28, 30] (b := b9) (off := 4) (cs := [.slice ca7 p0.g3.length cc8]) (fun _ hk => ⟨hk, fun w hD => hD.1⟩) 30 1 rfl (by kernel_rfl) (wn rfl) hr (.slice ca7 p0.g3.length cc8) ⟨h.cell 4 rfl, trivial⟩ (fun w hc => rl rfl (by kernel_rfl) (by kernel_rfl) hc.1) ?_; clear hr a; intro a hr
      refine evD hgo ⟨⟨h.cell 4 rfl, trivial⟩, ⟨(h.pick 4).row_cell encZ_i64_ok (f := 0) (at_ok c55) rfl, trivial⟩, ⟨h.cell 0 rfl, trivial⟩, ⟨h.cell 4 rfl, trivial⟩, ⟨(h.pick 4).row_cell encZ_i64_ok (f := 0) (at_ok c57) rfl, trivial⟩, ⟨h.cell 0 rfl, trivial⟩, ⟨h.cell 4 rfl, trivial⟩, ⟨(h.pick 4).row_cell encZ_i64_ok (f := 0) (at_ok c59) rfl, trivial⟩, ⟨h.cell 0 rfl, trivial⟩, trivial⟩ 29 3 rfl (by kernel_rfl) (wn rfl) hr (.pointer (some ⟨blk ca7, (((p0.l.length : Nat) : Int).toNat) * 1, none⟩)) (fun w => ri_row (k := .i64) (E := 2) rfl (by kernel_rfl) (by kernel_rfl) (by kernel_rfl) (by kernel_rfl) (h.pick 4) c55) ?_; clear hr a; intro a hr
      refine el [0, 3, 5, 7, 8, 10, 13, 14, 16, 18, 19, 22, 25, 26, 28, 30] (b := blk ca7) (off := (((p0.l.length : Nat) : Int).toNat) * 1) (cs := [.int .i64 (at_ p0.g3 (((p0.l.length : Nat) : Int).toNat))]) (fun _ hk => ⟨hk, fun w hD => hD.2.1⟩) 28 4 rfl (by kernel_rfl) (wn rfl) hr (.int .i64 (at_ p0.g3 (((p0.l.length : Nat) : Int).toNat))) ⟨(h.pick 4).row_cell encZ_i64_ok (f := 0) (at_ok c55) rfl, trivial⟩ (fun w hc => rl rfl (by kernel_rfl) (by kernel_rfl) hc.1) ?_; clear hr a; intro a hr
      refine el [0, 3, 5, 7, 8, 10, 13, 14, 16, 18, 19, 22, 25, 26, 28, 30] (b := b9) (off := 0) (cs := [.int .i64 p0.m]) (fun _ hk => ⟨hk, fun w hD => hD.2.2.1⟩) 27 6 rfl (by kernel_rfl) (wn rfl) hr (.int .i64 p0.m) ⟨h.cell 0 rfl, trivial⟩ (fun w hc => rl rfl (by kernel_rfl) (by kernel_rfl) hc.1) ?_; clear hr a; intro a hr
      refine evD hgo ⟨⟨h.cell 4 rfl, trivial⟩, ⟨(h.pick 4).row_cell encZ_i64_ok (f := 0) (at_ok c55) rfl, trivial⟩, ⟨h.cell 0 rfl, trivial⟩, ⟨h.cell 4 rfl, trivial⟩, ⟨(h.pick 4).row_cell encZ_i64_ok (f := 0) (at_ok c57) rfl, trivial⟩, ⟨h.cell 0 rfl, trivial⟩, ⟨h.cell 4 rfl, trivial⟩, ⟨(h.pick 4).row_cell encZ_i64_ok (f := 0) (at_ok c59) rfl, trivial⟩, ⟨h.cell 0 rfl, trivial⟩, trivial⟩ 26 7 rfl (by kernel_rfl) (wn rfl) hr (.int .i64 (wi (p0.m + (4 : Int)))) (fun w => by kernel_rfl) ?_; clear hr a; intro a hr
      refine evD hgo ⟨⟨h.cell 4 rfl, trivial⟩, ⟨(h.pick 4).row_cell encZ_i64_ok (f := 0) (at_ok c55) rfl, trivial⟩, ⟨h.cell 0 rfl, trivial⟩, ⟨h.cell 4 rfl, trivial⟩, ⟨(h.pick 4).row_cell encZ_i64_ok (f := 0) (at_ok c57) rfl, trivial⟩, ⟨h.cell 0 rfl, trivial⟩, ⟨h.cell 4 rfl, trivial⟩, ⟨(h.pick 4).row_cell encZ_i64_ok (f := 0) (at_ok c59) rfl, trivial⟩, ⟨h.cell 0 rfl, trivial⟩, trivial⟩ 25 8 rfl (by kernel_rfl) (wn rfl) hr (.bool ((at_ p0.g3 (((p0.l.length : Nat) : Int).toNat)) == (wi (p0.m + (4 : Int))))) (fun w => by kernel_rfl) ?_; clear hr a; intro a hr
      refine ev 24 9 rfl (by kernel_rfl) (wn rfl) hr (.bool ((at_ p0.g3 (((p0.l.length : Nat) : Int).toNat)) == (wi (p0.m + (4 : Int))))) (fun w => by kernel_rfl) ?_; clear hr a; intro a hr
      refine evD hgo ⟨⟨h.cell 4 rfl, trivial⟩, ⟨(h.pick 4).row_cell encZ_i64_ok (f := 0) (at_ok c55) rfl, trivial⟩, ⟨h.cell 0 rfl, trivial⟩, ⟨h.cell 4 rfl, trivial⟩, ⟨(h.pick 4).row_cell encZ_i64_ok (f := 0) (at_ok c57) rfl, trivial⟩, ⟨h.cell 0 rfl, trivial⟩, ⟨h.cell 4 rfl, trivial⟩, ⟨(h.pick 4).row_cell encZ_i64_ok (f := 0) (at_ok c59) rfl, trivial⟩, ⟨h.cell 0 rfl, trivial⟩, trivial⟩ 23 10 rfl (by kernel_rfl) ((wg hr rfl rfl rfl (b' := ((at_ p0.g3 (((p0.l.length : Nat) : Int).toNat)) == (wi (p0.m + (4 : Int))))) (by kernel_rfl)).trans (by rw [show ((at_ p0.g3 (((p0.l.length : Nat) : Int).toNat)) == (wi (p0.m + (4 : Int)))) = true from (beq_iff_eq.mpr c56)]; rfl)) hr (.pointer (some ⟨b9, 4, none⟩)) (fun w => by kernel_rfl) ?_; clear hr a; intro a hr
      refine ev 22 12 rfl (by kernel_rfl) ((wg hr rfl rfl rfl (b' := ((at_ p0.g3 (((p0.l.length : Nat) : Int).toNat)) == (wi (p0.m + (4 : Int))))) (by kernel_rfl)).trans (by rw [show ((at_ p0.g3 (((p0.l.length : Nat) : Int).toNat)) == (wi (p0.m + (4 : Int)))) = true from (beq_iff_eq.mpr c56)]; rfl)) hr (.int .i64 ((p0.l.length : Nat) : Int)) (fun w => by kernel_rfl) ?_; clear hr a; intro a hr
      refine evD hgo ⟨⟨h.cell 4 rfl, trivial⟩, ⟨(h.pick 4).row_cell encZ_i64_ok (f := 0) (at_ok c55) rfl, trivial⟩, ⟨h.cell 0 rfl, trivial⟩, ⟨h.cell 4 rfl, trivial⟩, ⟨(h.pick 4).row_cell encZ_i64_ok (f := 0) (at_ok c57) rfl, trivial⟩, ⟨h.cell 0 rfl, trivial⟩, ⟨h.cell 4 rfl, trivial⟩, ⟨(h.pick 4).row_cell encZ_i64_ok (f := 0) (at_ok c59) rfl, trivial⟩, ⟨h.cell 0 rfl, trivial⟩, trivial⟩ 21 13 rfl (by kernel_rfl) ((wg hr rfl rfl rfl (b' := ((at_ p0.g3 (((p0.l.length : Nat) : Int).toNat)) == (wi (p0.m + (4 : Int))))) (by kernel_rfl)).trans (by rw [show ((at_ p0.g3 (((p0.l.length : Nat) : Int).toNat)) == (wi (p0.m + (4 : Int)))) = true from (beq_iff_eq.mpr c56)]; rfl)) hr (.int .i64 (wi (((p0.l.length : Nat) : Int) + (1 : Int)))) (fun w => by kernel_rfl) ?_; clear hr a; intro a hr
      refine evD hgo ⟨⟨h.cell 4 rfl, trivial⟩, ⟨(h.pick 4).row_cell encZ_i64_ok (f := 0) (at_ok c55) rfl, trivial⟩, ⟨h.cell 0 rfl, trivial⟩, ⟨h.cell 4 rfl, trivial⟩, ⟨(h.pick 4).row_cell encZ_i64_ok (f := 0) (at_ok c57) rfl, trivial⟩, ⟨h.cell 0 rfl, trivial⟩, ⟨h.cell 4 rfl, trivial⟩, ⟨(h.pick 4).row_cell encZ_i64_ok (f := 0) (at_ok c59) rfl, trivial⟩, ⟨h.cell 0 rfl, trivial⟩, trivial⟩ 20 16 rfl (by kernel_rfl) ((wg hr rfl rfl rfl (b' := ((at_ p0.g3 (((p0.l.length : Nat) : Int).toNat)) == (wi (p0.m + (4 : Int))))) (by kernel_rfl)).trans (by rw [show ((at_ p0.g3 (((p0.l.length : Nat) : Int).toNat)) == (wi (p0.m + (4 : Int)))) = true from (beq_iff_eq.mpr c56)]; rfl)) hr (.pointer (some ⟨b9, 0, none⟩)) (fun w => by kernel_rfl) ?_; clear hr a; intro a hr
      refine el [0, 3, 5, 7, 8, 10, 13, 14, 16, 18, 19, 22, 25, 26, 28, 30] (b := b9) (off := 4) (cs := [.slice ca7 p0.g3.length cc8]) (fun _ hk => ⟨hk, fun w hD => hD.2.2.2.1⟩) 19 11 rfl (by kernel_rfl) ((wg hr rfl rfl rfl (b' := ((at_ p0.g3 (((p0.l.length : Nat) : Int).toNat)) == (wi (p0.m + (4 : Int))))) (by kernel_rfl)).trans (by rw [show ((at_ p0.g3 (((p0.l.length : Nat) : Int).toNat)) == (wi (p0.m + (4 : Int)))) = true from (beq_iff_eq.mpr c56)]; rfl)) hr (.slice ca7 p0.g3.length cc8) ⟨h.cell 4 rfl, trivial⟩ (fun w hc => rl rfl (by kernel_rfl) (by kernel_rfl) hc.1) ?_; clear hr a; intro a hr
      refine evD hgo ⟨⟨h.cell 4 rfl, trivial⟩, ⟨(h.pick 4).row_cell encZ_i64_ok (f := 0) (at_ok c55) rfl, trivial⟩, ⟨h.cell 0 rfl, trivial⟩, ⟨h.cell 4 rfl, trivial⟩, ⟨(h.pick 4).row_cell encZ_i64_ok (f := 0) (at_ok c57) rfl, trivial⟩, ⟨h.cell 0 rfl, trivial⟩, ⟨h.cell 4 rfl, trivial⟩, ⟨(h.pick 4).row_cell encZ_i64_ok (f := 0) (at_ok c59) rfl, trivial⟩, ⟨h.cell 0 rfl, trivial⟩, trivial⟩ 18 14 rfl (by kernel_rfl) ((wg hr rfl rfl rfl (b' := ((at_ p0.g3 (((p0.l.length : Nat) : Int).toNat)) == (wi (p0.m + (4 : Int))))) (by kernel_rfl)).trans (by rw [show ((at_ p0.g3 (((p0.l.length : Nat) : Int).toNat)) == (wi (p0.m + (4 : Int)))) = true from (beq_iff_eq.mpr c56)]; rfl)) hr (.pointer (some ⟨blk ca7, ((wi (((p0.l.length : Nat) : Int) + (1 : Int))).toNat) * 1, none⟩)) (fun w => ri_row (k := .i64) (E := 2) rfl (by kernel_rfl) (by kernel_rfl) (by kernel_rfl) (by kernel_rfl) (h.pick 4) c57) ?_; clear hr a; intro a hr
      refine el [0, 3, 5, 7, 8, 10, 13, 14, 16, 18, 19, 22, 25, 26, 28, 30] (b := blk ca7) (off := ((wi (((p0.l.length : Nat) : Int) + (1 : Int))).toNat) * 1) (cs := [.int .i64 (at_ p0.g3 ((wi (((p0.l.length : Nat) : Int) + (1 : Int))).toNat))]) (fun _ hk => ⟨hk, fun w hD => hD.2.2.2.2.1⟩) 17 15 rfl (by kernel_rfl) ((wg hr rfl rfl rfl (b' := ((at_ p0.g3 (((p0.l.length : Nat) : Int).toNat)) == (wi (p0.m + (4 : Int))))) (by kernel_rfl)).trans (by rw [show ((at_ p0.g3 (((p0.l.length : Nat) : Int).toNat)) == (wi (p0.m + (4 : Int)))) = true from (beq_iff_eq.mpr c56)]; rfl)) hr (.int .i64 (at_ p0.g3 ((wi (((p0.l.length : Nat) : Int) + (1 : Int))).toNat))) ⟨(h.pick 4).row_cell encZ_i64_ok (f := 0) (at_ok c57) rfl, trivial⟩ (fun w hc => rl rfl (by kernel_rfl) (by kernel_rfl) hc.1) ?_; clear hr a; intro a hr
      refine el [0, 3, 5, 7, 8, 10, 13, 14, 16, 18, 19, 22, 25, 26, 28, 30] (b := b9) (off := 0) (cs := [.int .i64 p0.m]) (fun _ hk => ⟨hk, fun w hD => hD.2.2.2.2.2.1⟩) 16 17 rfl (by kernel_rfl) ((wg hr rfl rfl rfl (b' := ((at_ p0.g3 (((p0.l.length : Nat) : Int).toNat)) == (wi (p0.m + (4 : Int))))) (by kernel_rfl)).trans (by rw [show ((at_ p0.g3 (((p0.l.length : Nat) : Int).toNat)) == (wi (p0.m + (4 : Int)))) = true from (beq_iff_eq.mpr c56)]; rfl)) hr (.int .i64 p0.m) ⟨h.cell 0 rfl, trivial⟩ (fun w hc => rl rfl (by kernel_rfl) (by kernel_rfl) hc.1) ?_; clear hr a; intro a hr
      refine evD hgo ⟨⟨h.cell 4 rfl, trivial⟩, ⟨(h.pick 4).row_cell encZ_i64_ok (f := 0) (at_ok c55) rfl, trivial⟩, ⟨h.cell 0 rfl, trivial⟩, ⟨h.cell 4 rfl, trivial⟩, ⟨(h.pick 4).row_cell encZ_i64_ok (f := 0) (at_ok c57) rfl, trivial⟩, ⟨h.cell 0 rfl, trivial⟩, ⟨h.cell 4 rfl, trivial⟩, ⟨(h.pick 4).row_cell encZ_i64_ok (f := 0) (at_ok c59) rfl, trivial⟩, ⟨h.cell 0 rfl, trivial⟩, trivial⟩ 15 18 rfl (by kernel_rfl) ((wg hr rfl rfl rfl (b' := ((at_ p0.g3 (((p0.l.length : Nat) : Int).toNat)) == (wi (p0.m + (4 : Int))))) (by kernel_rfl)).trans (by rw [show ((at_ p0.g3 (((p0.l.length : Nat) : Int).toNat)) == (wi (p0.m + (4 : Int)))) = true from (beq_iff_eq.mpr c56)]; rfl)) hr (.int .i64 (wi (p0.m + (5 : Int)))) (fun w => by kernel_rfl) ?_; clear hr a; intro a hr
      refine evD hgo ⟨⟨h.cell 4 rfl, trivial⟩, ⟨(h.pick 4).row_cell encZ_i64_ok (f := 0) (at_ok c55) rfl, trivial⟩, ⟨h.cell 0 rfl, trivial⟩, ⟨h.cell 4 rfl, trivial⟩, ⟨(h.pick 4).row_cell encZ_i64_ok (f := 0) (at_ok c57) rfl, trivial⟩, ⟨h.cell 0 rfl, trivial⟩, ⟨h.cell 4 rfl, trivial⟩, ⟨(h.pick 4).row_cell encZ_i64_ok (f := 0) (at_ok c59) rfl, trivial⟩, ⟨h.cell 0 rfl, trivial⟩, trivial⟩ 14 19 rfl (by kernel_rfl) ((wg hr rfl rfl rfl (b' := ((at_ p0.g3 (((p0.l.length : Nat) : Int).toNat)) == (wi (p0.m + (4 : Int))))) (by kernel_rfl)).trans (by rw [show ((at_ p0.g3 (((p0.l.length : Nat) : Int).toNat)) == (wi (p0.m + (4 : Int)))) = true from (beq_iff_eq.mpr c56)]; rfl)) hr (.bool ((at_ p0.g3 ((wi (((p0.l.length : Nat) : Int) + (1 : Int))).toNat)) == (wi (p0.m + (5 : Int))))) (fun w => by kernel_rfl) ?_; clear hr a; intro a hr
      refine ev 13 20 rfl (by kernel_rfl) (wn rfl) hr (.bool ((at_ p0.g3 ((wi (((p0.l.length : Nat) : Int) + (1 : Int))).toNat)) == (wi (p0.m + (5 : Int))))) (fun w => rp_t (b := ((at_ p0.g3 (((p0.l.length : Nat) : Int).toNat)) == (wi (p0.m + (4 : Int))))) rfl (by kernel_rfl) (beq_iff_eq.mpr c56) (by kernel_rfl)) ?_; clear hr a; intro a hr
      refine ev 12 21 rfl (by kernel_rfl) (wn rfl) hr (.bool ((at_ p0.g3 ((wi (((p0.l.length : Nat) : Int) + (1 : Int))).toNat)) == (wi (p0.m + (5 : Int))))) (fun w => by kernel_rfl) ?_; clear hr a; intro a hr
      refine evD hgo ⟨⟨h.cell 4 rfl, trivial⟩, ⟨(h.pick 4).row_cell encZ_i64_ok (f := 0) (at_ok c55) rfl, trivial⟩, ⟨h.cell 0 rfl, trivial⟩, ⟨h.cell 4 rfl, trivial⟩, ⟨(h.pick 4).row_cell encZ_i64_ok (f := 0) (at_ok c57) rfl, trivial⟩, ⟨h.cell 0 rfl, trivial⟩, ⟨h.cell 4 rfl, trivial⟩, ⟨(h.pick 4).row_cell encZ_i64_ok (f := 0) (at_ok c59) rfl, trivial⟩, ⟨h.cell 0 rfl, trivial⟩, trivial⟩ 11 22 rfl (by kernel_rfl) ((wg hr rfl rfl rfl (b' := ((at_ p0.g3 ((wi (((p0.l.length : Nat) : Int) + (1 : Int))).toNat)) == (wi (p0.m + (5 : Int))))) (by kernel_rfl)).trans (by rw [show ((at_ p0.g3 ((wi (((p0.l.length : Nat) : Int) + (1 : Int))).toNat)) == (wi (p0.m + (5 : Int)))) = true from (beq_iff_eq.mpr c58)]; rfl)) hr (.pointer (some ⟨b9, 4, none⟩)) (fun w => by kernel_rfl) ?_; clear hr a; intro a hr
      refine ev 10 24 rfl (by kernel_rfl) ((wg hr rfl rfl rfl (b' := ((at_ p0.g3 ((wi (((p0.l.length : Nat) : Int) + (1 : Int))).toNat)) == (wi (p0.m + (5 : Int))))) (by kernel_rfl)).trans (by rw [show ((at_ p0.g3 ((wi (((p0.l.length : Nat) : Int) + (1 : Int))).toNat)) == (wi (p0.m + (5 : Int)))) = true from (beq_iff_eq.mpr c58)]; rfl)) hr (.int .i64 ((p0.l.length : Nat) : Int)) (fun w => by kernel_rfl) ?_; clear hr a; intro a hr
      refine evD hgo ⟨⟨h.cell 4 rfl, trivial⟩, ⟨(h.pick 4).row_cell encZ_i64_ok (f := 0) (at_ok c55) rfl, trivial⟩, ⟨h.cell 0 rfl, trivial⟩, ⟨h.cell 4 rfl, trivial⟩, ⟨(h.pick 4).row_cell encZ_i64_ok (f := 0) (at_ok c57) rfl, trivial⟩, ⟨h.cell 0 rfl, trivial⟩, ⟨h.cell 4 rfl, trivial⟩, ⟨(h.pick 4).row_cell encZ_i64_ok (f := 0) (at_ok c59) rfl, trivial⟩, ⟨h.cell 0 rfl, trivial⟩, trivial⟩ 9 25 rfl (by kernel_rfl) ((wg hr rfl rfl rfl (b' := ((at_ p0.g3 ((wi (((p0.l.length : Nat) : Int) + (1 : Int))).toNat)) == (wi (p0.m + (5 : Int))))) (by kernel_rfl)).trans (by rw [show ((at_ p0.g3 ((wi (((p0.l.length : Nat) : Int) + (1 : Int))).toNat)) == (wi (p0.m + (5 : Int)))) = true from (beq_iff_eq.mpr c58)]; rfl)) hr (.int .i64 (wi (((p0.l.length : Nat) : Int) + (2 : Int)))) (fun w => by kernel_rfl) ?_; clear hr a; intro a hr
      refine evD hgo ⟨⟨h.cell 4 rfl, trivial⟩, ⟨(h.pick 4).row_cell encZ_i64_ok (f := 0) (at_ok c55) rfl, trivial⟩, ⟨h.cell 0 rfl, trivial⟩, ⟨h.cell 4 rfl, trivial⟩, ⟨(h.pick 4).row_cell encZ_i64_ok (f := 0) (at_ok c57) rfl, trivial⟩, ⟨h.cell 0 rfl, trivial⟩, ⟨h.cell 4 rfl, trivial⟩, ⟨(h.pick 4).row_cell encZ_i64_ok (f := 0) (at_ok c59) rfl, trivial⟩, ⟨h.cell 0 rfl, trivial⟩, trivial⟩ 8 28 rfl (by kernel_rfl) ((wg hr rfl rfl rfl (b' := ((at_ p0.g3 ((wi (((p0.l.length : Nat) : Int) + (1 : Int))).toNat)) == (wi (p0.m + (5 : Int))))) (by kernel_rfl)).trans (by rw [show ((at_ p0.g3 ((wi (((p0.l.length : Nat) : Int) + (1 : Int))).toNat)) == (wi (p0.m + (5 : Int)))) = true from (beq_iff_eq.mpr c58)]; rfl)) hr (.pointer (some ⟨b9, 0, none⟩)) (fun w => by kernel_rfl) ?_; clear hr a; intro a hr
      refine el [0, 3, 5, 7, 8, 10, 13, 14, 16, 18, 19, 22, 25, 26, 28, 30] (b := b9) (off := 4) (cs := [.slice ca7 p0.g3.length cc8]) (fun _ hk => ⟨hk, fun w hD => hD.2.2.2.2.2.2.1⟩) 7 23 rfl (by kernel_rfl) ((wg hr rfl rfl rfl (b' := ((at_ p0.g3 ((wi (((p0.l.length : Nat) : Int) + (1 : Int))).toNat)) == (wi (p0.m + (5 : Int))))) (by kernel_rfl)).trans (by rw [show ((at_ p0.g3 ((wi (((p0.l.length : Nat) : Int) + (1 : Int))).toNat)) == (wi (p0.m + (5 : Int)))) = true from (beq_iff_eq.mpr c58)]; rfl)) hr (.slice ca7 p0.g3.length cc8) ⟨h.cell 4 rfl, trivial⟩ (fun w hc => rl rfl (by kernel_rfl) (by kernel_rfl) hc.1) ?_; clear hr a; intro a hr
      refine evD hgo ⟨⟨h.cell 4 rfl, trivial⟩, ⟨(h.pick 4).row_cell encZ_i64_ok (f := 0) (at_ok c55) rfl, trivial⟩, ⟨h.cell 0 rfl, trivial⟩, ⟨h.cell 4 rfl, trivial⟩, ⟨(h.pick 4).row_cell encZ_i64_ok (f := 0) (at_ok c57) rfl, trivial⟩, ⟨h.cell 0 rfl, trivial⟩, ⟨h.cell 4 rfl, trivial⟩, ⟨(h.pick 4).row_cell encZ_i64_ok (f := 0) (at_ok c59) rfl, trivial⟩, ⟨h.cell 0 rfl, trivial⟩, trivial⟩ 6 26 rfl (by kernel_rfl) ((wg hr rfl rfl rfl (b' := ((at_ p0.g3 ((wi (((p0.l.length : Nat) : Int) + (1 : Int))).toNat)) == (wi (p0.m + (5 : Int))))) (by kernel_rfl)).trans (by rw [show ((at_ p0.g3 ((wi (((p0.l.length : Nat) : Int) + (1 : Int))).toNat)) == (wi (p0.m + (5 : Int)))) = true from (beq_iff_eq.mpr c58)]; rfl)) hr (.pointer (some ⟨blk ca7, ((wi (((p0.l.length : Nat) : Int) + (2 : Int))).toNat) * 1, none⟩)) (fun w => ri_row (k := .i64) (E := 2) rfl (by kernel_rfl) (by kernel_rfl) (by kernel_rfl) (by kernel_rfl) (h.pick 4) c59) ?_; clear hr a; intro a hr
      refine el [0, 3, 5, 7, 8, 10, 13, 14, 16, 18, 19, 22, 25, 26, 28, 30] (b := blk ca7) (off := ((wi (((p0.l.length : Nat) : Int) + (2 : Int))).toNat) * 1) (cs := [.int .i64 (at_ p0.g3 ((wi (((p0.l.length : Nat) : Int) + (2 : Int))).toNat))]) (fun _ hk => ⟨hk, fun w hD => hD.2.2.2.2.2.2.2.1⟩) 5 27 rfl (by kernel_rfl) ((wg hr rfl rfl rfl (b' := ((at_ p0.g3 ((wi (((p0.l.length : Nat) : Int) + (1 : Int))).toNat)) == (wi (p0.m + (5 : Int))))) (by kernel_rfl)).trans (by rw [show ((at_ p0.g3 ((wi (((p0.l.length : Nat) : Int) + (1 : Int))).toNat)) == (wi (p0.m + (5 : Int)))) = true from (beq_iff_eq.mpr c58)]; rfl)) hr (.int .i64 (at_ p0.g3 ((wi (((p0.l.length : Nat) : Int) + (2 : Int))).toNat))) ⟨(h.pick 4).row_cell encZ_i64_ok (f := 0) (at_ok c59) rfl, trivial⟩ (fun w hc => rl rfl (by kernel_rfl) (by kernel_rfl) hc.1) ?_; clear hr a; intro a hr
      refine el [0, 3, 5, 7, 8, 10, 13, 14, 16, 18, 19, 22, 25, 26, 28, 30] (b := b9) (off := 0) (cs := [.int .i64 p0.m]) (fun _ hk => ⟨hk, fun w hD => hD.2.2.2.2.2.2.2.2.1⟩) 4 29 rfl (by kernel_rfl) ((wg hr rfl rfl rfl (b' := ((at_ p0.g3 ((wi (((p0.l.length : Nat) : Int) + (1 : Int))).toNat)) == (wi (p0.m + (5 : Int))))) (by kernel_rfl)).trans (by rw [show ((at_ p0.g3 ((wi (((p0.l.length : Nat) : Int) + (1 : Int))).toNat)) == (wi (p0.m + (5 : Int)))) = true from (beq_iff_eq.mpr c58)]; rfl)) hr (.int .i64 p0.m) ⟨h.cell 0 rfl, trivial⟩ (fun w hc => rl rfl (by kernel_rfl) (by kernel_rfl) hc.1) ?_; clear hr a; intro a hr
      refine evD hgo ⟨⟨h.cell 4 rfl, trivial⟩, ⟨(h.pick 4).row_cell encZ_i64_ok (f := 0) (at_ok c55) rfl, trivial⟩, ⟨h.cell 0 rfl, trivial⟩, ⟨h.cell 4 rfl, trivial⟩, ⟨(h.pick 4).row_cell encZ_i64_ok (f := 0) (at_ok c57) rfl, trivial⟩, ⟨h.cell 0 rfl, trivial⟩, ⟨h.cell 4 rfl, trivial⟩, ⟨(h.pick 4).row_cell encZ_i64_ok (f := 0) (at_ok c59) rfl, trivial⟩, ⟨h.cell 0 rfl, trivial⟩, trivial⟩ 3 30 rfl (by kernel_rfl) ((wg hr rfl rfl rfl (b' := ((at_ p0.g3 ((wi (((p0.l.length : Nat) : Int) + (1 : Int))).toNat)) == (wi (p0.m + (5 : Int))))) (by kernel_rfl)).trans (by rw [show ((at_ p0.g3 ((wi (((p0.l.length : Nat) : Int) + (1 : Int))).toNat)) == (wi (p0.m + (5 : Int)))) = true from (beq_iff_eq.mpr c58)]; rfl)) hr (.int .i64 (wi (p0.m + (6 : Int)))) (fun w => by kernel_rfl) ?_; clear hr a; intro a hr
      refine ev 2 31 rfl (by kernel_rfl) ((wg hr rfl rfl rfl (b' := ((at_ p0.g3 ((wi (((p0.l.length : Nat) : Int) + (1 : Int))).toNat)) == (wi (p0.m + (5 : Int))))) (by kernel_rfl)).trans (by rw [show ((at_ p0.g3 ((wi (((p0.l.length : Nat) : Int) + (1 : Int))).toNat)) == (wi (p0.m + (5 : Int)))) = true from (beq_iff_eq.mpr c58)]; rfl)) hr (.bool ((at_ p0.g3 ((wi (((p0.l.length : Nat) : Int) + (2 : Int))).toNat)) == (wi (p0.m + (6 : Int))))) (fun w => by kernel_rfl) ?_; clear hr a; intro a hr
      refine ev 1 32 rfl (by kernel_rfl) (wn rfl) hr (.bool ((at_ p0.g3 ((wi (((p0.l.length : Nat) : Int) + (2 : Int))).toNat)) == (wi (p0.m + (6 : Int))))) (fun w => rp_t (b := ((at_ p0.g3 ((wi (((p0.l.length : Nat) : Int) + (1 : Int))).toNat)) == (wi (p0.m + (5 : Int))))) rfl (by kernel_rfl) (beq_iff_eq.mpr c58) (by kernel_rfl)) ?_; clear hr a; intro a hr
      refine ev 0 33 rfl (by kernel_rfl) (wn rfl) hr (.bool ((at_ p0.g3 ((wi (((p0.l.length : Nat) : Int) + (2 : Int))).toNat)) == (wi (p0.m + (6 : Int))))) (fun w => by kernel_rfl) ?_; clear hr a; intro a hr
      refine e_end (by kernel_rfl) ?_
      refine then_normal ?_
      refine wp_ret ?_
      refine end_ret1 (v := .bool ((at_ p0.g3 ((wi (((p0.l.length : Nat) : Int) + (2 : Int))).toNat)) == (wi (p0.m + (6 : Int))))) rfl hr (by kernel_rfl) ?_
      replace h : Fit z (sepL (ro2 ca1 cc2 p0.l :: ro2 ca3 cc4 p0.g1 :: ro2 ca5 cc6 p0.g2 :: ro2 ca7 cc8 p0.g3 :: L)) _ := h.sel 5 [1, 2, 3, 4] (by kernel_rfl) (by kernel_rfl)
      replace H := ej1 H; subst H
      exact ⟨rfl, h⟩
    ·
      replace H := ifF c58 H
      refine reg_E (fun w => heldC w b9 4 [.slice ca7 p0.g3.length cc8] ∧ heldC w (blk ca7) ((((p0.l.length : Nat) : Int).toNat) * 1) [.int .i64 (at_ p0.g3 (((p0.l.length : Nat) : Int).toNat))] ∧ heldC w b9 0 [.int .i64 p0.m] ∧ heldC w b9 4 [.slice ca7 p0.g3.length cc8] ∧ heldC w (blk ca7) (((wi (((p0.l.length : Nat) : Int) + (1 : Int))).toNat) * 1) [.int .i64 (at_ p0.g3 ((wi (((p0.l.length : Nat) : Int) + (1 : Int))).toNat))] ∧ heldC w b9 0 [.int .i64 p0.m] ∧ True) [0, 3, 5, 7, 8, 10, 13, 14, 16, 18] h (by kernel_rfl) ?_; intro w h
      change wpAnyE _ _ _ _ _ _ 34 (Array.replicate 34 false) a w
      have hgo : ∀ w w', CellsGo w w' → (heldC w b9 4 [.slice ca7 p0.g3.length cc8] ∧ heldC w (blk ca7) ((((p0.l.length : Nat) : Int).toNat) * 1) [.int .i64 (at_ p0.g3 (((p0.l.length : Nat) : Int).toNat))] ∧ heldC w b9 0 [.int .i64 p0.m] ∧ heldC w b9 4 [.slice ca7 p0.g3.length cc8] ∧ heldC w (blk ca7) (((wi (((p0.l.length : Nat) : Int) + (1 : Int))).toNat) * 1) [.int .i64 (at_ p0.g3 ((wi (((p0.l.length : Nat) : Int) + (1 : Int))).toNat))] ∧ heldC w b9 0 [.int .i64 p0.m] ∧ True) → heldC w' b9 4 [.slice ca7 p0.g3.length cc8] ∧ heldC w' (blk ca7) ((((p0.l.length : Nat) : Int).toNat) * 1) [.int .i64 (at_ p0.g3 (((p0.l.length : Nat) : Int).toNat))] ∧ heldC w' b9 0 [.int .i64 p0.m] ∧ heldC w' b9 4 [.slice ca7 p0.g3.length cc8] ∧ heldC w' (blk ca7) (((wi (((p0.l.length : Nat) : Int) + (1 : Int))).toNat) * 1) [.int .i64 (at_ p0.g3 ((wi (((p0.l.length : Nat) : Int) + (1 : Int))).toNat))] ∧ heldC w' b9 0 [.int .i64 p0.m] ∧ True := fun w w' g hD => ⟨heldC_go _ _ _ _ _ g hD.1, heldC_go _ _ _ _ _ g hD.2.1, heldC_go _ _ _ _ _ g hD.2.2.1, heldC_go _ _ _ _ _ g hD.2.2.2.1, heldC_go _ _ _ _ _ g hD.2.2.2.2.1, heldC_go _ _ _ _ _ g hD.2.2.2.2.2.1, trivial⟩
      refine evD hgo ⟨⟨h.cell 4 rfl, trivial⟩, ⟨(h.pick 4).row_cell encZ_i64_ok (f := 0) (at_ok c55) rfl, trivial⟩, ⟨h.cell 0 rfl, trivial⟩, ⟨h.cell 4 rfl, trivial⟩, ⟨(h.pick 4).row_cell encZ_i64_ok (f := 0) (at_ok c57) rfl, trivial⟩, ⟨h.cell 0 rfl, trivial⟩, trivial⟩ 33 0 rfl (by kernel_rfl) (wn rfl) hr (.pointer (some ⟨b9, 4, none⟩)) (fun w => by kernel_rfl) ?_; clear hr a; intro a hr
      refine ev 32 2 rfl (by kernel_rfl) (wn rfl) hr (.int .i64 ((p0.l.length : Nat) : Int)) (fun w => by kernel_rfl) ?_; clear hr a; intro a hr
      refine evD hgo ⟨⟨h.cell 4 rfl, trivial⟩, ⟨(h.pick 4).row_cell encZ_i64_ok (f := 0) (at_ok c55) rfl, trivial⟩, ⟨h.cell 0 rfl, trivial⟩, ⟨h.cell 4 rfl, trivial⟩, ⟨(h.pick 4).row_cell encZ_i64_ok (f := 0) (at_ok c57) rfl, trivial⟩, ⟨h.cell 0 rfl, trivial⟩, trivial⟩ 31 5 rfl (by kernel_rfl) (wn rfl) hr (.pointer (some ⟨b9, 0, none⟩)) (fun w => by kernel_rfl) ?_; clear hr a; intro a hr
      refine el [0, 3, 5, 7, 8, 10, 13, 14, 16, 18] (b := b9) (off := 4) (cs := [.slice ca7 p0.g3.length cc8]) (fun _ hk => ⟨hk, fun w hD => hD.1⟩) 30 1 rfl (by kernel_rfl) (wn rfl) hr (.slice ca7 p0.g3.length cc8) ⟨h.cell 4 rfl, trivial⟩ (fun w hc => rl rfl (by kernel_rfl) (by kernel_rfl) hc.1) ?_; clear hr a; intro a hr
      refine evD hgo ⟨⟨h.cell 4 rfl, trivial⟩, ⟨(h.pick 4).row_cell encZ_i64_ok (f := 0) (at_ok c55) rfl, trivial⟩, ⟨h.cell 0 rfl, trivial⟩, ⟨h.cell 4 rfl, trivial⟩, ⟨(h.pick 4).row_cell encZ_i64_ok (f := 0) (at_ok c57) rfl, trivial⟩, ⟨h.cell 0 rfl, trivial⟩, trivial⟩ 29 3 rfl (by kernel_rfl) (wn rfl) hr (.pointer (some ⟨blk ca7, (((p0.l.length : Nat) : Int).toNat) * 1, none⟩)) (fun w => ri_row (k := .i64) (E := 2) rfl (by kernel_rfl) (by kernel_rfl) (by kernel_rfl) (by kernel_rfl) (h.pick 4) c55) ?_; clear hr a; intro a hr
      refine el [0, 3, 5, 7, 8, 10, 13, 14, 16, 18] (b := blk ca7) (off := (((p0.l.length : Nat) : Int).toNat) * 1) (cs := [.int .i64 (at_ p0.g3 (((p0.l.length : Nat) : Int).toNat))]) (fun _ hk => ⟨hk, fun w hD => hD.2.1⟩) 28 4 rfl (by kernel_rfl) (wn rfl) hr (.int .i64 (at_ p0.g3 (((p0.l.length : Nat) : Int).toNat))) ⟨(h.pick 4).row_cell encZ_i64_ok (f := 0) (at_ok c55) rfl, trivial⟩ (fun w hc => rl rfl (by kernel_rfl) (by kernel_rfl) hc.1) ?_; clear hr a; intro a hr
      refine el [0, 3, 5, 7, 8, 10, 13, 14, 16, 18] (b := b9) (off := 0) (cs := [.int .i64 p0.m]) (fun _ hk => ⟨hk, fun w hD => hD.2.2.1⟩) 27 6 rfl (by kernel_rfl) (wn rfl) hr (.int .i64 p0.m) ⟨h.cell 0 rfl, trivial⟩ (fun w hc => rl rfl (by kernel_rfl) (by kernel_rfl) hc.1) ?_; clear hr a; intro a hr
      refine evD hgo ⟨⟨h.cell 4 rfl, trivial⟩, ⟨(h.pick 4).row_cell encZ_i64_ok (f := 0) (at_ok c55) rfl, trivial⟩, ⟨h.cell 0 rfl, trivial⟩, ⟨h.cell 4 rfl, trivial⟩, ⟨(h.pick 4).row_cell encZ_i64_ok (f := 0) (at_ok c57) rfl, trivial⟩, ⟨h.cell 0 rfl, trivial⟩, trivial⟩ 26 7 rfl (by kernel_rfl) (wn rfl) hr (.int .i64 (wi (p0.m + (4 : Int)))) (fun w => by kernel_rfl) ?_; clear hr a; intro a hr
      refine evD hgo ⟨⟨h.cell 4 rfl, trivial⟩, ⟨(h.pick 4).row_cell encZ_i64_ok (f := 0) (at_ok c55) rfl, trivial⟩, ⟨h.cell 0 rfl, trivial⟩, ⟨h.cell 4 rfl, trivial⟩, ⟨(h.pick 4).row_cell encZ_i64_ok (f := 0) (at_ok c57) rfl, trivial⟩, ⟨h.cell 0 rfl, trivial⟩, trivial⟩ 25 8 rfl (by kernel_rfl) (wn rfl) hr (.bool ((at_ p0.g3 (((p0.l.length : Nat) : Int).toNat)) == (wi (p0.m + (4 : Int))))) (fun w => by kernel_rfl) ?_; clear hr a; intro a hr
      refine ev 24 9 rfl (by kernel_rfl) (wn rfl) hr (.bool ((at_ p0.g3 (((p0.l.length : Nat) : Int).toNat)) == (wi (p0.m + (4 : Int))))) (fun w => by kernel_rfl) ?_; clear hr a; intro a hr
      refine evD hgo ⟨⟨h.cell 4 rfl, trivial⟩, ⟨(h.pick 4).row_cell encZ_i64_ok (f := 0) (at_ok c55) rfl, trivial⟩, ⟨h.cell 0 rfl, trivial⟩, ⟨h.cell 4 rfl, trivial⟩, ⟨(h.pick 4).row_cell encZ_i64_ok (f := 0) (at_ok c57) rfl, trivial⟩, ⟨h.cell 0 rfl, trivial⟩, trivial⟩ 23 10 rfl (by kernel_rfl) ((wg hr rfl rfl rfl (b' := ((at_ p0.g3 (((p0.l.length : Nat) : Int).toNat)) == (wi (p0.m + (4 : Int))))) (by kernel_rfl)).trans (by rw [show ((at_ p0.g3 (((p0.l.length : Nat) : Int).toNat)) == (wi (p0.m + (4 : Int)))) = true from (beq_iff_eq.mpr c56)]; rfl)) hr (.pointer (some ⟨b9, 4, none⟩)) (fun w => by kernel_rfl) ?_; clear hr a; intro a hr
      refine ev 22 12 rfl (by kernel_rfl) ((wg hr rfl rfl rfl (b' := ((at_ p0.g3 (((p0.l.length : Nat) : Int).toNat)) == (wi (p0.m + (4 : Int))))) (by kernel_rfl)).trans (by rw [show ((at_ p0.g3 (((p0.l.length : Nat) : Int).toNat)) == (wi (p0.m + (4 : Int)))) = true from (beq_iff_eq.mpr c56)]; rfl)) hr (.int .i64 ((p0.l.length : Nat) : Int)) (fun w => by kernel_rfl) ?_; clear hr a; intro a hr
      refine evD hgo ⟨⟨h.cell 4 rfl, trivial⟩, ⟨(h.pick 4).row_cell encZ_i64_ok (f := 0) (at_ok c55) rfl, trivial⟩, ⟨h.cell 0 rfl, trivial⟩, ⟨h.cell 4 rfl, trivial⟩, ⟨(h.pick 4).row_cell encZ_i64_ok (f := 0) (at_ok c57) rfl, trivial⟩, ⟨h.cell 0 rfl, trivial⟩, trivial⟩ 21 13 rfl (by kernel_rfl) ((wg hr rfl rfl rfl (b' := ((at_ p0.g3 (((p0.l.length : Nat) : Int).toNat)) == (wi (p0.m + (4 : Int))))) (by kernel_rfl)).trans (by rw [show ((at_ p0.g3 (((p0.l.length : Nat) : Int).toNat)) == (wi (p0.m + (4 : Int)))) = true from (beq_iff_eq.mpr c56)]; rfl)) hr (.int .i64 (wi (((p0.l.length : Nat) : Int) + (1 : Int)))) (fun w => by kernel_rfl) ?_; clear hr a; intro a hr
      refine evD hgo ⟨⟨h.cell 4 rfl, trivial⟩, ⟨(h.pick 4).row_cell encZ_i64_ok (f := 0) (at_ok c55) rfl, trivial⟩, ⟨h.cell 0 rfl, trivial⟩, ⟨h.cell 4 rfl, trivial⟩, ⟨(h.pick 4).row_cell encZ_i64_ok (f := 0) (at_ok c57) rfl, trivial⟩, ⟨h.cell 0 rfl, trivial⟩, trivial⟩ 20 16 rfl (by kernel_rfl) ((wg hr rfl rfl rfl (b' := ((at_ p0.g3 (((p0.l.length : Nat) : Int).toNat)) == (wi (p0.m + (4 : Int))))) (by kernel_rfl)).trans (by rw [show ((at_ p0.g3 (((p0.l.length : Nat) : Int).toNat)) == (wi (p0.m + (4 : Int)))) = true from (beq_iff_eq.mpr c56)]; rfl)) hr (.pointer (some ⟨b9, 0, none⟩)) (fun w => by kernel_rfl) ?_; clear hr a; intro a hr
      refine el [0, 3, 5, 7, 8, 10, 13, 14, 16, 18] (b := b9) (off := 4) (cs := [.slice ca7 p0.g3.length cc8]) (fun _ hk => ⟨hk, fun w hD => hD.2.2.2.1⟩) 19 11 rfl (by kernel_rfl) ((wg hr rfl rfl rfl (b' := ((at_ p0.g3 (((p0.l.length : Nat) : Int).toNat)) == (wi (p0.m + (4 : Int))))) (by kernel_rfl)).trans (by rw [show ((at_ p0.g3 (((p0.l.length : Nat) : Int).toNat)) == (wi (p0.m + (4 : Int)))) = true from (beq_iff_eq.mpr c56)]; rfl)) hr (.slice ca7 p0.g3.length cc8) ⟨h.cell 4 rfl, trivial⟩ (fun w hc => rl rfl (by kernel_rfl) (by kernel_rfl) hc.1) ?_; clear hr a; intro a hr
      refine evD hgo ⟨⟨h.cell 4 rfl, trivial⟩, ⟨(h.pick 4).row_cell encZ_i64_ok (f := 0) (at_ok c55) rfl, trivial⟩, ⟨h.cell 0 rfl, trivial⟩, ⟨h.cell 4 rfl, trivial⟩, ⟨(h.pick 4).row_cell encZ_i64_ok (f := 0) (at_ok c57) rfl, trivial⟩, ⟨h.cell 0 rfl, trivial⟩, trivial⟩ 18 14 rfl (by kernel_rfl) ((wg hr rfl rfl rfl (b' := ((at_ p0.g3 (((p0.l.length : Nat) : Int).toNat)) == (wi (p0.m + (4 : Int))))) (by kernel_rfl)).trans (by rw [show ((at_ p0.g3 (((p0.l.length : Nat) : Int).toNat)) == (wi (p0.m + (4 : Int)))) = true from (beq_iff_eq.mpr c56)]; rfl)) hr (.pointer (some ⟨blk ca7, ((wi (((p0.l.length : Nat) : Int) + (1 : Int))).toNat) * 1, none⟩)) (fun w => ri_row (k := .i64) (E := 2) rfl (by kernel_rfl) (by kernel_rfl) (by kernel_rfl) (by kernel_rfl) (h.pick 4) c57) ?_; clear hr a; intro a hr
      refine el [0, 3, 5, 7, 8, 10, 13, 14, 16, 18] (b := blk ca7) (off := ((wi (((p0.l.length : Nat) : Int) + (1 : Int))).toNat) * 1) (cs := [.int .i64 (at_ p0.g3 ((wi (((p0.l.length : Nat) : Int) + (1 : Int))).toNat))]) (fun _ hk => ⟨hk, fun w hD => hD.2.2.2.2.1⟩) 17 15 rfl (by kernel_rfl) ((wg hr rfl rfl rfl (b' := ((at_ p0.g3 (((p0.l.length : Nat) : Int).toNat)) == (wi (p0.m + (4 : Int))))) (by kernel_rfl)).trans (by rw [show ((at_ p0.g3 (((p0.l.length : Nat) : Int).toNat)) == (wi (p0.m + (4 : Int)))) = true from (beq_iff_eq.mpr c56)]; rfl)) hr (.int .i64 (at_ p0.g3 ((wi (((p0.l.length : Nat) : Int) + (1 : Int))).toNat))) ⟨(h.pick 4).row_cell encZ_i64_ok (f := 0) (at_ok c57) rfl, trivial⟩ (fun w hc => rl rfl (by kernel_rfl) (by kernel_rfl) hc.1) ?_; clear hr a; intro a hr
      refine el [0, 3, 5, 7, 8, 10, 13, 14, 16, 18] (b := b9) (off := 0) (cs := [.int .i64 p0.m]) (fun _ hk => ⟨hk, fun w hD => hD.2.2.2.2.2.1⟩) 16 17 rfl (by kernel_rfl) ((wg hr rfl rfl rfl (b' := ((at_ p0.g3 (((p0.l.length : Nat) : Int).toNat)) == (wi (p0.m + (4 : Int))))) (by kernel_rfl)).trans (by rw [show ((at_ p0.g3 (((p0.l.length : Nat) : Int).toNat)) == (wi (p0.m + (4 : Int)))) = true from (beq_iff_eq.mpr c56)]; rfl)) hr (.int .i64 p0.m) ⟨h.cell 0 rfl, trivial⟩ (fun w hc => rl rfl (by kernel_rfl) (by kernel_rfl) hc.1) ?_; clear hr a; intro a hr
      refine evD hgo ⟨⟨h.cell 4 rfl, trivial⟩, ⟨(h.pick 4).row_cell encZ_i64_ok (f := 0) (at_ok c55) rfl, trivial⟩, ⟨h.cell 0 rfl, trivial⟩, ⟨h.cell 4 rfl, trivial⟩, ⟨(h.pick 4).row_cell encZ_i64_ok (f := 0) (at_ok c57) rfl, trivial⟩, ⟨h.cell 0 rfl, trivial⟩, trivial⟩ 15 18 rfl (by kernel_rfl) ((wg hr rfl rfl rfl (b' := ((at_ p0.g3 (((p0.l.length : Nat) : Int).toNat)) == (wi (p0.m + (4 : Int))))) (by kernel_rfl)).trans (by rw [show ((at_ p0.g3 (((p0.l.length : Nat) : Int).toNat)) == (wi (p0.m + (4 : Int)))) = true from (beq_iff_eq.mpr c56)]; rfl)) hr (.int .i64 (wi (p0.m + (5 : Int)))) (fun w => by kernel_rfl) ?_; clear hr a; intro a hr
      refine ev 14 19 rfl (by kernel_rfl) ((wg hr rfl rfl rfl (b' := ((at_ p0.g3 (((p0.l.length : Nat) : Int).toNat)) == (wi (p0.m + (4 : Int))))) (by kernel_rfl)).trans (by rw [show ((at_ p0.g3 (((p0.l.length : Nat) : Int).toNat)) == (wi (p0.m + (4 : Int)))) = true from (beq_iff_eq.mpr c56)]; rfl)) hr (.bool ((at_ p0.g3 ((wi (((p0.l.length : Nat) : Int) + (1 : Int))).toNat)) == (wi (p0.m + (5 : Int))))) (fun w => by kernel_rfl) ?_; clear hr a; intro a hr
      refine ev 13 20 rfl (by kernel_rfl) (wn rfl) hr (.bool ((at_ p0.g3 ((wi (((p0.l.length : Nat) : Int) + (1 : Int))).toNat)) == (wi (p0.m + (5 : Int))))) (fun w => rp_t (b := ((at_ p0.g3 (((p0.l.length : Nat) : Int).toNat)) == (wi (p0.m + (4 : Int))))) rfl (by kernel_rfl) (beq_iff_eq.mpr c56) (by kernel_rfl)) ?_; clear hr a; intro a hr
      refine ev 12 21 rfl (by kernel_rfl) (wn rfl) hr (.bool ((at_ p0.g3 ((wi (((p0.l.length : Nat) : Int) + (1 : Int))).toNat)) == (wi (p0.m + (5 : Int))))) (fun w => by kernel_rfl) ?_; clear hr a; intro a hr
      refine eo 11 22 rfl (by kernel_rfl) ((wg hr rfl rfl rfl (b' := ((at_ p0.g3 ((wi (((p0.l.length : Nat) : Int) + (1 : Int))).toNat)) == (wi (p0.m + (5 : Int))))) (by kernel_rfl)).trans (by rw [show ((at_ p0.g3 ((wi (((p0.l.length : Nat) : Int) + (1 : Int))).toNat)) == (wi (p0.m + (5 : Int)))) = false from (beq_eq_false_iff_ne.mpr c58)]; rfl)) hr ?_; clear hr a; intro a hr
      refine eo 10 24 rfl (by kernel_rfl) ((wg hr rfl rfl rfl (b' := ((at_ p0.g3 ((wi (((p0.l.length : Nat) : Int) + (1 : Int))).toNat)) == (wi (p0.m + (5 : Int))))) (by kernel_rfl)).trans (by rw [show ((at_ p0.g3 ((wi (((p0.l.length : Nat) : Int) + (1 : Int))).toNat)) == (wi (p0.m + (5 : Int)))) = false from (beq_eq_false_iff_ne.mpr c58)]; rfl)) hr ?_; clear hr a; intro a hr
      refine eo 9 25 rfl (by kernel_rfl) ((wg hr rfl rfl rfl (b' := ((at_ p0.g3 ((wi (((p0.l.length : Nat) : Int) + (1 : Int))).toNat)) == (wi (p0.m + (5 : Int))))) (by kernel_rfl)).trans (by rw [show ((at_ p0.g3 ((wi (((p0.l.length : Nat) : Int) + (1 : Int))).toNat)) == (wi (p0.m + (5 : Int)))) = false from (beq_eq_false_iff_ne.mpr c58)]; rfl)) hr ?_; clear hr a; intro a hr
      refine eo 8 28 rfl (by kernel_rfl) ((wg hr rfl rfl rfl (b' := ((at_ p0.g3 ((wi (((p0.l.length : Nat) : Int) + (1 : Int))).toNat)) == (wi (p0.m + (5 : Int))))) (by kernel_rfl)).trans (by rw [show ((at_ p0.g3 ((wi (((p0.l.length : Nat) : Int) + (1 : Int))).toNat)) == (wi (p0.m + (5 : Int)))) = false from (beq_eq_false_iff_ne.mpr c58)]; rfl)) hr ?_; clear hr a; intro a hr
      refine eo 7 23 rfl (by kernel_rfl) ((wg hr rfl rfl rfl (b' := ((at_ p0.g3 ((wi (((p0.l.length : Nat) : Int) + (1 : Int))).toNat)) == (wi (p0.m + (5 : Int))))) (by kernel_rfl)).trans (by rw [show ((at_ p0.g3 ((wi (((p0.l.length : Nat) : Int) + (1 : Int))).toNat)) == (wi (p0.m + (5 : Int)))) = false from (beq_eq_false_iff_ne.mpr c58)]; rfl)) hr ?_; clear hr a; intro a hr
      refine eo 6 26 rfl (by kernel_rfl) ((wg hr rfl rfl rfl (b' := ((at_ p0.g3 ((wi (((p0.l.length : Nat) : Int) + (1 : Int))).toNat)) == (wi (p0.m + (5 : Int))))) (by kernel_rfl)).trans (by rw [show ((at_ p0.g3 ((wi (((p0.l.length : Nat) : Int) + (1 : Int))).toNat)) == (wi (p0.m + (5 : Int)))) = false from (beq_eq_false_iff_ne.mpr c58)]; rfl)) hr ?_; clear hr a; intro a hr
      refine eo 5 27 rfl (by kernel_rfl) ((wg hr rfl rfl rfl (b' := ((at_ p0.g3 ((wi (((p0.l.length : Nat) : Int) + (1 : Int))).toNat)) == (wi (p0.m + (5 : Int))))) (by kernel_rfl)).trans (by rw [show ((at_ p0.g3 ((wi (((p0.l.length : Nat) : Int) + (1 : Int))).toNat)) == (wi (p0.m + (5 : Int)))) = false from (beq_eq_false_iff_ne.mpr c58)]; rfl)) hr ?_; clear hr a; intro a hr
      refine eo 4 29 rfl (by kernel_rfl) ((wg hr rfl rfl rfl (b' := ((at_ p0.g3 ((wi (((p0.l.length : Nat) : Int) + (1 : Int))).toNat)) == (wi (p0.m + (5 : Int))))) (by kernel_rfl)).trans (by rw [show ((at_ p0.g3 ((wi (((p0.l.length : Nat) : Int) + (1 : Int))).toNat)) == (wi (p0.m + (5 : Int)))) = false from (beq_eq_false_iff_ne.mpr c58)]; rfl)) hr ?_; clear hr a; intro a hr
      refine eo 3 30 rfl (by kernel_rfl) ((wg hr rfl rfl rfl (b' := ((at_ p0.g3 ((wi (((p0.l.length : Nat) : Int) + (1 : Int))).toNat)) == (wi (p0.m + (5 : Int))))) (by kernel_rfl)).trans (by rw [show ((at_ p0.g3 ((wi (((p0.l.length : Nat) : Int) + (1 : Int))).toNat)) == (wi (p0.m + (5 : Int)))) = false from (beq_eq_false_iff_ne.mpr c58)]; rfl)) hr ?_; clear hr a; intro a hr
      refine eo 2 31 rfl (by kernel_rfl) ((wg hr rfl rfl rfl (b' := ((at_ p0.g3 ((wi (((p0.l.length : Nat) : Int) + (1 : Int))).toNat)) == (wi (p0.m + (5 : Int))))) (by kernel_rfl)).trans (by rw [show ((at_ p0.g3 ((wi (((p0.l.length : Nat) : Int) + (1 : Int))).toNat)) == (wi (p0.m + (5 : Int)))) = false from (beq_eq_false_iff_ne.mpr c58)]; rfl)) hr ?_; clear hr a; intro a hr
      refine ev 1 32 rfl (by kernel_rfl) (wn rfl) hr (.bool false) (fun w => rp_f (b := ((at_ p0.g3 ((wi (((p0.l.length : Nat) : Int) + (1 : Int))).toNat)) == (wi (p0.m + (5 : Int))))) rfl (by kernel_rfl) (beq_eq_false_iff_ne.mpr c58) (by kernel_rfl)) ?_; clear hr a; intro a hr
      refine ev 0 33 rfl (by kernel_rfl) (wn rfl) hr (.bool false) (fun w => by kernel_rfl) ?_; clear hr a; intro a hr
      refine e_end (by kernel_rfl) ?_
      refine then_normal ?_
      refine wp_ret ?_
      refine end_ret1 (v := .bool false) rfl hr (by kernel_rfl) ?_
      replace h : Fit z (sepL (ro2 ca1 cc2 p0.l :: ro2 ca3 cc4 p0.g1 :: ro2 ca5 cc6 p0.g2 :: ro2 ca7 cc8 p0.g3 :: L)) _ := h.sel 5 [1, 2, 3, 4] (by kernel_rfl) (by kernel_rfl)
      replace H := ej1 H; subst H
      exact ⟨rfl, h⟩
  ·
    replace H := ifF c56 H
    refine reg_E (fun w => heldC w b9 4 [.slice ca7 p0.g3.length cc8] ∧ heldC w (blk ca7) ((((p0.l.length : Nat) : Int).toNat) * 1) [.int .i64 (at_ p0.g3 (((p0.l.length : Nat) : Int).toNat))] ∧ heldC w b9 0 [.int .i64 p0.m] ∧ True) [0, 3, 5, 7] h (by kernel_rfl) ?_; intro w h
    change wpAnyE _ _ _ _ _ _ 34 (Array.replicate 34 false) a w
    have hgo : ∀ w w', CellsGo w w' → (heldC w b9 4 [.slice ca7 p0.g3.length cc8] ∧ heldC w (blk ca7) ((((p0.l.length : Nat) : Int).toNat) * 1) [.int .i64 (at_ p0.g3 (((p0.l.length : Nat) : Int).toNat))] ∧ heldC w b9 0 [.int .i64 p0.m] ∧ True) → heldC w' b9 4 [.slice ca7 p0.g3.length cc8] ∧ heldC w' (blk ca7) ((((p0.l.length : Nat) : Int).toNat) * 1) [.int .i64 (at_ p0.g3 (((p0.l.length : Nat) : Int).toNat))] ∧ heldC w' b9 0 [.int .i64 p0.m] ∧ True := fun w w' g hD => ⟨heldC_go _ _ _ _ _ g hD.1, heldC_go _ _ _ _ _ g hD.2.1, heldC_go _ _ _ _ _ g hD.2.2.1, trivial⟩
    refine evD hgo ⟨⟨h.cell 4 rfl, trivial⟩, ⟨(h.pick 4).row_cell encZ_i64_ok (f := 0) (at_ok c55) rfl, trivial⟩, ⟨h.cell 0 rfl, trivial⟩, trivial⟩ 33 0 rfl (by kernel_rfl) (wn rfl) hr (.pointer (some ⟨b9, 4, none⟩)) (fun w => by kernel_rfl) ?_; clear hr a; intro a hr
    refine ev 32 2 rfl (by kernel_rfl) (wn rfl) hr (.int .i64 ((p0.l.length : Nat) : Int)) (fun w => by kernel_rfl) ?_; clear hr a; intro a hr
    refine evD hgo ⟨⟨h.cell 4 rfl, trivial⟩, ⟨(h.pick 4).row_cell encZ_i64_ok (f := 0) (at_ok c55) rfl, trivial⟩, ⟨h.cell 0 rfl, trivial⟩, trivial⟩ 31 5 rfl (by kernel_rfl) (wn rfl) hr (.pointer (some ⟨b9, 0, none⟩)) (fun w => by kernel_rfl) ?_; clear hr a; intro a hr
    refine el [0, 3, 5, 7] (b := b9) (off := 4) (cs := [.slice ca7 p0.g3.length cc8]) (fun _ hk => ⟨hk, fun w hD => hD.1⟩) 30 1 rfl (by kernel_rfl) (wn rfl) hr (.slice ca7 p0.g3.length cc8) ⟨h.cell 4 rfl, trivial⟩ (fun w hc => rl rfl (by kernel_rfl) (by kernel_rfl) hc.1) ?_; clear hr a; intro a hr
    refine evD hgo ⟨⟨h.cell 4 rfl, trivial⟩, ⟨(h.pick 4).row_cell encZ_i64_ok (f := 0) (at_ok c55) rfl, trivial⟩, ⟨h.cell 0 rfl, trivial⟩, trivial⟩ 29 3 rfl (by kernel_rfl) (wn rfl) hr (.pointer (some ⟨blk ca7, (((p0.l.length : Nat) : Int).toNat) * 1, none⟩)) (fun w => ri_row (k := .i64) (E := 2) rfl (by kernel_rfl) (by kernel_rfl) (by kernel_rfl) (by kernel_rfl) (h.pick 4) c55) ?_; clear hr a; intro a hr
    refine el [0, 3, 5, 7] (b := blk ca7) (off := (((p0.l.length : Nat) : Int).toNat) * 1) (cs := [.int .i64 (at_ p0.g3 (((p0.l.length : Nat) : Int).toNat))]) (fun _ hk => ⟨hk, fun w hD => hD.2.1⟩) 28 4 rfl (by kernel_rfl) (wn rfl) hr (.int .i64 (at_ p0.g3 (((p0.l.length : Nat) : Int).toNat))) ⟨(h.pick 4).row_cell encZ_i64_ok (f := 0) (at_ok c55) rfl, trivial⟩ (fun w hc => rl rfl (by kernel_rfl) (by kernel_rfl) hc.1) ?_; clear hr a; intro a hr
    refine el [0, 3, 5, 7] (b := b9) (off := 0) (cs := [.int .i64 p0.m]) (fun _ hk => ⟨hk, fun w hD => hD.2.2.1⟩) 27 6 rfl (by kernel_rfl) (wn rfl) hr (.int .i64 p0.m) ⟨h.cell 0 rfl, trivial⟩ (fun w hc => rl rfl (by kernel_rfl) (by kernel_rfl) hc.1) ?_; clear hr a; intro a hr
    refine evD hgo ⟨⟨h.cell 4 rfl, trivial⟩, ⟨(h.pick 4).row_cell encZ_i64_ok (f := 0) (at_ok c55) rfl, trivial⟩, ⟨h.cell 0 rfl, trivial⟩, trivial⟩ 26 7 rfl (by kernel_rfl) (wn rfl) hr (.int .i64 (wi (p0.m + (4 : Int)))) (fun w => by kernel_rfl) ?_; clear hr a; intro a hr
    refine ev 25 8 rfl (by kernel_rfl) (wn rfl) hr (.bool ((at_ p0.g3 (((p0.l.length : Nat) : Int).toNat)) == (wi (p0.m + (4 : Int))))) (fun w => by kernel_rfl) ?_; clear hr a; intro a hr
    refine ev 24 9 rfl (by kernel_rfl) (wn rfl) hr (.bool ((at_ p0.g3 (((p0.l.length : Nat) : Int).toNat)) == (wi (p0.m + (4 : Int))))) (fun w => by kernel_rfl) ?_; clear hr a; intro a hr
    refine eo 23 10 rfl (by kernel_rfl) ((wg hr rfl rfl rfl (b' := ((at_ p0.g3 (((p0.l.length : Nat) : Int).toNat)) == (wi (p0.m + (4 : Int))))) (by kernel_rfl)).trans (by rw [show ((at_ p0.g3 (((p0.l.length : Nat) : Int).toNat)) == (wi (p0.m + (4 : Int)))) = false from (beq_eq_false_iff_ne.mpr c56)]; rfl)) hr ?_; clear hr a; intro a hr
    refine eo 22 12 rfl (by kernel_rfl) ((wg hr rfl rfl rfl (b' := ((at_ p0.g3 (((p0.l.length : Nat) : Int).toNat)) == (wi (p0.m + (4 : Int))))) (by kernel_rfl)).trans (by rw [show ((at_ p0.g3 (((p0.l.length : Nat) : Int).toNat)) == (wi (p0.m + (4 : Int)))) = false from (beq_eq_false_iff_ne.mpr c56)]; rfl)) hr ?_; clear hr a; intro a hr
    refine eo 21 13 rfl (by kernel_rfl) ((wg hr rfl rfl rfl (b' := ((at_ p0.g3 (((p0.l.length : Nat) : Int).toNat)) == (wi (p0.m + (4 : Int))))) (by kernel_rfl)).trans (by rw [show ((at_ p0.g3 (((p0.l.length : Nat) : Int).toNat)) == (wi (p0.m + (4 : Int)))) = false from (beq_eq_false_iff_ne.mpr c56)]; rfl)) hr ?_; clear hr a; intro a hr
    refine eo 20 16 rfl (by kernel_rfl) ((wg hr rfl rfl rfl (b' := ((at_ p0.g3 (((p0.l.length : Nat) : Int).toNat)) == (wi (p0.m + (4 : Int))))) (by kernel_rfl)).trans (by rw [show ((at_ p0.g3 (((p0.l.length : Nat) : Int).toNat)) == (wi (p0.m + (4 : Int)))) = false from (beq_eq_false_iff_ne.mpr c56)]; rfl)) hr ?_; clear hr a; intro a hr
    refine eo 19 11 rfl (by kernel_rfl) ((wg hr rfl rfl rfl (b' := ((at_ p0.g3 (((p0.l.length : Nat) : Int).toNat)) == (wi (p0.m + (4 : Int))))) (by kernel_rfl)).trans (by rw [show ((at_ p0.g3 (((p0.l.length : Nat) : Int).toNat)) == (wi (p0.m + (4 : Int)))) = false from (beq_eq_false_iff_ne.mpr c56)]; rfl)) hr ?_; clear hr a; intro a hr
    refine eo 18 14 rfl (by kernel_rfl) ((wg hr rfl rfl rfl (b' := ((at_ p0.g3 (((p0.l.length : Nat) : Int).toNat)) == (wi (p0.m + (4 : Int))))) (by kernel_rfl)).trans (by rw [show ((at_ p0.g3 (((p0.l.length : Nat) : Int).toNat)) == (wi (p0.m + (4 : Int)))) = false from (beq_eq_false_iff_ne.mpr c56)]; rfl)) hr ?_; clear hr a; intro a hr
    refine eo 17 15 rfl (by kernel_rfl) ((wg hr rfl rfl rfl (b' := ((at_ p0.g3 (((p0.l.length : Nat) : Int).toNat)) == (wi (p0.m + (4 : Int))))) (by kernel_rfl)).trans (by rw [show ((at_ p0.g3 (((p0.l.length : Nat) : Int).toNat)) == (wi (p0.m + (4 : Int)))) = false from (beq_eq_false_iff_ne.mpr c56)]; rfl)) hr ?_; clear hr a; intro a hr
    refine eo 16 17 rfl (by kernel_rfl) ((wg hr rfl rfl rfl (b' := ((at_ p0.g3 (((p0.l.length : Nat) : Int).toNat)) == (wi (p0.m + (4 : Int))))) (by kernel_rfl)).trans (by rw [show ((at_ p0.g3 (((p0.l.length : Nat) : Int).toNat)) == (wi (p0.m + (4 : Int)))) = false from (beq_eq_false_iff_ne.mpr c56)]; rfl)) hr ?_; clear hr a; intro a hr
    refine eo 15 18 rfl (by kernel_rfl) ((wg hr rfl rfl rfl (b' := ((at_ p0.g3 (((p0.l.length : Nat) : Int).toNat)) == (wi (p0.m + (4 : Int))))) (by kernel_rfl)).trans (by rw [show ((at_ p0.g3 (((p0.l.length : Nat) : Int).toNat)) == (wi (p0.m + (4 : Int)))) = false from (beq_eq_false_iff_ne.mpr c56)]; rfl)) hr ?_; clear hr a; intro a hr
    refine eo 14 19 rfl (by kernel_rfl) ((wg hr rfl rfl rfl (b' := ((at_ p0.g3 (((p0.l.length : Nat) : Int).toNat)) == (wi (p0.m + (4 : Int))))) (by kernel_rfl)).trans (by rw [show ((at_ p0.g3 (((p0.l.length : Nat) : Int).toNat)) == (wi (p0.m + (4 : Int)))) = false from (beq_eq_false_iff_ne.mpr c56)]; rfl)) hr ?_; clear hr a; intro a hr
    refine ev 13 20 rfl (by kernel_rfl) (wn rfl) hr (.bool false) (fun w => rp_f (b := ((at_ p0.g3 (((p0.l.length : Nat) : Int).toNat)) == (wi (p0.m + (4 : Int))))) rfl (by kernel_rfl) (beq_eq_false_iff_ne.mpr c56) (by kernel_rfl)) ?_; clear hr a; intro a hr
    refine ev 12 21 rfl (by kernel_rfl) (wn rfl) hr (.bool false) (fun w => by kernel_rfl) ?_; clear hr a; intro a hr
    refine eo 11 22 rfl (by kernel_rfl) ((wg hr rfl rfl rfl (b' := false) (by kernel_rfl)).trans rfl) hr ?_; clear hr a; intro a hr
    refine eo 10 24 rfl (by kernel_rfl) ((wg hr rfl rfl rfl (b' := false) (by kernel_rfl)).trans rfl) hr ?_; clear hr a; intro a hr
    refine eo 9 25 rfl (by kernel_rfl) ((wg hr rfl rfl rfl (b' := false) (by kernel_rfl)).trans rfl) hr ?_; clear hr a; intro a hr
    refine eo 8 28 rfl (by kernel_rfl) ((wg hr rfl rfl rfl (b' := false) (by kernel_rfl)).trans rfl) hr ?_; clear hr a; intro a hr
    refine eo 7 23 rfl (by kernel_rfl) ((wg hr rfl rfl rfl (b' := false) (by kernel_rfl)).trans rfl) hr ?_; clear hr a; intro a hr
    refine eo 6 26 rfl (by kernel_rfl) ((wg hr rfl rfl rfl (b' := false) (by kernel_rfl)).trans rfl) hr ?_; clear hr a; intro a hr
    refine eo 5 27 rfl (by kernel_rfl) ((wg hr rfl rfl rfl (b' := false) (by kernel_rfl)).trans rfl) hr ?_; clear hr a; intro a hr
    refine eo 4 29 rfl (by kernel_rfl) ((wg hr rfl rfl rfl (b' := false) (by kernel_rfl)).trans rfl) hr ?_; clear hr a; intro a hr
    refine eo 3 30 rfl (by kernel_rfl) ((wg hr rfl rfl rfl (b' := false) (by kernel_rfl)).trans rfl) hr ?_; clear hr a; intro a hr
    refine eo 2 31 rfl (by kernel_rfl) ((wg hr rfl rfl rfl (b' := false) (by kernel_rfl)).trans rfl) hr ?_; clear hr a; intro a hr
    refine ev 1 32 rfl (by kernel_rfl) (wn rfl) hr (.bool false) (fun w => by kernel_rfl) ?_; clear hr a; intro a hr
    refine ev 0 33 rfl (by kernel_rfl) (wn rfl) hr (.bool false) (fun w => by kernel_rfl) ?_; clear hr a; intro a hr
    refine e_end (by kernel_rfl) ?_
    refine then_normal ?_
    refine wp_ret ?_
    refine end_ret1 (v := .bool false) rfl hr (by kernel_rfl) ?_
    replace h : Fit z (sepL (ro2 ca1 cc2 p0.l :: ro2 ca3 cc4 p0.g1 :: ro2 ca5 cc6 p0.g2 :: ro2 ca7 cc8 p0.g3 :: L)) _ := h.sel 5 [1, 2, 3, 4] (by kernel_rfl) (by kernel_rfl)
    replace H := ej1 H; subst H
    exact ⟨rfl, h⟩

def plunderlaw2_plain_l1 (K : Nat) (p0 : List T_api_Access) : Nat → (List Int) → Int → Option ((List Int))
  | 0, _, _ => none
  | k1 + 1, l3, g4 => (if g4 < ((p0.length : Nat) : Int) then if inr_ g4 p0.length then ob1 (plunderlaw2_entry ((at_ p0 g4.toNat).A)) (fun r7 => (if at_ p0 g4.toNat = r7 then if (l3.length + 1) * 8 ≤ 140737488355328 then (plunderlaw2_plain_l1 K p0 k1 (l3 ++ [(at_ p0 g4.toNat).A]) (wi (g4 + (1 : Int)))) else none else if (l3.length + 1) * 8 ≤ 140737488355328 then (plunderlaw2_plain_l1 K p0 k1 (l3 ++ [0]) (wi (g4 + (1 : Int)))) else none)) else none else some l3)
/-- plunder/plunderlaw2.plain -/
def plunderlaw2_plain (K : Nat) (p0 : List T_api_Access) : Option ((List Int)) :=
  (plunderlaw2_plain_l1 K p0 K ([] : List Int) 0)
set_option maxRecDepth 100000 in
set_option maxHeartbeats 4000000 in
theorem plunderlaw2_plain_ok {z w : World} {L : List HProp} {K : Nat} {p0 : List T_api_Access} {va0 : Option Addr} {vc0 : Nat} {r0 : List Int} (H : plunderlaw2_plain K p0 = some r0) (h : Fit z (sepL (L)) w) (hv0 : RdRow L 6 enc_T_api_Access va0 p0) :
    Calls Try.prog 93 #[.slice va0 p0.length vc0] w fun e w => ∃ car0_1 : Option Addr, ∃ ccr0_2 : Nat, e = .returned (.slice car0_1 r0.length ccr0_2) ∧ Fit z (sepL (ro2 car0_1 ccr0_2 r0 :: L)) w := by
  unfold plunderlaw2_plain at H
  refine enter Try.func93 rfl 29 rfl rfl [(0, .slice va0 p0.length vc0)] ⟨rfl, trivial⟩ ?_
  intro j a hr
  refine wp_seq ?_
  refine wp_region_lit ?_
  refine ov hr (.slice none 0 0) (by kernel_rfl) ?_; clear hr a; intro a hr
  refine wpList_nil ?_
  refine then_normal ?_
  refine wp_seq ?_
  refine wp_region_lit ?_
  refine ov hr (.slice none 0 0) (by kernel_rfl) ?_; clear hr a; intro a hr
  refine wpList_nil ?_
  refine then_normal ?_
  refine wp_seq ?_
  refine wp_seq ?_
  refine wp_region_lit ?_
  refine ov hr (.int .i64 0) (by kernel_rfl) ?_; clear hr a; intro a hr
  refine wpList_nil ?_
  refine then_normal ?_
  refine wp_block ?_
  replace hr := hr.fold2 [(0, .slice va0 p0.length vc0), (3, .slice none (([] : List Int).length) 0), (4, .int .i64 0)] (by kernel_rfl); obtain ⟨j, hr⟩ := hr
  replace h : Fit z (sepL (rowOf 2 1 encZ_i64 (.slice none 0 0) ([] : List Int) :: L)) _ := h.row_nil
  replace h : Fit z (sepL (rowOf 2 1 encZ_i64 (.slice none (([] : List Int).length) 0) ([] : List Int) :: L)) _ := h.sel 1 [0] (by kernel_rfl) (by kernel_rfl)
  refine loop_rule (β := Nat) id (fun m a w => ∃ ca1 : Option Addr, ∃ cc2 : Nat, ∃ l3 : List Int, ∃ g4 : Int, (plunderlaw2_plain_l1 K p0 m l3 g4) = some r0 ∧ ∃ j, Rep 29 (lk [(0, .slice va0 p0.length vc0), (3, .slice ca1 l3.length cc2), (4, .int .i64 g4)] j) a ∧ Fit z (sepL (ro2 ca1 cc2 l3 :: L)) w) K ⟨none, 0, ([] : List Int), 0, H, j, hr, h⟩ ?_
  clear h hr a H; rintro k1 a w ⟨ca1, cc2, l3, g4, H, j, hr, h⟩
  cases k1 with
  | zero => exact absurd H (by simp [plunderlaw2_plain_l1])
  | succ k1 =>
    rw [plunderlaw2_plain_l1] at H
    refine wp_seq ?_
    refine wp_seq ?_
    refine wp_region_lit ?_
    refine ovs [6, 7, 8, 9] [.int .i64 g4, .slice va0 p0.length vc0, .int .i64 ((p0.length : Nat) : Int), .bool (decide (g4 < ((p0.length : Nat) : Int)))] hr ⟨rfl, rfl⟩ (by kernel_rfl) ?_; clear hr a; intro a hr
    refine wpList_nil ?_
    refine then_normal ?_
    by_cases c5 : g4 < ((p0.length : Nat) : Int)
    ·
      replace H := ifT c5 H
      refine cond_tt hr (b := (decide (g4 < ((p0.length : Nat) : Int)))) (decide_eq_true c5) ?_
      refine wp_skip ?_
      refine then_normal ?_
      refine wp_seq ?_
      refine wp_block ?_
      refine wp_seq ?_
      refine wp_region_lit ?_
      replace H := gd H; obtain ⟨c6, H⟩ := H
      refine ovs [12, 13] [.slice va0 p0.length vc0, .int .i64 g4] hr ⟨rfl, rfl⟩ (by kernel_rfl) ?_; clear hr a; intro a hr
      refine op_val (wn rfl) rfl rfl hr (v := .pointer (some ⟨blk va0, offs va0 + g4.toNat * 6, none⟩)) (ri_rd (k := .i64) (E := 90) (cc := vc0) rfl (by kernel_rfl) (by kernel_rfl) rfl (by kernel_rfl) (by kernel_rfl) hv0 c6) ?_; clear hr a; intro a hr
      refine ov hr (.pointer (some ⟨blk va0, offs va0 + g4.toNat * 6 + 3, none⟩)) (by kernel_rfl) ?_; clear hr a; intro a hr
      refine op_val (wn rfl) rfl rfl hr (v := .int .i64 ((at_ p0 g4.toNat).A)) (rl rfl (by kernel_rfl) (by kernel_rfl) (hv0.cell c6 (h.dn 1) 3 rfl)) ?_; clear hr a; intro a hr
      refine ov hr (.int .i64 ((at_ p0 g4.toNat).A)) (by kernel_rfl) ?_; clear hr a; intro a hr
      refine wpList_nil ?_
      refine then_normal ?_
      refine wp_seq ?_
      refine wp_seq ?_
      replace H := bd1 H; obtain ⟨r7, e8, H⟩ := H
      refine reg_E (fun w => heldC w (blk va0) (offs va0 + g4.toNat * 6) [.int .i64 ((at_ p0 g4.toNat).Who), .int .i64 ((at_ p0 g4.toNat).Kind), .int .i64 ((at_ p0 g4.toNat).Addr), .int .i64 ((at_ p0 g4.toNat).A), .int .i64 ((at_ p0 g4.toNat).B), .bool ((at_ p0 g4.toNat).OK)] ∧ True) [2, 5] h (by kernel_rfl) ?_; intro w h
      change wpAnyE _ _ _ _ _ _ 7 (Array.replicate 7 false) a w
      have hgo : ∀ w w', CellsGo w w' → (heldC w (blk va0) (offs va0 + g4.toNat * 6) [.int .i64 ((at_ p0 g4.toNat).Who), .int .i64 ((at_ p0 g4.toNat).Kind), .int .i64 ((at_ p0 g4.toNat).Addr), .int .i64 ((at_ p0 g4.toNat).A), .int .i64 ((at_ p0 g4.toNat).B), .bool ((at_ p0 g4.toNat).OK)] ∧ True) → heldC w' (blk va0) (offs va0 + g4.toNat * 6) [.int .i64 ((at_ p0 g4.toNat).Who), .int .i64 ((at_ p0 g4.toNat).Kind), .int .i64 ((at_ p0 g4.toNat).Addr), .int .i64 ((at_ p0 g4.toNat).A), .int .i64 ((at_ p0 g4.toNat).B), .bool ((at_ p0 g4.toNat).OK)] ∧ True := fun w w' g hD => ⟨heldC_go _ _ _ _ _ g hD.1, trivial⟩
      refine ev 6 0 rfl (by kernel_rfl) (wn rfl) hr (.slice va0 p0.length vc0) (fun w => by kernel_rfl) ?_; clear hr a; intro a hr
      refine ev 5 1 rfl (by kernel_rfl) (wn rfl) hr (.int .i64 g4) (fun w => by kernel_rfl) ?_; clear hr a; intro a hr
      refine evD hgo ⟨⟨hv0.cell c6 (h.dn 1) 0 rfl, hv0.cell c6 (h.dn 1) 1 rfl, hv0.cell c6 (h.dn 1) 2 rfl, hv0.cell c6 (h.dn 1) 3 rfl, hv0.cell c6 (h.dn 1) 4 rfl, hv0.cell c6 (h.dn 1) 5 rfl, trivial⟩, trivial⟩ 4 2 rfl (by kernel_rfl) (wn rfl) hr (.pointer (some ⟨blk va0, offs va0 + g4.toNat * 6, none⟩)) (fun w => ri_rd (k := .i64) (E := 90) (cc := vc0) rfl (by kernel_rfl) (by kernel_rfl) rfl (by kernel_rfl) (by kernel_rfl) hv0 c6) ?_; clear hr a; intro a hr
      refine ev 3 4 rfl (by kernel_rfl) (wn rfl) hr (.int .i64 ((at_ p0 g4.toNat).A)) (fun w => by kernel_rfl) ?_; clear hr a; intro a hr
      refine el [2, 5] (b := blk va0) (off := offs va0 + g4.toNat * 6) (cs := [.int .i64 ((at_ p0 g4.toNat).Who), .int .i64 ((at_ p0 g4.toNat).Kind), .int .i64 ((at_ p0 g4.toNat).Addr), .int .i64 ((at_ p0 g4.toNat).A), .int .i64 ((at_ p0 g4.toNat).B), .bool ((at_ p0 g4.toNat).OK)]) (fun _ hk => ⟨hk, fun w hD => hD.1⟩) 2 3 rfl (by kernel_rfl) (wn rfl) hr (.agg #[.int .i64 ((at_ p0 g4.toNat).Who), .int .i64 ((at_ p0 g4.toNat).Kind), .int .i64 ((at_ p0 g4.toNat).Addr), .int .i64 ((at_ p0 g4.toNat).A), .int .i64 ((at_ p0 g4.toNat).B), .bool ((at_ p0 g4.toNat).OK)]) ⟨hv0.cell c6 (h.dn 1) 0 rfl, hv0.cell c6 (h.dn 1) 1 rfl, hv0.cell c6 (h.dn 1) 2 rfl, hv0.cell c6 (h.dn 1) 3 rfl, hv0.cell c6 (h.dn 1) 4 rfl, hv0.cell c6 (h.dn 1) 5 rfl, trivial⟩ (fun w hc => rlm (cs := [.int .i64 ((at_ p0 g4.toNat).Who), .int .i64 ((at_ p0 g4.toNat).Kind), .int .i64 ((at_ p0 g4.toNat).Addr), .int .i64 ((at_ p0 g4.toNat).A), .int .i64 ((at_ p0 g4.toNat).B), .bool ((at_ p0 g4.toNat).OK)]) rfl (by kernel_rfl) (by kernel_rfl) (by kernel_rfl) hc) ?_; clear hr a; intro a hr
      refine e_one (fuel := 1) (i := 5) (by kernel_rfl) rfl ?_
      have hc := plunderlaw2_entry_ok (H := e8) (h := h)
      refine op_call (wn rfl) rfl rfl hr (f := 91) (args := #[.int .i64 ((at_ p0 g4.toNat).A)]) (by kernel_rfl) hc ?_; clear hc h
      rintro _ w ⟨rfl, h⟩; refine ⟨_, rfl, ?_⟩
      clear hr a; intro a hr
      refine wpList_nil ?_; refine then_normal ?_
      refine ⟨fun _ => ⟨⟨hv0.cell c6 (h.dn 1) 0 rfl, hv0.cell c6 (h.dn 1) 1 rfl, hv0.cell c6 (h.dn 1) 2 rfl, hv0.cell c6 (h.dn 1) 3 rfl, hv0.cell c6 (h.dn 1) 4 rfl, hv0.cell c6 (h.dn 1) 5 rfl, trivial⟩, trivial⟩, ?_⟩
      refine ev 0 6 rfl (by kernel_rfl) (wn rfl) hr (.bool (!(decide (at_ p0 g4.toNat = r7)))) (fun w => rb (rne rfl (by kernel_rfl) (by kernel_rfl) (by kernel_rfl) (by kernel_rfl) (by kernel_rfl) (by kernel_rfl)) (congrArg (!·) (eq_T_api_Access (at_ p0 g4.toNat) r7))) ?_; clear hr a; intro a hr
      refine e_end (by kernel_rfl) ?_
      refine then_normal ?_
      by_cases c9 : at_ p0 g4.toNat = r7
      ·
        replace H := ifT c9 H
        refine cond_ff hr (b := (!(decide (at_ p0 g4.toNat = r7)))) (by rw [show (decide (at_ p0 g4.toNat = r7)) = true from (decide_eq_true c9)]; rfl) ?_
        refine wp_skip ?_
        refine then_normal ?_
        refine wp_region_lit ?_
        refine ovs [24, 25] [.slice ca1 l3.length cc2, .int .i64 ((at_ p0 g4.toNat).A)] hr ⟨rfl, rfl⟩ (by kernel_rfl) ?_; clear hr a; intro a hr
        refine op_new (wn rfl) rfl rfl hr h (vf := fun b => .slice (some ⟨b, 0, none⟩) 1 1) (cs := #[.int .i64 ((at_ p0 g4.toNat).A)]) (T := 2) (by kernel_rfl) ?_; clear h hr a; intro b10 w a h hr
        replace h : Fit z (sepL (ro2 ca1 cc2 l3 :: pts b10 (.cells #[.int .i64 ((at_ p0 g4.toNat).A)] 2) :: L)) _ := h.sel 2 [1, 0] (by kernel_rfl) (by kernel_rfl)
        replace H := gd H; obtain ⟨c13, H⟩ := H
        refine op_append (n0 := l3.length) (c := 1) (bytes := 8) (wn rfl) rfl rfl hr rfl (by kernel_rfl) (by kernel_rfl) encZ_i64_ok (E := 2) (xs := l3) (by kernel_rfl) (by kernel_rfl) h (news := [(at_ p0 g4.toNat).A]) (m := 1) rfl ((h.pick 1).news rfl) c13 rfl ?_; clear h hr a; intro ca11 cc12 w a h hr
        refine ov hr (.slice ca11 ((l3 ++ [(at_ p0 g4.toNat).A]).length) cc12) (by kernel_rfl) ?_; clear hr a; intro a hr
        refine wpList_nil ?_
        replace h : Fit z (sepL (ro2 ca11 cc12 (l3 ++ [(at_ p0 g4.toNat).A]) :: pts b10 (.cells #[.int .i64 ((at_ p0 g4.toNat).A)] 2) :: L)) _ := h
        refine blk_normal ?_
        refine then_normal ?_
        refine wp_region_lit ?_
        refine ovs [10, 11, 4] [.int .i64 g4, .int .i64 (wi (g4 + (1 : Int))), .int .i64 (wi (g4 + (1 : Int)))] hr ⟨rfl, rfl⟩ (by kernel_rfl) ?_; clear hr a; intro a hr
        refine wpList_nil ?_
        refine then_normal ?_
        replace hr := hr.fold2 [(0, .slice va0 p0.length vc0), (3, .slice ca11 ((l3 ++ [(at_ p0 g4.toNat).A]).length) cc12), (4, .int .i64 (wi (g4 + (1 : Int))))] (by kernel_rfl); obtain ⟨j, hr⟩ := hr
        replace h : Fit z (sepL (ro2 ca11 cc12 (l3 ++ [(at_ p0 g4.toNat).A]) :: L)) _ := h.sel 2 [0] (by kernel_rfl) (by kernel_rfl)
        exact ⟨_, ⟨ca11, cc12, (l3 ++ [(at_ p0 g4.toNat).A]), (wi (g4 + (1 : Int))), H, j, hr, h⟩, Nat.lt_succ_self _⟩
      ·
        replace H := ifF c9 H
        refine cond_tt hr (b := (!(decide (at_ p0 g4.toNat = r7)))) (by rw [show (decide (at_ p0 g4.toNat = r7)) = false from (decide_eq_false c9)]; rfl) ?_
        refine wp_region_lit ?_
        refine ov hr (.int .i64 0) (by kernel_rfl) ?_; clear hr a; intro a hr
        refine wpList_nil ?_
        refine then_normal ?_
        refine wp_region_lit ?_
        refine ovs [24, 25] [.slice ca1 l3.length cc2, .int .i64 0] hr ⟨rfl, rfl⟩ (by kernel_rfl) ?_; clear hr a; intro a hr
        refine op_new (wn rfl) rfl rfl hr h (vf := fun b => .slice (some ⟨b, 0, none⟩) 1 1) (cs := #[.int .i64 0]) (T := 2) (by kernel_rfl) ?_; clear h hr a; intro b14 w a h hr
        replace h : Fit z (sepL (ro2 ca1 cc2 l3 :: pts b14 (.cells #[.int .i64 0] 2) :: L)) _ := h.sel 2 [1, 0] (by kernel_rfl) (by kernel_rfl)
        replace H := gd H; obtain ⟨c17, H⟩ := H
        refine op_append (n0 := l3.length) (c := 1) (bytes := 8) (wn rfl) rfl rfl hr rfl (by kernel_rfl) (by kernel_rfl) encZ_i64_ok (E := 2) (xs := l3) (by kernel_rfl) (by kernel_rfl) h (news := [0]) (m := 1) rfl ((h.pick 1).news rfl) c17 rfl ?_; clear h hr a; intro ca15 cc16 w a h hr
        refine ov hr (.slice ca15 ((l3 ++ [0]).length) cc16) (by kernel_rfl) ?_; clear hr a; intro a hr
        refine wpList_nil ?_
        replace h : Fit z (sepL (ro2 ca15 cc16 (l3 ++ [0]) :: pts b14 (.cells #[.int .i64 0] 2) :: L)) _ := h
        refine blk_normal ?_
        refine then_normal ?_
        refine wp_region_lit ?_
        refine ovs [10, 11, 4] [.int .i64 g4, .int .i64 (wi (g4 + (1 : Int))), .int .i64 (wi (g4 + (1 : Int)))] hr ⟨rfl, rfl⟩ (by kernel_rfl) ?_; clear hr a; intro a hr
        refine wpList_nil ?_
        refine then_normal ?_
        replace hr := hr.fold2 [(0, .slice va0 p0.length vc0), (3, .slice ca15 ((l3 ++ [0]).length) cc16), (4, .int .i64 (wi (g4 + (1 : Int))))] (by kernel_rfl); obtain ⟨j, hr⟩ := hr
        replace h : Fit z (sepL (ro2 ca15 cc16 (l3 ++ [0]) :: L)) _ := h.sel 2 [0] (by kernel_rfl) (by kernel_rfl)
        exact ⟨_, ⟨ca15, cc16, (l3 ++ [0]), (wi (g4 + (1 : Int))), H, j, hr, h⟩, Nat.lt_succ_self _⟩
    ·
      replace H := ifF c5 H
      refine cond_ff hr (b := (decide (g4 < ((p0.length : Nat) : Int)))) (decide_eq_false c5) ?_
      refine wp_exit ?_
      refine then_exit ?_
      refine then_exit ?_
      refine blk_here ?_
      refine then_normal ?_
      refine wp_seq ?_
      refine wp_region_lit ?_
      refine ovs [28, 2] [.slice ca1 l3.length cc2, .slice ca1 l3.length cc2] hr ⟨rfl, rfl⟩ (by kernel_rfl) ?_; clear hr a; intro a hr
      refine wpList_nil ?_
      refine then_normal ?_
      refine wp_ret ?_
      refine end_ret1 (v := .slice ca1 l3.length cc2) rfl hr (by kernel_rfl) ?_
      replace H := ej1 H; subst H
      exact ⟨ca1, cc2, rfl, h⟩


end Go.Proofs.Ytacgigkonoegiaa.Mo
