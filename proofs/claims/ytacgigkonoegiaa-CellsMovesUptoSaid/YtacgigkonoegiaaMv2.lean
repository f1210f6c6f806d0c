/- what the functions compute, as plain Lean functions, and that they do -/
import Derived.Test.YtacgigkonoegiaaMv1
namespace Go.Proofs.Ytacgigkonoegiaa.Mo
open Go Go.RowKit Go.Proofs.Ytacgigkonoegiaa.SL Go.Proofs.Ytacgigkonoegiaa.GX
set_option linter.unusedVariables false
set_option linter.unusedSimpArgs false

/-- (*plunder/plunderref2.Arena).Do -/
def plunderref2_Arena_Do (K : Nat) (p0 : T_plunderref2_Arena) (p1 : T_api_Act) : Option (T_api_Effect × T_plunderref2_Arena) :=
  jn0 ((if p1.Kind < (0 : Int) then ob1 (plunderref2_refused 23) (fun r10 => some (.inr (r10, p0))) else (if p1.Kind > (4 : Int) then ob1 (plunderref2_refused 23) (fun r13 => some (.inr (r13, p0))) else some (.inl ())))) ((if p1.Kind = (4 : Int) then ob2 (plunderref2_Arena_reserve K p0 p1.A) (fun r16 S17 => some (r16, S17)) else jn0 ((if p1.Addr < (0 : Int) then ob1 (plunderref2_refused 20) (fun r27 => some (.inr (r27, p0))) else (if p1.Addr ≥ ((p0.Held.length : Nat) : Int) then ob1 (plunderref2_refused 20) (fun r30 => some (.inr (r30, p0))) else some (.inl ())))) (if inr_ p1.Addr p0.Held.length then (if p1.Kind = (0 : Int) then ob1 (plunderref2_Arena_note p0 (⟨p0.Actor, p1.Kind, p1.Addr, (at_ p0.Held p1.Addr.toNat), 0, true⟩ : T_api_Access)) (fun S36 => some ((⟨(at_ p0.Held p1.Addr.toNat), true, 0⟩ : T_api_Effect), S36)) else (if p1.Kind = (1 : Int) then ob1 (plunderref2_Arena_note ({ p0 with Held := p0.Held.set p1.Addr.toNat p1.A }) (⟨p0.Actor, p1.Kind, p1.Addr, p1.A, 0, true⟩ : T_api_Access)) (fun S44 => some ((⟨0, true, 0⟩ : T_api_Effect), S44)) else (if p1.Kind = (2 : Int) then (if (at_ p0.Held p1.Addr.toNat) = p1.A then ob1 (plunderref2_Arena_note ({ p0 with Held := p0.Held.set p1.Addr.toNat p1.B }) (⟨p0.Actor, p1.Kind, p1.Addr, p1.A, p1.B, (at_ p0.Held p1.Addr.toNat) == p1.A⟩ : T_api_Access)) (fun S53 => some ((⟨0, (at_ p0.Held p1.Addr.toNat) == p1.A, 0⟩ : T_api_Effect), S53)) else ob1 (plunderref2_Arena_note p0 (⟨p0.Actor, p1.Kind, p1.Addr, p1.A, p1.B, (at_ p0.Held p1.Addr.toNat) == p1.A⟩ : T_api_Access)) (fun S59 => some ((⟨0, (at_ p0.Held p1.Addr.toNat) == p1.A, 0⟩ : T_api_Effect), S59))) else ob1 (plunderref2_Arena_note ({ p0 with Held := p0.Held.set p1.Addr.toNat (wi ((at_ p0.Held p1.Addr.toNat) + p1.A)) }) (⟨p0.Actor, p1.Kind, p1.Addr, p1.A, wi ((at_ p0.Held p1.Addr.toNat) + p1.A), true⟩ : T_api_Access)) (fun S66 => some ((⟨wi ((at_ p0.Held p1.Addr.toNat) + p1.A), true, 0⟩ : T_api_Effect), S66))))) else none)))
set_option maxRecDepth 100000 in
set_option maxHeartbeats 4000000 in
theorem plunderref2_Arena_Do_ok {z w : World} {L : List HProp} {K : Nat} {p0 : T_plunderref2_Arena} {p1 : T_api_Act} {B0 : Nat} {ca1 : Option Addr} {cc2 : Nat} {ca3 : Option Addr} {cc4 : Nat} {r0 : T_api_Effect} {q0 : T_plunderref2_Arena} (H : plunderref2_Arena_Do K p0 p1 = some (r0, q0)) (h : Fit z (sepL (ob62 B0 p0 ca1 cc2 ca3 cc4 :: ro2 ca1 cc2 p0.Held :: ro90 ca3 cc4 p0.Book :: L)) w)  :
    Calls Try.prog 30 #[.pointer (some ⟨B0, 0, none⟩), .agg #[.int .i64 p1.Who, .int .i64 p1.Kind, .int .i64 p1.Addr, .int .i64 p1.A, .int .i64 p1.B]] w fun e w => ∃ caq0_1 : Option Addr, ∃ ccq0_2 : Nat, ∃ caq0_3 : Option Addr, ∃ ccq0_4 : Nat, e = .returned (.agg #[.int .i64 r0.V, .bool r0.OK, .int .i64 r0.Err]) ∧ Fit z (sepL (ob62 B0 q0 caq0_1 ccq0_2 caq0_3 ccq0_4 :: ro2 caq0_1 ccq0_2 q0.Held :: ro90 caq0_3 ccq0_4 q0.Book :: L)) w := by
  unfold plunderref2_Arena_Do at H
  refine enter Try.func30 rfl 139 rfl rfl [(0, .pointer (some ⟨B0, 0, none⟩)), (1, .agg #[.int .i64 p1.Who, .int .i64 p1.Kind, .int .i64 p1.Addr, .int .i64 p1.A, .int .i64 p1.B])] ⟨rfl, rfl, trivial⟩ ?_
  intro j a hr
  refine wp_seq ?_
  refine wp_region_lit ?_
  refine op_new (wn rfl) rfl rfl hr h (vf := fun b => .pointer (some ⟨b, 0, none⟩)) (cs := #[.int .i64 p1.Who, .int .i64 p1.Kind, .int .i64 p1.Addr, .int .i64 p1.A, .int .i64 p1.B]) (T := 57) (by kernel_rfl) ?_; clear h hr a; intro b5 w a h hr
  refine op_new (wn rfl) rfl rfl hr h (vf := fun b => .pointer (some ⟨b, 0, none⟩)) (cs := #[.int .i64 0, .bool false, .int .i64 0]) (T := 39) (by kernel_rfl) ?_; clear h hr a; intro b6 w a h hr
  refine wpList_nil ?_
  refine then_normal ?_
  replace H := jd0 H; obtain ⟨o8, H, hK7⟩ := H
  refine cut_rule (β := Unit) (fun _ a w => .inl () = o8 ∧ ∃ j, Rep 139 (lk [(0, .pointer (some ⟨B0, 0, none⟩)), (3, .pointer (some ⟨b5, 0, none⟩)), (4, .pointer (some ⟨b6, 0, none⟩))] j) a ∧ Fit z (sepL (ob62 B0 p0 ca1 cc2 ca3 cc4 :: ro2 ca1 cc2 p0.Held :: ro90 ca3 cc4 p0.Book :: ob57 b5 p1 :: pts b6 (.cells #[.int .i64 0, .bool false, .int .i64 0] 39) :: L)) w) ?_ ?_
  ·
    refine wp_seq ?_
    refine wp_region_lit ?_
    refine ov hr (.pointer (some ⟨b5, 1, none⟩)) (by kernel_rfl) ?_; clear hr a; intro a hr
    refine op_val (wn rfl) rfl rfl hr (v := .int .i64 p1.Kind) (rl rfl (by kernel_rfl) (by kernel_rfl) ((h.pick 1).cell 1 rfl)) ?_; clear hr a; intro a hr
    refine ovs [11, 12] [.bool (decide (p1.Kind < (0 : Int))), .bool (decide (p1.Kind < (0 : Int)))] hr ⟨rfl, rfl⟩ (by kernel_rfl) ?_; clear hr a; intro a hr
    by_cases c9 : p1.Kind < (0 : Int)
    ·
      replace H := ifT c9 H
      refine op_off ((wg hr rfl rfl rfl (b' := (decide (p1.Kind < (0 : Int)))) (by kernel_rfl)).trans (by rw [show (decide (p1.Kind < (0 : Int))) = true from (decide_eq_true c9)]; rfl)) rfl rfl hr ?_; clear hr a; intro a hr
      refine op_off ((wg hr rfl rfl rfl (b' := (decide (p1.Kind < (0 : Int)))) (by kernel_rfl)).trans (by rw [show (decide (p1.Kind < (0 : Int))) = true from (decide_eq_true c9)]; rfl)) rfl rfl hr ?_; clear hr a; intro a hr
      refine op_off ((wg hr rfl rfl rfl (b' := (decide (p1.Kind < (0 : Int)))) (by kernel_rfl)).trans (by rw [show (decide (p1.Kind < (0 : Int))) = true from (decide_eq_true c9)]; rfl)) rfl rfl hr ?_; clear hr a; intro a hr
      refine op_val (wn rfl) rfl rfl hr (v := .bool true) (rp_t (b := (decide (p1.Kind < (0 : Int)))) rfl (by kernel_rfl) (decide_eq_true c9) (by kernel_rfl)) ?_; clear hr a; intro a hr
      refine wpList_nil ?_
      refine then_normal ?_
      refine cond_tt hr (b := true) rfl ?_
      refine wp_seq ?_
      refine wp_region_lit ?_
      replace H := bd1 H; obtain ⟨r10, e11, H⟩ := H
      have hc := plunderref2_refused_ok (H := e11) (h := h)
      refine op_call (wn rfl) rfl rfl hr (f := 78) (args := #[.int .i64 23]) (by kernel_rfl) hc ?_; clear hc h
      rintro _ w ⟨rfl, h⟩; refine ⟨_, rfl, ?_⟩
      clear hr a; intro a hr
      refine op_stores (wn rfl) rfl hr rfl (by kernel_rfl) (by kernel_rfl) (vs := [.int .i64 r10.V, .bool r10.OK, .int .i64 r10.Err]) rfl rfl (by kernel_rfl) h (i := 0) (cs' := #[.int .i64 r10.V, .bool r10.OK, .int .i64 r10.Err]) rfl ?_; clear h; intro w h
      refine wpList_nil ?_
      replace h : Fit z (sepL (ob39 b6 r10 :: ob57 b5 p1 :: ob62 B0 p0 ca1 cc2 ca3 cc4 :: ro2 ca1 cc2 p0.Held :: ro90 ca3 cc4 p0.Book :: L)) _ := h
      refine then_normal ?_
      refine wp_ret ?_
      refine then_ret ?_
      refine end_retC (cs := [.int .i64 r10.V, .bool r10.OK, .int .i64 r10.Err]) rfl hr (by kernel_rfl) (by kernel_rfl) (by kernel_rfl) ⟨h.cell 0 rfl, h.cell 1 rfl, h.cell 2 rfl, trivial⟩ ?_
      replace H := jx0 H hK7
      replace h : Fit z (sepL (ob62 B0 p0 ca1 cc2 ca3 cc4 :: ro2 ca1 cc2 p0.Held :: ro90 ca3 cc4 p0.Book :: L)) _ := h.sel 5 [2, 3, 4] (by kernel_rfl) (by kernel_rfl)
      replace H := ej2 H; obtain ⟨rfl, rfl⟩ := H
      exact ⟨ca1, cc2, ca3, cc4, rfl, h⟩
    ·
      replace H := ifF c9 H
      refine op_val ((wg hr rfl rfl rfl (b' := (decide (p1.Kind < (0 : Int)))) (by kernel_rfl)).trans (by rw [show (decide (p1.Kind < (0 : Int))) = false from (decide_eq_false c9)]; rfl)) rfl rfl hr (v := .pointer (some ⟨b5, 1, none⟩)) (by kernel_rfl) ?_; clear hr a; intro a hr
      refine op_val ((wg hr rfl rfl rfl (b' := (decide (p1.Kind < (0 : Int)))) (by kernel_rfl)).trans (by rw [show (decide (p1.Kind < (0 : Int))) = false from (decide_eq_false c9)]; rfl)) rfl rfl hr (v := .int .i64 p1.Kind) (rl rfl (by kernel_rfl) (by kernel_rfl) ((h.pick 1).cell 1 rfl)) ?_; clear hr a; intro a hr
      refine op_val ((wg hr rfl rfl rfl (b' := (decide (p1.Kind < (0 : Int)))) (by kernel_rfl)).trans (by rw [show (decide (p1.Kind < (0 : Int))) = false from (decide_eq_false c9)]; rfl)) rfl rfl hr (v := .bool (decide (p1.Kind > (4 : Int)))) (by kernel_rfl) ?_; clear hr a; intro a hr
      refine op_val (wn rfl) rfl rfl hr (v := .bool (decide (p1.Kind > (4 : Int)))) (rp_f (b := (decide (p1.Kind < (0 : Int)))) rfl (by kernel_rfl) (decide_eq_false c9) (by kernel_rfl)) ?_; clear hr a; intro a hr
      refine wpList_nil ?_
      refine then_normal ?_
      by_cases c12 : p1.Kind > (4 : Int)
      ·
        replace H := ifT c12 H
        refine cond_tt hr (b := (decide (p1.Kind > (4 : Int)))) (decide_eq_true c12) ?_
        refine wp_seq ?_
        refine wp_region_lit ?_
        replace H := bd1 H; obtain ⟨r13, e14, H⟩ := H
        have hc := plunderref2_refused_ok (H := e14) (h := h)
        refine op_call (wn rfl) rfl rfl hr (f := 78) (args := #[.int .i64 23]) (by kernel_rfl) hc ?_; clear hc h
        rintro _ w ⟨rfl, h⟩; refine ⟨_, rfl, ?_⟩
        clear hr a; intro a hr
        refine op_stores (wn rfl) rfl hr rfl (by kernel_rfl) (by kernel_rfl) (vs := [.int .i64 r13.V, .bool r13.OK, .int .i64 r13.Err]) rfl rfl (by kernel_rfl) h (i := 0) (cs' := #[.int .i64 r13.V, .bool r13.OK, .int .i64 r13.Err]) rfl ?_; clear h; intro w h
        refine wpList_nil ?_
        replace h : Fit z (sepL (ob39 b6 r13 :: ob57 b5 p1 :: ob62 B0 p0 ca1 cc2 ca3 cc4 :: ro2 ca1 cc2 p0.Held :: ro90 ca3 cc4 p0.Book :: L)) _ := h
        refine then_normal ?_
        refine wp_ret ?_
        refine then_ret ?_
        refine end_retC (cs := [.int .i64 r13.V, .bool r13.OK, .int .i64 r13.Err]) rfl hr (by kernel_rfl) (by kernel_rfl) (by kernel_rfl) ⟨h.cell 0 rfl, h.cell 1 rfl, h.cell 2 rfl, trivial⟩ ?_
        replace H := jx0 H hK7
        replace h : Fit z (sepL (ob62 B0 p0 ca1 cc2 ca3 cc4 :: ro2 ca1 cc2 p0.Held :: ro90 ca3 cc4 p0.Book :: L)) _ := h.sel 5 [2, 3, 4] (by kernel_rfl) (by kernel_rfl)
        replace H := ej2 H; obtain ⟨rfl, rfl⟩ := H
        exact ⟨ca1, cc2, ca3, cc4, rfl, h⟩
      ·
        replace H := ifF c12 H
        refine cond_ff hr (b := (decide (p1.Kind > (4 : Int)))) (decide_eq_false c12) ?_
        refine wp_skip ?_
        refine then_normal ?_
        replace hr := hr.fold2 [(0, .pointer (some ⟨B0, 0, none⟩)), (3, .pointer (some ⟨b5, 0, none⟩)), (4, .pointer (some ⟨b6, 0, none⟩))] (by kernel_rfl); obtain ⟨j, hr⟩ := hr
        replace h : Fit z (sepL (ob62 B0 p0 ca1 cc2 ca3 cc4 :: ro2 ca1 cc2 p0.Held :: ro90 ca3 cc4 p0.Book :: ob57 b5 p1 :: pts b6 (.cells #[.int .i64 0, .bool false, .int .i64 0] 39) :: L)) _ := h.sel 5 [2, 3, 4, 1, 0] (by kernel_rfl) (by kernel_rfl)
        exact ⟨(), sinj H, j, hr, h⟩
  clear h hr a; rintro _ a w ⟨rfl, j, hr, h⟩
  replace H := jk0 hK7
  refine wp_seq ?_
  refine wp_seq ?_
  refine wp_region_lit ?_
  refine ov hr (.pointer (some ⟨b5, 1, none⟩)) (by kernel_rfl) ?_; clear hr a; intro a hr
  refine op_val (wn rfl) rfl rfl hr (v := .int .i64 p1.Kind) (rl rfl (by kernel_rfl) (by kernel_rfl) ((h.pick 3).cell 1 rfl)) ?_; clear hr a; intro a hr
  refine ov hr (.bool (p1.Kind == (4 : Int))) (by kernel_rfl) ?_; clear hr a; intro a hr
  refine wpList_nil ?_
  refine then_normal ?_
  by_cases c15 : p1.Kind = (4 : Int)
  ·
    replace H := ifT c15 H
    refine cond_tt hr (b := (p1.Kind == (4 : Int))) (beq_iff_eq.mpr c15) ?_
    refine wp_seq ?_
    refine wp_region_lit ?_
    refine ovs [21, 22] [.pointer (some ⟨B0, 0, none⟩), .pointer (some ⟨b5, 3, none⟩)] hr ⟨rfl, rfl⟩ (by kernel_rfl) ?_; clear hr a; intro a hr
    refine op_val (wn rfl) rfl rfl hr (v := .int .i64 p1.A) (rl rfl (by kernel_rfl) (by kernel_rfl) ((h.pick 3).cell 3 rfl)) ?_; clear hr a; intro a hr
    replace H := bd2 H; obtain ⟨r16, S17, e18, H⟩ := H
    have hc := plunderref2_Arena_reserve_ok (H := e18) (h := h)
    refine op_call (wn rfl) rfl rfl hr (f := 79) (args := #[.pointer (some ⟨B0, 0, none⟩), .int .i64 p1.A]) (by kernel_rfl) hc ?_; clear hc h
    rintro _ w ⟨caq19, ccq20, caq21, ccq22, rfl, h⟩; refine ⟨_, rfl, ?_⟩
    clear hr a; intro a hr
    refine op_new (wn rfl) rfl rfl hr h (vf := fun b => .pointer (some ⟨b, 0, none⟩)) (cs := #[.int .i64 0, .bool false, .int .i64 0]) (T := 39) (by kernel_rfl) ?_; clear h hr a; intro b23 w a h hr
    refine op_stores (wn rfl) rfl hr rfl (by kernel_rfl) (by kernel_rfl) (vs := [.int .i64 r16.V, .bool r16.OK, .int .i64 r16.Err]) rfl rfl (by kernel_rfl) h (i := 0) (cs' := #[.int .i64 r16.V, .bool r16.OK, .int .i64 r16.Err]) rfl ?_; clear h; intro w h
    refine wpList_nil ?_
    replace h : Fit z (sepL (ob39 b23 r16 :: ob62 B0 S17 caq19 ccq20 caq21 ccq22 :: ro2 caq19 ccq20 S17.Held :: ro90 caq21 ccq22 S17.Book :: ob57 b5 p1 :: pts b6 (.cells #[.int .i64 0, .bool false, .int .i64 0] 39) :: L)) _ := h
    refine then_normal ?_
    refine wp_seq ?_
    refine wp_region_lit ?_
    refine op_val (wn rfl) rfl rfl hr (v := .agg #[.int .i64 r16.V, .bool r16.OK, .int .i64 r16.Err]) (rlm (cs := [.int .i64 r16.V, .bool r16.OK, .int .i64 r16.Err]) rfl (by kernel_rfl) (by kernel_rfl) (by kernel_rfl) ⟨h.cell 0 rfl, h.cell 1 rfl, h.cell 2 rfl, trivial⟩) ?_; clear hr a; intro a hr
    replace h : Fit z (sepL (pts b6 (.cells #[.int .i64 0, .bool false, .int .i64 0] 39) :: ob39 b23 r16 :: ob62 B0 S17 caq19 ccq20 caq21 ccq22 :: ro2 caq19 ccq20 S17.Held :: ro90 caq21 ccq22 S17.Book :: ob57 b5 p1 :: L)) _ := h.sel 6 [5, 0, 1, 2, 3, 4] (by kernel_rfl) (by kernel_rfl)
    refine op_stores (wn rfl) rfl hr rfl (by kernel_rfl) (by kernel_rfl) (vs := [.int .i64 r16.V, .bool r16.OK, .int .i64 r16.Err]) rfl rfl (by kernel_rfl) h (i := 0) (cs' := #[.int .i64 r16.V, .bool r16.OK, .int .i64 r16.Err]) rfl ?_; clear h; intro w h
    refine wpList_nil ?_
    replace h : Fit z (sepL (ob39 b6 r16 :: ob39 b23 r16 :: ob62 B0 S17 caq19 ccq20 caq21 ccq22 :: ro2 caq19 ccq20 S17.Held :: ro90 caq21 ccq22 S17.Book :: ob57 b5 p1 :: L)) _ := h
    refine then_normal ?_
    refine wp_ret ?_
    refine then_ret ?_
    refine end_retC (cs := [.int .i64 r16.V, .bool r16.OK, .int .i64 r16.Err]) rfl hr (by kernel_rfl) (by kernel_rfl) (by kernel_rfl) ⟨h.cell 0 rfl, h.cell 1 rfl, h.cell 2 rfl, trivial⟩ ?_
    replace h : Fit z (sepL (ob62 B0 S17 caq19 ccq20 caq21 ccq22 :: ro2 caq19 ccq20 S17.Held :: ro90 caq21 ccq22 S17.Book :: L)) _ := h.sel 6 [2, 3, 4] (by kernel_rfl) (by kernel_rfl)
    replace H := ej2 H; obtain ⟨rfl, rfl⟩ := H
    exact ⟨caq19, ccq20, caq21, ccq22, rfl, h⟩
  ·
    replace H := ifF c15 H
    refine cond_ff hr (b := (p1.Kind == (4 : Int))) (beq_eq_false_iff_ne.mpr c15) ?_
    refine wp_skip ?_
    refine then_normal ?_
    replace H := jd0 H; obtain ⟨o25, H, hK24⟩ := H
    refine cut_rule (β := Unit) (fun _ a w => .inl () = o25 ∧ ∃ j, Rep 139 (lk [(0, .pointer (some ⟨B0, 0, none⟩)), (3, .pointer (some ⟨b5, 0, none⟩)), (4, .pointer (some ⟨b6, 0, none⟩))] j) a ∧ Fit z (sepL (ob62 B0 p0 ca1 cc2 ca3 cc4 :: ro2 ca1 cc2 p0.Held :: ro90 ca3 cc4 p0.Book :: ob57 b5 p1 :: pts b6 (.cells #[.int .i64 0, .bool false, .int .i64 0] 39) :: L)) w) ?_ ?_
    ·
      refine wp_seq ?_
      by_cases c26 : p1.Addr < (0 : Int)
      ·
        replace H := ifT c26 H
        refine reg_E (fun w => heldC w b5 2 [.int .i64 p1.Addr] ∧ True) [0] h (by kernel_rfl) ?_; intro w h
        change wpAnyE _ _ _ _ _ _ 13 (Array.replicate 13 false) a w
        have hgo : ∀ w w', CellsGo w w' → (heldC w b5 2 [.int .i64 p1.Addr] ∧ True) → heldC w' b5 2 [.int .i64 p1.Addr] ∧ True := fun w w' g hD => ⟨heldC_go _ _ _ _ _ g hD.1, trivial⟩
        refine evD hgo ⟨⟨(h.pick 3).cell 2 rfl, trivial⟩, trivial⟩ 12 0 rfl (by kernel_rfl) (wn rfl) hr (.pointer (some ⟨b5, 2, none⟩)) (fun w => by kernel_rfl) ?_; clear hr a; intro a hr
        refine el [0] (b := b5) (off := 2) (cs := [.int .i64 p1.Addr]) (fun _ hk => ⟨hk, fun w hD => hD.1⟩) 11 1 rfl (by kernel_rfl) (wn rfl) hr (.int .i64 p1.Addr) ⟨(h.pick 3).cell 2 rfl, trivial⟩ (fun w hc => rl rfl (by kernel_rfl) (by kernel_rfl) hc.1) ?_; clear hr a; intro a hr
        refine ev 10 2 rfl (by kernel_rfl) (wn rfl) hr (.bool (decide (p1.Addr < (0 : Int)))) (fun w => by kernel_rfl) ?_; clear hr a; intro a hr
        refine ev 9 3 rfl (by kernel_rfl) (wn rfl) hr (.bool (decide (p1.Addr < (0 : Int)))) (fun w => by kernel_rfl) ?_; clear hr a; intro a hr
        refine eo 8 4 rfl (by kernel_rfl) ((wg hr rfl rfl rfl (b' := (decide (p1.Addr < (0 : Int)))) (by kernel_rfl)).trans (by rw [show (decide (p1.Addr < (0 : Int))) = true from (decide_eq_true c26)]; rfl)) hr ?_; clear hr a; intro a hr
        refine eo 7 6 rfl (by kernel_rfl) ((wg hr rfl rfl rfl (b' := (decide (p1.Addr < (0 : Int)))) (by kernel_rfl)).trans (by rw [show (decide (p1.Addr < (0 : Int))) = true from (decide_eq_true c26)]; rfl)) hr ?_; clear hr a; intro a hr
        refine eo 6 7 rfl (by kernel_rfl) ((wg hr rfl rfl rfl (b' := (decide (p1.Addr < (0 : Int)))) (by kernel_rfl)).trans (by rw [show (decide (p1.Addr < (0 : Int))) = true from (decide_eq_true c26)]; rfl)) hr ?_; clear hr a; intro a hr
        refine eo 5 8 rfl (by kernel_rfl) ((wg hr rfl rfl rfl (b' := (decide (p1.Addr < (0 : Int)))) (by kernel_rfl)).trans (by rw [show (decide (p1.Addr < (0 : Int))) = true from (decide_eq_true c26)]; rfl)) hr ?_; clear hr a; intro a hr
        refine eo 4 5 rfl (by kernel_rfl) ((wg hr rfl rfl rfl (b' := (decide (p1.Addr < (0 : Int)))) (by kernel_rfl)).trans (by rw [show (decide (p1.Addr < (0 : Int))) = true from (decide_eq_true c26)]; rfl)) hr ?_; clear hr a; intro a hr
        refine eo 3 9 rfl (by kernel_rfl) ((wg hr rfl rfl rfl (b' := (decide (p1.Addr < (0 : Int)))) (by kernel_rfl)).trans (by rw [show (decide (p1.Addr < (0 : Int))) = true from (decide_eq_true c26)]; rfl)) hr ?_; clear hr a; intro a hr
        refine eo 2 10 rfl (by kernel_rfl) ((wg hr rfl rfl rfl (b' := (decide (p1.Addr < (0 : Int)))) (by kernel_rfl)).trans (by rw [show (decide (p1.Addr < (0 : Int))) = true from (decide_eq_true c26)]; rfl)) hr ?_; clear hr a; intro a hr
        refine eo 1 11 rfl (by kernel_rfl) ((wg hr rfl rfl rfl (b' := (decide (p1.Addr < (0 : Int)))) (by kernel_rfl)).trans (by rw [show (decide (p1.Addr < (0 : Int))) = true from (decide_eq_true c26)]; rfl)) hr ?_; clear hr a; intro a hr
        refine ev 0 12 rfl (by kernel_rfl) (wn rfl) hr (.bool true) (fun w => rp_t (b := (decide (p1.Addr < (0 : Int)))) rfl (by kernel_rfl) (decide_eq_true c26) (by kernel_rfl)) ?_; clear hr a; intro a hr
        refine e_end (by kernel_rfl) ?_
        refine then_normal ?_
        refine cond_tt hr (b := true) rfl ?_
        refine wp_seq ?_
        refine wp_region_lit ?_
        replace H := bd1 H; obtain ⟨r27, e28, H⟩ := H
        have hc := plunderref2_refused_ok (H := e28) (h := h)
        refine op_call (wn rfl) rfl rfl hr (f := 78) (args := #[.int .i64 20]) (by kernel_rfl) hc ?_; clear hc h
        rintro _ w ⟨rfl, h⟩; refine ⟨_, rfl, ?_⟩
        clear hr a; intro a hr
        replace h : Fit z (sepL (pts b6 (.cells #[.int .i64 0, .bool false, .int .i64 0] 39) :: ob62 B0 p0 ca1 cc2 ca3 cc4 :: ro2 ca1 cc2 p0.Held :: ro90 ca3 cc4 p0.Book :: ob57 b5 p1 :: L)) _ := h.sel 5 [4, 0, 1, 2, 3] (by kernel_rfl) (by kernel_rfl)
        refine op_stores (wn rfl) rfl hr rfl (by kernel_rfl) (by kernel_rfl) (vs := [.int .i64 r27.V, .bool r27.OK, .int .i64 r27.Err]) rfl rfl (by kernel_rfl) h (i := 0) (cs' := #[.int .i64 r27.V, .bool r27.OK, .int .i64 r27.Err]) rfl ?_; clear h; intro w h
        refine wpList_nil ?_
        replace h : Fit z (sepL (ob39 b6 r27 :: ob62 B0 p0 ca1 cc2 ca3 cc4 :: ro2 ca1 cc2 p0.Held :: ro90 ca3 cc4 p0.Book :: ob57 b5 p1 :: L)) _ := h
        refine then_normal ?_
        refine wp_ret ?_
        refine then_ret ?_
        refine end_retC (cs := [.int .i64 r27.V, .bool r27.OK, .int .i64 r27.Err]) rfl hr (by kernel_rfl) (by kernel_rfl) (by kernel_rfl) ⟨h.cell 0 rfl, h.cell 1 rfl, h.cell 2 rfl, trivial⟩ ?_
        replace H := jx0 H hK24
        replace h : Fit z (sepL (ob62 B0 p0 ca1 cc2 ca3 cc4 :: ro2 ca1 cc2 p0.Held :: ro90 ca3 cc4 p0.Book :: L)) _ := h.sel 5 [1, 2, 3] (by kernel_rfl) (by kernel_rfl)
        replace H := ej2 H; obtain ⟨rfl, rfl⟩ := H
        exact ⟨ca1, cc2, ca3, cc4, rfl, h⟩
      ·
        replace H := ifF c26 H
        refine reg_E (fun w => heldC w b5 2 [.int .i64 p1.Addr] ∧ heldC w b5 2 [.int .i64 p1.Addr] ∧ heldC w B0 1 [.slice ca1 p0.Held.length cc2] ∧ True) [0, 2, 4, 7, 8, 10] h (by kernel_rfl) ?_; intro w h
        change wpAnyE _ _ _ _ _ _ 13 (Array.replicate 13 false) a w
        have hgo : ∀ w w', CellsGo w w' → (heldC w b5 2 [.int .i64 p1.Addr] ∧ heldC w b5 2 [.int .i64 p1.Addr] ∧ heldC w B0 1 [.slice ca1 p0.Held.length cc2] ∧ True) → heldC w' b5 2 [.int .i64 p1.Addr] ∧ heldC w' b5 2 [.int .i64 p1.Addr] ∧ heldC w' B0 1 [.slice ca1 p0.Held.length cc2] ∧ True := fun w w' g hD => ⟨heldC_go _ _ _ _ _ g hD.1, heldC_go _ _ _ _ _ g hD.2.1, heldC_go _ _ _ _ _ g hD.2.2.1, trivial⟩
        refine evD hgo ⟨⟨(h.pick 3).cell 2 rfl, trivial⟩, ⟨(h.pick 3).cell 2 rfl, trivial⟩, ⟨h.cell 1 rfl, trivial⟩, trivial⟩ 12 0 rfl (by kernel_rfl) (wn rfl) hr (.pointer (some ⟨b5, 2, none⟩)) (fun w => by kernel_rfl) ?_; clear hr a; intro a hr
        refine el [0, 2, 4, 7, 8, 10] (b := b5) (off := 2) (cs := [.int .i64 p1.Addr]) (fun _ hk => ⟨hk, fun w hD => hD.1⟩) 11 1 rfl (by kernel_rfl) (wn rfl) hr (.int .i64 p1.Addr) ⟨(h.pick 3).cell 2 rfl, trivial⟩ (fun w hc => rl rfl (by kernel_rfl) (by kernel_rfl) hc.1) ?_; clear hr a; intro a hr
        refine evD hgo ⟨⟨(h.pick 3).cell 2 rfl, trivial⟩, ⟨(h.pick 3).cell 2 rfl, trivial⟩, ⟨h.cell 1 rfl, trivial⟩, trivial⟩ 10 2 rfl (by kernel_rfl) (wn rfl) hr (.bool (decide (p1.Addr < (0 : Int)))) (fun w => by kernel_rfl) ?_; clear hr a; intro a hr
        refine ev 9 3 rfl (by kernel_rfl) (wn rfl) hr (.bool (decide (p1.Addr < (0 : Int)))) (fun w => by kernel_rfl) ?_; clear hr a; intro a hr
        refine evD hgo ⟨⟨(h.pick 3).cell 2 rfl, trivial⟩, ⟨(h.pick 3).cell 2 rfl, trivial⟩, ⟨h.cell 1 rfl, trivial⟩, trivial⟩ 8 4 rfl (by kernel_rfl) ((wg hr rfl rfl rfl (b' := (decide (p1.Addr < (0 : Int)))) (by kernel_rfl)).trans (by rw [show (decide (p1.Addr < (0 : Int))) = false from (decide_eq_false c26)]; rfl)) hr (.pointer (some ⟨b5, 2, none⟩)) (fun w => by kernel_rfl) ?_; clear hr a; intro a hr
        refine ev 7 6 rfl (by kernel_rfl) ((wg hr rfl rfl rfl (b' := (decide (p1.Addr < (0 : Int)))) (by kernel_rfl)).trans (by rw [show (decide (p1.Addr < (0 : Int))) = false from (decide_eq_false c26)]; rfl)) hr (.pointer (some ⟨B0, 0, none⟩)) (fun w => by kernel_rfl) ?_; clear hr a; intro a hr
        refine evD hgo ⟨⟨(h.pick 3).cell 2 rfl, trivial⟩, ⟨(h.pick 3).cell 2 rfl, trivial⟩, ⟨h.cell 1 rfl, trivial⟩, trivial⟩ 6 7 rfl (by kernel_rfl) ((wg hr rfl rfl rfl (b' := (decide (p1.Addr < (0 : Int)))) (by kernel_rfl)).trans (by rw [show (decide (p1.Addr < (0 : Int))) = false from (decide_eq_false c26)]; rfl)) hr (.pointer (some ⟨B0, 0, none⟩)) (fun w => by kernel_rfl) ?_; clear hr a; intro a hr
        refine evD hgo ⟨⟨(h.pick 3).cell 2 rfl, trivial⟩, ⟨(h.pick 3).cell 2 rfl, trivial⟩, ⟨h.cell 1 rfl, trivial⟩, trivial⟩ 5 8 rfl (by kernel_rfl) ((wg hr rfl rfl rfl (b' := (decide (p1.Addr < (0 : Int)))) (by kernel_rfl)).trans (by rw [show (decide (p1.Addr < (0 : Int))) = false from (decide_eq_false c26)]; rfl)) hr (.pointer (some ⟨B0, 1, none⟩)) (fun w => by kernel_rfl) ?_; clear hr a; intro a hr
        refine el [0, 2, 4, 7, 8, 10] (b := b5) (off := 2) (cs := [.int .i64 p1.Addr]) (fun _ hk => ⟨hk, fun w hD => hD.2.1⟩) 4 5 rfl (by kernel_rfl) ((wg hr rfl rfl rfl (b' := (decide (p1.Addr < (0 : Int)))) (by kernel_rfl)).trans (by rw [show (decide (p1.Addr < (0 : Int))) = false from (decide_eq_false c26)]; rfl)) hr (.int .i64 p1.Addr) ⟨(h.pick 3).cell 2 rfl, trivial⟩ (fun w hc => rl rfl (by kernel_rfl) (by kernel_rfl) hc.1) ?_; clear hr a; intro a hr
        refine el [0, 2, 4, 7, 8, 10] (b := B0) (off := 1) (cs := [.slice ca1 p0.Held.length cc2]) (fun _ hk => ⟨hk, fun w hD => hD.2.2.1⟩) 3 9 rfl (by kernel_rfl) ((wg hr rfl rfl rfl (b' := (decide (p1.Addr < (0 : Int)))) (by kernel_rfl)).trans (by rw [show (decide (p1.Addr < (0 : Int))) = false from (decide_eq_false c26)]; rfl)) hr (.slice ca1 p0.Held.length cc2) ⟨h.cell 1 rfl, trivial⟩ (fun w hc => rl rfl (by kernel_rfl) (by kernel_rfl) hc.1) ?_; clear hr a; intro a hr
        refine evD hgo ⟨⟨(h.pick 3).cell 2 rfl, trivial⟩, ⟨(h.pick 3).cell 2 rfl, trivial⟩, ⟨h.cell 1 rfl, trivial⟩, trivial⟩ 2 10 rfl (by kernel_rfl) ((wg hr rfl rfl rfl (b' := (decide (p1.Addr < (0 : Int)))) (by kernel_rfl)).trans (by rw [show (decide (p1.Addr < (0 : Int))) = false from (decide_eq_false c26)]; rfl)) hr (.int .i64 ((p0.Held.length : Nat) : Int)) (fun w => by kernel_rfl) ?_; clear hr a; intro a hr
        refine ev 1 11 rfl (by kernel_rfl) ((wg hr rfl rfl rfl (b' := (decide (p1.Addr < (0 : Int)))) (by kernel_rfl)).trans (by rw [show (decide (p1.Addr < (0 : Int))) = false from (decide_eq_false c26)]; rfl)) hr (.bool (decide (p1.Addr ≥ ((p0.Held.length : Nat) : Int)))) (fun w => by kernel_rfl) ?_; clear hr a; intro a hr
        refine ev 0 12 rfl (by kernel_rfl) (wn rfl) hr (.bool (decide (p1.Addr ≥ ((p0.Held.length : Nat) : Int)))) (fun w => rp_f (b := (decide (p1.Addr < (0 : Int)))) rfl (by kernel_rfl) (decide_eq_false c26) (by kernel_rfl)) ?_; clear hr a; intro a hr
        refine e_end (by kernel_rfl) ?_
        refine then_normal ?_
        by_cases c29 : p1.Addr ≥ ((p0.Held.length : Nat) : Int)
        ·
          replace H := ifT c29 H
          refine cond_tt hr (b := (decide (p1.Addr ≥ ((p0.Held.length : Nat) : Int)))) (decide_eq_true c29) ?_
          refine wp_seq ?_
          refine wp_region_lit ?_
          replace H := bd1 H; obtain ⟨r30, e31, H⟩ := H
          have hc := plunderref2_refused_ok (H := e31) (h := h)
          refine op_call (wn rfl) rfl rfl hr (f := 78) (args := #[.int .i64 20]) (by kernel_rfl) hc ?_; clear hc h
          rintro _ w ⟨rfl, h⟩; refine ⟨_, rfl, ?_⟩
          clear hr a; intro a hr
          replace h : Fit z (sepL (pts b6 (.cells #[.int .i64 0, .bool false, .int .i64 0] 39) :: ob62 B0 p0 ca1 cc2 ca3 cc4 :: ro2 ca1 cc2 p0.Held :: ro90 ca3 cc4 p0.Book :: ob57 b5 p1 :: L)) _ := h.sel 5 [4, 0, 1, 2, 3] (by kernel_rfl) (by kernel_rfl)
          refine op_stores (wn rfl) rfl hr rfl (by kernel_rfl) (by kernel_rfl) (vs := [.int .i64 r30.V, .bool r30.OK, .int .i64 r30.Err]) rfl rfl (by kernel_rfl) h (i := 0) (cs' := #[.int .i64 r30.V, .bool r30.OK, .int .i64 r30.Err]) rfl ?_; clear h; intro w h
          refine wpList_nil ?_
          replace h : Fit z (sepL (ob39 b6 r30 :: ob62 B0 p0 ca1 cc2 ca3 cc4 :: ro2 ca1 cc2 p0.Held :: ro90 ca3 cc4 p0.Book :: ob57 b5 p1 :: L)) _ := h
          refine then_normal ?_
          refine wp_ret ?_
          refine then_ret ?_
          refine end_retC (cs := [.int .i64 r30.V, .bool r30.OK, .int .i64 r30.Err]) rfl hr (by kernel_rfl) (by kernel_rfl) (by kernel_rfl) ⟨h.cell 0 rfl, h.cell 1 rfl, h.cell 2 rfl, trivial⟩ ?_
          replace H := jx0 H hK24
          replace h : Fit z (sepL (ob62 B0 p0 ca1 cc2 ca3 cc4 :: ro2 ca1 cc2 p0.Held :: ro90 ca3 cc4 p0.Book :: L)) _ := h.sel 5 [1, 2, 3] (by kernel_rfl) (by kernel_rfl)
          replace H := ej2 H; obtain ⟨rfl, rfl⟩ := H
          exact ⟨ca1, cc2, ca3, cc4, rfl, h⟩
        ·
          replace H := ifF c29 H
          refine cond_ff hr (b := (decide (p1.Addr ≥ ((p0.Held.length : Nat) : Int)))) (decide_eq_false c29) ?_
          refine wp_skip ?_
          refine then_normal ?_
          replace hr := hr.fold2 [(0, .pointer (some ⟨B0, 0, none⟩)), (3, .pointer (some ⟨b5, 0, none⟩)), (4, .pointer (some ⟨b6, 0, none⟩))] (by kernel_rfl); obtain ⟨j, hr⟩ := hr
          exact ⟨(), sinj H, j, hr, h⟩
    clear h hr a; rintro _ a w ⟨rfl, j, hr, h⟩
    replace H := jk0 hK24
    refine wp_seq ?_
    replace H := gd H; obtain ⟨c32, H⟩ := H
    refine reg_E (fun w => heldC w B0 1 [.slice ca1 p0.Held.length cc2] ∧ heldC w b5 2 [.int .i64 p1.Addr] ∧ heldC w (blk ca1) (p1.Addr.toNat * 1) [.int .i64 (at_ p0.Held p1.Addr.toNat)] ∧ True) [1, 2, 4, 6] h (by kernel_rfl) ?_; intro w h
    change wpAnyE _ _ _ _ _ _ 9 (Array.replicate 9 false) a w
    have hgo : ∀ w w', CellsGo w w' → (heldC w B0 1 [.slice ca1 p0.Held.length cc2] ∧ heldC w b5 2 [.int .i64 p1.Addr] ∧ heldC w (blk ca1) (p1.Addr.toNat * 1) [.int .i64 (at_ p0.Held p1.Addr.toNat)] ∧ True) → heldC w' B0 1 [.slice ca1 p0.Held.length cc2] ∧ heldC w' b5 2 [.int .i64 p1.Addr] ∧ heldC w' (blk ca1) (p1.Addr.toNat * 1) [.int .i64 (at_ p0.Held p1.Addr.toNat)] ∧ True := fun w w' g hD => ⟨heldC_go _ _ _ _ _ g hD.1, heldC_go _ _ _ _ _ g hD.2.1, heldC_go _ _ _ _ _ g hD.2.2.1, trivial⟩
    refine ev 8 0 rfl (by kernel_rfl) (wn rfl) hr (.pointer (some ⟨B0, 0, none⟩)) (fun w => by kernel_rfl) ?_; clear hr a; intro a hr
    refine evD hgo ⟨⟨h.cell 1 rfl, trivial⟩, ⟨(h.pick 3).cell 2 rfl, trivial⟩, ⟨(h.pick 1).row_cell encZ_i64_ok (f := 0) (at_ok c32) rfl, trivial⟩, trivial⟩ 7 1 rfl (by kernel_rfl) (wn rfl) hr (.pointer (some ⟨B0, 0, none⟩)) (fun w => by kernel_rfl) ?_; clear hr a; intro a hr
    refine evD hgo ⟨⟨h.cell 1 rfl, trivial⟩, ⟨(h.pick 3).cell 2 rfl, trivial⟩, ⟨(h.pick 1).row_cell encZ_i64_ok (f := 0) (at_ok c32) rfl, trivial⟩, trivial⟩ 6 2 rfl (by kernel_rfl) (wn rfl) hr (.pointer (some ⟨B0, 1, none⟩)) (fun w => by kernel_rfl) ?_; clear hr a; intro a hr
    refine evD hgo ⟨⟨h.cell 1 rfl, trivial⟩, ⟨(h.pick 3).cell 2 rfl, trivial⟩, ⟨(h.pick 1).row_cell encZ_i64_ok (f := 0) (at_ok c32) rfl, trivial⟩, trivial⟩ 5 4 rfl (by kernel_rfl) (wn rfl) hr (.pointer (some ⟨b5, 2, none⟩)) (fun w => by kernel_rfl) ?_; clear hr a; intro a hr
    refine el [1, 2, 4, 6] (b := B0) (off := 1) (cs := [.slice ca1 p0.Held.length cc2]) (fun _ hk => ⟨hk, fun w hD => hD.1⟩) 4 3 rfl (by kernel_rfl) (wn rfl) hr (.slice ca1 p0.Held.length cc2) ⟨h.cell 1 rfl, trivial⟩ (fun w hc => rl rfl (by kernel_rfl) (by kernel_rfl) hc.1) ?_; clear hr a; intro a hr
    refine el [1, 2, 4, 6] (b := b5) (off := 2) (cs := [.int .i64 p1.Addr]) (fun _ hk => ⟨hk, fun w hD => hD.2.1⟩) 3 5 rfl (by kernel_rfl) (wn rfl) hr (.int .i64 p1.Addr) ⟨(h.pick 3).cell 2 rfl, trivial⟩ (fun w hc => rl rfl (by kernel_rfl) (by kernel_rfl) hc.1) ?_; clear hr a; intro a hr
    refine evD hgo ⟨⟨h.cell 1 rfl, trivial⟩, ⟨(h.pick 3).cell 2 rfl, trivial⟩, ⟨(h.pick 1).row_cell encZ_i64_ok (f := 0) (at_ok c32) rfl, trivial⟩, trivial⟩ 2 6 rfl (by kernel_rfl) (wn rfl) hr (.pointer (some ⟨blk ca1, p1.Addr.toNat * 1, none⟩)) (fun w => ri_row (k := .i64) (E := 2) rfl (by kernel_rfl) (by kernel_rfl) (by kernel_rfl) (by kernel_rfl) (h.pick 1) c32) ?_; clear hr a; intro a hr
    refine el [1, 2, 4, 6] (b := blk ca1) (off := p1.Addr.toNat * 1) (cs := [.int .i64 (at_ p0.Held p1.Addr.toNat)]) (fun _ hk => ⟨hk, fun w hD => hD.2.2.1⟩) 1 7 rfl (by kernel_rfl) (wn rfl) hr (.int .i64 (at_ p0.Held p1.Addr.toNat)) ⟨(h.pick 1).row_cell encZ_i64_ok (f := 0) (at_ok c32) rfl, trivial⟩ (fun w hc => rl rfl (by kernel_rfl) (by kernel_rfl) hc.1) ?_; clear hr a; intro a hr
    refine ev 0 8 rfl (by kernel_rfl) (wn rfl) hr (.int .i64 (at_ p0.Held p1.Addr.toNat)) (fun w => by kernel_rfl) ?_; clear hr a; intro a hr
    refine e_end (by kernel_rfl) ?_
    refine then_normal ?_
    refine wp_seq ?_
    refine reg_E (fun w => heldC w B0 3 [.int .i64 p0.Actor] ∧ heldC w b5 1 [.int .i64 p1.Kind] ∧ heldC w b5 2 [.int .i64 p1.Addr] ∧ True) [1, 2, 4, 6] h (by kernel_rfl) ?_; intro w h
    change wpAnyE _ _ _ _ _ _ 11 (Array.replicate 11 false) a w
    have hgo : ∀ w w', CellsGo w w' → (heldC w B0 3 [.int .i64 p0.Actor] ∧ heldC w b5 1 [.int .i64 p1.Kind] ∧ heldC w b5 2 [.int .i64 p1.Addr] ∧ True) → heldC w' B0 3 [.int .i64 p0.Actor] ∧ heldC w' b5 1 [.int .i64 p1.Kind] ∧ heldC w' b5 2 [.int .i64 p1.Addr] ∧ True := fun w w' g hD => ⟨heldC_go _ _ _ _ _ g hD.1, heldC_go _ _ _ _ _ g hD.2.1, heldC_go _ _ _ _ _ g hD.2.2.1, trivial⟩
    refine ev 10 0 rfl (by kernel_rfl) (wn rfl) hr (.pointer (some ⟨B0, 0, none⟩)) (fun w => by kernel_rfl) ?_; clear hr a; intro a hr
    refine evD hgo ⟨⟨h.cell 3 rfl, trivial⟩, ⟨(h.pick 3).cell 1 rfl, trivial⟩, ⟨(h.pick 3).cell 2 rfl, trivial⟩, trivial⟩ 9 1 rfl (by kernel_rfl) (wn rfl) hr (.pointer (some ⟨B0, 0, none⟩)) (fun w => by kernel_rfl) ?_; clear hr a; intro a hr
    refine evD hgo ⟨⟨h.cell 3 rfl, trivial⟩, ⟨(h.pick 3).cell 1 rfl, trivial⟩, ⟨(h.pick 3).cell 2 rfl, trivial⟩, trivial⟩ 8 2 rfl (by kernel_rfl) (wn rfl) hr (.pointer (some ⟨B0, 3, none⟩)) (fun w => by kernel_rfl) ?_; clear hr a; intro a hr
    refine evD hgo ⟨⟨h.cell 3 rfl, trivial⟩, ⟨(h.pick 3).cell 1 rfl, trivial⟩, ⟨(h.pick 3).cell 2 rfl, trivial⟩, trivial⟩ 7 4 rfl (by kernel_rfl) (wn rfl) hr (.pointer (some ⟨b5, 1, none⟩)) (fun w => by kernel_rfl) ?_; clear hr a; intro a hr
    refine evD hgo ⟨⟨h.cell 3 rfl, trivial⟩, ⟨(h.pick 3).cell 1 rfl, trivial⟩, ⟨(h.pick 3).cell 2 rfl, trivial⟩, trivial⟩ 6 6 rfl (by kernel_rfl) (wn rfl) hr (.pointer (some ⟨b5, 2, none⟩)) (fun w => by kernel_rfl) ?_; clear hr a; intro a hr
    refine el [1, 2, 4, 6] (b := B0) (off := 3) (cs := [.int .i64 p0.Actor]) (fun _ hk => ⟨hk, fun w hD => hD.1⟩) 5 3 rfl (by kernel_rfl) (wn rfl) hr (.int .i64 p0.Actor) ⟨h.cell 3 rfl, trivial⟩ (fun w hc => rl rfl (by kernel_rfl) (by kernel_rfl) hc.1) ?_; clear hr a; intro a hr
    refine el [1, 2, 4, 6] (b := b5) (off := 1) (cs := [.int .i64 p1.Kind]) (fun _ hk => ⟨hk, fun w hD => hD.2.1⟩) 4 5 rfl (by kernel_rfl) (wn rfl) hr (.int .i64 p1.Kind) ⟨(h.pick 3).cell 1 rfl, trivial⟩ (fun w hc => rl rfl (by kernel_rfl) (by kernel_rfl) hc.1) ?_; clear hr a; intro a hr
    refine el [1, 2, 4, 6] (b := b5) (off := 2) (cs := [.int .i64 p1.Addr]) (fun _ hk => ⟨hk, fun w hD => hD.2.2.1⟩) 3 7 rfl (by kernel_rfl) (wn rfl) hr (.int .i64 p1.Addr) ⟨(h.pick 3).cell 2 rfl, trivial⟩ (fun w hc => rl rfl (by kernel_rfl) (by kernel_rfl) hc.1) ?_; clear hr a; intro a hr
    refine ev 2 8 rfl (by kernel_rfl) (wn rfl) hr (.agg #[.int .i64 p0.Actor, .int .i64 p1.Kind, .int .i64 p1.Addr, .int .i64 0, .int .i64 0, .bool true]) (fun w => by kernel_rfl) ?_; clear hr a; intro a hr
    refine e_one (fuel := 1) (i := 9) (by kernel_rfl) rfl ?_
    refine op_new (wn rfl) rfl rfl hr h (vf := fun b => .pointer (some ⟨b, 0, none⟩)) (cs := #[.int .i64 0, .int .i64 0, .int .i64 0, .int .i64 0, .int .i64 0, .bool false]) (T := 90) (by kernel_rfl) ?_; clear h hr a; intro b33 w a h hr
    refine wpList_nil ?_; refine then_normal ?_
    refine ⟨fun hE => absurd hE (by decide), ?_⟩
    refine e_one (fuel := 0) (i := 10) (by kernel_rfl) rfl ?_
    refine op_stores (wn rfl) rfl hr rfl (by kernel_rfl) (by kernel_rfl) (vs := [.int .i64 p0.Actor, .int .i64 p1.Kind, .int .i64 p1.Addr, .int .i64 0, .int .i64 0, .bool true]) rfl rfl (by kernel_rfl) h (i := 0) (cs' := #[.int .i64 p0.Actor, .int .i64 p1.Kind, .int .i64 p1.Addr, .int .i64 0, .int .i64 0, .bool true]) rfl ?_; clear h; intro w h
    refine wpList_nil ?_; refine then_normal ?_
    replace h : Fit z (sepL (pts b33 (.cells #[.int .i64 p0.Actor, .int .i64 p1.Kind, .int .i64 p1.Addr, .int .i64 0, .int .i64 0, .bool true] 90) :: ob62 B0 p0 ca1 cc2 ca3 cc4 :: ro2 ca1 cc2 p0.Held :: ro90 ca3 cc4 p0.Book :: ob57 b5 p1 :: pts b6 (.cells #[.int .i64 0, .bool false, .int .i64 0] 39) :: L)) _ := h
    refine ⟨fun hE => absurd hE (by decide), ?_⟩
    refine e_end (by kernel_rfl) ?_
    refine then_normal ?_
    refine wp_seq ?_
    refine wp_region_lit ?_
    refine ov hr (.agg #[.int .i64 0, .bool true, .int .i64 0]) (by kernel_rfl) ?_; clear hr a; intro a hr
    refine op_new (wn rfl) rfl rfl hr h (vf := fun b => .pointer (some ⟨b, 0, none⟩)) (cs := #[.int .i64 0, .bool false, .int .i64 0]) (T := 39) (by kernel_rfl) ?_; clear h hr a; intro b34 w a h hr
    refine op_stores (wn rfl) rfl hr rfl (by kernel_rfl) (by kernel_rfl) (vs := [.int .i64 0, .bool true, .int .i64 0]) rfl rfl (by kernel_rfl) h (i := 0) (cs' := #[.int .i64 0, .bool true, .int .i64 0]) rfl ?_; clear h; intro w h
    refine wpList_nil ?_
    replace h : Fit z (sepL (pts b34 (.cells #[.int .i64 0, .bool true, .int .i64 0] 39) :: pts b33 (.cells #[.int .i64 p0.Actor, .int .i64 p1.Kind, .int .i64 p1.Addr, .int .i64 0, .int .i64 0, .bool true] 90) :: ob62 B0 p0 ca1 cc2 ca3 cc4 :: ro2 ca1 cc2 p0.Held :: ro90 ca3 cc4 p0.Book :: ob57 b5 p1 :: pts b6 (.cells #[.int .i64 0, .bool false, .int .i64 0] 39) :: L)) _ := h
    refine then_normal ?_
    refine wp_seq ?_
    refine wp_seq ?_
    refine wp_region_lit ?_
    refine ov hr (.pointer (some ⟨b5, 1, none⟩)) (by kernel_rfl) ?_; clear hr a; intro a hr
    refine op_val (wn rfl) rfl rfl hr (v := .int .i64 p1.Kind) (rl rfl (by kernel_rfl) (by kernel_rfl) ((h.pick 5).cell 1 rfl)) ?_; clear hr a; intro a hr
    refine wpList_nil ?_
    refine then_normal ?_
    refine wp_block ?_
    refine wp_seq ?_
    refine wp_region_lit ?_
    refine ovs [85, 84] [.bool (p1.Kind == (0 : Int)), .bool (p1.Kind == (0 : Int))] hr ⟨rfl, rfl⟩ (by kernel_rfl) ?_; clear hr a; intro a hr
    refine wpList_nil ?_
    refine then_normal ?_
    by_cases c35 : p1.Kind = (0 : Int)
    ·
      replace H := ifT c35 H
      refine cond_tt hr (b := (p1.Kind == (0 : Int))) (beq_iff_eq.mpr c35) ?_
      refine wp_seq ?_
      refine wp_region_lit ?_
      refine ovs [86, 87] [.int .i64 (at_ p0.Held p1.Addr.toNat), .pointer (some ⟨b33, 3, none⟩)] hr ⟨rfl, rfl⟩ (by kernel_rfl) ?_; clear hr a; intro a hr
      replace h : Fit z (sepL (pts b33 (.cells #[.int .i64 p0.Actor, .int .i64 p1.Kind, .int .i64 p1.Addr, .int .i64 0, .int .i64 0, .bool true] 90) :: pts b34 (.cells #[.int .i64 0, .bool true, .int .i64 0] 39) :: ob62 B0 p0 ca1 cc2 ca3 cc4 :: ro2 ca1 cc2 p0.Held :: ro90 ca3 cc4 p0.Book :: ob57 b5 p1 :: pts b6 (.cells #[.int .i64 0, .bool false, .int .i64 0] 39) :: L)) _ := h.sel 7 [1, 0, 2, 3, 4, 5, 6] (by kernel_rfl) (by kernel_rfl)
      refine op_store (wn rfl) rfl hr rfl (by kernel_rfl) (by kernel_rfl) (v := .int .i64 (at_ p0.Held p1.Addr.toNat)) rfl rfl (by kernel_rfl) h (i := 3) rfl ?_; clear h; intro w h
      refine wpList_nil ?_
      replace h : Fit z (sepL (pts b33 (.cells #[.int .i64 p0.Actor, .int .i64 p1.Kind, .int .i64 p1.Addr, .int .i64 (at_ p0.Held p1.Addr.toNat), .int .i64 0, .bool true] 90) :: pts b34 (.cells #[.int .i64 0, .bool true, .int .i64 0] 39) :: ob62 B0 p0 ca1 cc2 ca3 cc4 :: ro2 ca1 cc2 p0.Held :: ro90 ca3 cc4 p0.Book :: ob57 b5 p1 :: pts b6 (.cells #[.int .i64 0, .bool false, .int .i64 0] 39) :: L)) _ := h
      refine then_normal ?_
      refine wp_region_lit ?_
      refine ovs [88, 89] [.int .i64 (at_ p0.Held p1.Addr.toNat), .pointer (some ⟨b34, 0, none⟩)] hr ⟨rfl, rfl⟩ (by kernel_rfl) ?_; clear hr a; intro a hr
      replace h : Fit z (sepL (pts b34 (.cells #[.int .i64 0, .bool true, .int .i64 0] 39) :: pts b33 (.cells #[.int .i64 p0.Actor, .int .i64 p1.Kind, .int .i64 p1.Addr, .int .i64 (at_ p0.Held p1.Addr.toNat), .int .i64 0, .bool true] 90) :: ob62 B0 p0 ca1 cc2 ca3 cc4 :: ro2 ca1 cc2 p0.Held :: ro90 ca3 cc4 p0.Book :: ob57 b5 p1 :: pts b6 (.cells #[.int .i64 0, .bool false, .int .i64 0] 39) :: L)) _ := h.sel 7 [1, 0, 2, 3, 4, 5, 6] (by kernel_rfl) (by kernel_rfl)
      refine op_store (wn rfl) rfl hr rfl (by kernel_rfl) (by kernel_rfl) (v := .int .i64 (at_ p0.Held p1.Addr.toNat)) rfl rfl (by kernel_rfl) h (i := 0) rfl ?_; clear h; intro w h
      refine wpList_nil ?_
      replace h : Fit z (sepL (pts b34 (.cells #[.int .i64 (at_ p0.Held p1.Addr.toNat), .bool true, .int .i64 0] 39) :: pts b33 (.cells #[.int .i64 p0.Actor, .int .i64 p1.Kind, .int .i64 p1.Addr, .int .i64 (at_ p0.Held p1.Addr.toNat), .int .i64 0, .bool true] 90) :: ob62 B0 p0 ca1 cc2 ca3 cc4 :: ro2 ca1 cc2 p0.Held :: ro90 ca3 cc4 p0.Book :: ob57 b5 p1 :: pts b6 (.cells #[.int .i64 0, .bool false, .int .i64 0] 39) :: L)) _ := h
      refine blk_normal ?_
      refine then_normal ?_
      refine wp_seq ?_
      refine wp_region_lit ?_
      refine ov hr (.pointer (some ⟨B0, 0, none⟩)) (by kernel_rfl) ?_; clear hr a; intro a hr
      refine op_val (wn rfl) rfl rfl hr (v := .agg #[.int .i64 p0.Actor, .int .i64 p1.Kind, .int .i64 p1.Addr, .int .i64 (at_ p0.Held p1.Addr.toNat), .int .i64 0, .bool true]) (rlm (cs := [.int .i64 p0.Actor, .int .i64 p1.Kind, .int .i64 p1.Addr, .int .i64 (at_ p0.Held p1.Addr.toNat), .int .i64 0, .bool true]) rfl (by kernel_rfl) (by kernel_rfl) (by kernel_rfl) ⟨(h.pick 1).cell 0 rfl, (h.pick 1).cell 1 rfl, (h.pick 1).cell 2 rfl, (h.pick 1).cell 3 rfl, (h.pick 1).cell 4 rfl, (h.pick 1).cell 5 rfl, trivial⟩) ?_; clear hr a; intro a hr
      replace H := bd1 H; obtain ⟨S36, e37, H⟩ := H
      replace h : Fit z (sepL (ob62 B0 p0 ca1 cc2 ca3 cc4 :: ro2 ca1 cc2 p0.Held :: ro90 ca3 cc4 p0.Book :: pts b34 (.cells #[.int .i64 (at_ p0.Held p1.Addr.toNat), .bool true, .int .i64 0] 39) :: pts b33 (.cells #[.int .i64 p0.Actor, .int .i64 p1.Kind, .int .i64 p1.Addr, .int .i64 (at_ p0.Held p1.Addr.toNat), .int .i64 0, .bool true] 90) :: ob57 b5 p1 :: pts b6 (.cells #[.int .i64 0, .bool false, .int .i64 0] 39) :: L)) _ := h.sel 7 [2, 3, 4, 0, 1, 5, 6] (by kernel_rfl) (by kernel_rfl)
      have hc := plunderref2_Arena_note_ok (H := e37) (h := h)
      refine op_call (wn rfl) rfl rfl hr (f := 80) (args := #[.pointer (some ⟨B0, 0, none⟩), .agg #[.int .i64 p0.Actor, .int .i64 p1.Kind, .int .i64 p1.Addr, .int .i64 (at_ p0.Held p1.Addr.toNat), .int .i64 0, .bool true]]) (by kernel_rfl) hc ?_; clear hc h
      rintro _ w ⟨caq38, ccq39, caq40, ccq41, rfl, h⟩; refine ⟨_, rfl, ?_⟩
      clear hr a; intro a hr
      refine wpList_nil ?_
      refine then_normal ?_
      refine wp_seq ?_
      refine wp_region_lit ?_
      refine op_val (wn rfl) rfl rfl hr (v := .agg #[.int .i64 (at_ p0.Held p1.Addr.toNat), .bool true, .int .i64 0]) (rlm (cs := [.int .i64 (at_ p0.Held p1.Addr.toNat), .bool true, .int .i64 0]) rfl (by kernel_rfl) (by kernel_rfl) (by kernel_rfl) ⟨(h.pick 3).cell 0 rfl, (h.pick 3).cell 1 rfl, (h.pick 3).cell 2 rfl, trivial⟩) ?_; clear hr a; intro a hr
      replace h : Fit z (sepL (pts b6 (.cells #[.int .i64 0, .bool false, .int .i64 0] 39) :: ob62 B0 S36 caq38 ccq39 caq40 ccq41 :: ro2 caq38 ccq39 S36.Held :: ro90 caq40 ccq41 S36.Book :: pts b34 (.cells #[.int .i64 (at_ p0.Held p1.Addr.toNat), .bool true, .int .i64 0] 39) :: pts b33 (.cells #[.int .i64 p0.Actor, .int .i64 p1.Kind, .int .i64 p1.Addr, .int .i64 (at_ p0.Held p1.Addr.toNat), .int .i64 0, .bool true] 90) :: ob57 b5 p1 :: L)) _ := h.sel 7 [6, 0, 1, 2, 3, 4, 5] (by kernel_rfl) (by kernel_rfl)
      refine op_stores (wn rfl) rfl hr rfl (by kernel_rfl) (by kernel_rfl) (vs := [.int .i64 (at_ p0.Held p1.Addr.toNat), .bool true, .int .i64 0]) rfl rfl (by kernel_rfl) h (i := 0) (cs' := #[.int .i64 (at_ p0.Held p1.Addr.toNat), .bool true, .int .i64 0]) rfl ?_; clear h; intro w h
      refine wpList_nil ?_
      replace h : Fit z (sepL (pts b6 (.cells #[.int .i64 (at_ p0.Held p1.Addr.toNat), .bool true, .int .i64 0] 39) :: ob62 B0 S36 caq38 ccq39 caq40 ccq41 :: ro2 caq38 ccq39 S36.Held :: ro90 caq40 ccq41 S36.Book :: pts b34 (.cells #[.int .i64 (at_ p0.Held p1.Addr.toNat), .bool true, .int .i64 0] 39) :: pts b33 (.cells #[.int .i64 p0.Actor, .int .i64 p1.Kind, .int .i64 p1.Addr, .int .i64 (at_ p0.Held p1.Addr.toNat), .int .i64 0, .bool true] 90) :: ob57 b5 p1 :: L)) _ := h
      refine then_normal ?_
      refine wp_ret ?_
      refine end_retC (cs := [.int .i64 (at_ p0.Held p1.Addr.toNat), .bool true, .int .i64 0]) rfl hr (by kernel_rfl) (by kernel_rfl) (by kernel_rfl) ⟨h.cell 0 rfl, h.cell 1 rfl, h.cell 2 rfl, trivial⟩ ?_
      replace h : Fit z (sepL (ob62 B0 S36 caq38 ccq39 caq40 ccq41 :: ro2 caq38 ccq39 S36.Held :: ro90 caq40 ccq41 S36.Book :: L)) _ := h.sel 7 [1, 2, 3] (by kernel_rfl) (by kernel_rfl)
      replace H := ej2 H; obtain ⟨rfl, rfl⟩ := H
      exact ⟨caq38, ccq39, caq40, ccq41, rfl, h⟩
    ·
      replace H := ifF c35 H
      refine cond_ff hr (b := (p1.Kind == (0 : Int))) (beq_eq_false_iff_ne.mpr c35) ?_
      refine wp_seq ?_
      refine wp_region_lit ?_
      refine ovs [91, 90] [.bool (p1.Kind == (1 : Int)), .bool (p1.Kind == (1 : Int))] hr ⟨rfl, rfl⟩ (by kernel_rfl) ?_; clear hr a; intro a hr
      refine wpList_nil ?_
      refine then_normal ?_
      by_cases c42 : p1.Kind = (1 : Int)
      ·
        replace H := ifT c42 H
        refine cond_tt hr (b := (p1.Kind == (1 : Int))) (beq_iff_eq.mpr c42) ?_
        refine wp_seq ?_
        refine wp_region_lit ?_
        refine ov hr (.pointer (some ⟨b5, 3, none⟩)) (by kernel_rfl) ?_; clear hr a; intro a hr
        refine op_val (wn rfl) rfl rfl hr (v := .int .i64 p1.A) (rl rfl (by kernel_rfl) (by kernel_rfl) ((h.pick 5).cell 3 rfl)) ?_; clear hr a; intro a hr
        refine ov hr (.pointer (some ⟨b33, 3, none⟩)) (by kernel_rfl) ?_; clear hr a; intro a hr
        replace h : Fit z (sepL (pts b33 (.cells #[.int .i64 p0.Actor, .int .i64 p1.Kind, .int .i64 p1.Addr, .int .i64 0, .int .i64 0, .bool true] 90) :: pts b34 (.cells #[.int .i64 0, .bool true, .int .i64 0] 39) :: ob62 B0 p0 ca1 cc2 ca3 cc4 :: ro2 ca1 cc2 p0.Held :: ro90 ca3 cc4 p0.Book :: ob57 b5 p1 :: pts b6 (.cells #[.int .i64 0, .bool false, .int .i64 0] 39) :: L)) _ := h.sel 7 [1, 0, 2, 3, 4, 5, 6] (by kernel_rfl) (by kernel_rfl)
        refine op_store (wn rfl) rfl hr rfl (by kernel_rfl) (by kernel_rfl) (v := .int .i64 p1.A) rfl rfl (by kernel_rfl) h (i := 3) rfl ?_; clear h; intro w h
        refine wpList_nil ?_
        replace h : Fit z (sepL (pts b33 (.cells #[.int .i64 p0.Actor, .int .i64 p1.Kind, .int .i64 p1.Addr, .int .i64 p1.A, .int .i64 0, .bool true] 90) :: pts b34 (.cells #[.int .i64 0, .bool true, .int .i64 0] 39) :: ob62 B0 p0 ca1 cc2 ca3 cc4 :: ro2 ca1 cc2 p0.Held :: ro90 ca3 cc4 p0.Book :: ob57 b5 p1 :: pts b6 (.cells #[.int .i64 0, .bool false, .int .i64 0] 39) :: L)) _ := h
        refine then_normal ?_
        refine reg_E (fun w => heldC w B0 1 [.slice ca1 p0.Held.length cc2] ∧ heldC w b5 2 [.int .i64 p1.Addr] ∧ heldC w b5 3 [.int .i64 p1.A] ∧ True) [1, 2, 4, 6] h (by kernel_rfl) ?_; intro w h
        change wpAnyE _ _ _ _ _ _ 10 (Array.replicate 10 false) a w
        have hgo : ∀ w w', CellsGo w w' → (heldC w B0 1 [.slice ca1 p0.Held.length cc2] ∧ heldC w b5 2 [.int .i64 p1.Addr] ∧ heldC w b5 3 [.int .i64 p1.A] ∧ True) → heldC w' B0 1 [.slice ca1 p0.Held.length cc2] ∧ heldC w' b5 2 [.int .i64 p1.Addr] ∧ heldC w' b5 3 [.int .i64 p1.A] ∧ True := fun w w' g hD => ⟨heldC_go _ _ _ _ _ g hD.1, heldC_go _ _ _ _ _ g hD.2.1, heldC_go _ _ _ _ _ g hD.2.2.1, trivial⟩
        refine ev 9 0 rfl (by kernel_rfl) (wn rfl) hr (.pointer (some ⟨B0, 0, none⟩)) (fun w => by kernel_rfl) ?_; clear hr a; intro a hr
        refine evD hgo ⟨⟨(h.pick 2).cell 1 rfl, trivial⟩, ⟨(h.pick 5).cell 2 rfl, trivial⟩, ⟨(h.pick 5).cell 3 rfl, trivial⟩, trivial⟩ 8 1 rfl (by kernel_rfl) (wn rfl) hr (.pointer (some ⟨B0, 0, none⟩)) (fun w => by kernel_rfl) ?_; clear hr a; intro a hr
        refine evD hgo ⟨⟨(h.pick 2).cell 1 rfl, trivial⟩, ⟨(h.pick 5).cell 2 rfl, trivial⟩, ⟨(h.pick 5).cell 3 rfl, trivial⟩, trivial⟩ 7 2 rfl (by kernel_rfl) (wn rfl) hr (.pointer (some ⟨B0, 1, none⟩)) (fun w => by kernel_rfl) ?_; clear hr a; intro a hr
        refine evD hgo ⟨⟨(h.pick 2).cell 1 rfl, trivial⟩, ⟨(h.pick 5).cell 2 rfl, trivial⟩, ⟨(h.pick 5).cell 3 rfl, trivial⟩, trivial⟩ 6 4 rfl (by kernel_rfl) (wn rfl) hr (.pointer (some ⟨b5, 2, none⟩)) (fun w => by kernel_rfl) ?_; clear hr a; intro a hr
        refine evD hgo ⟨⟨(h.pick 2).cell 1 rfl, trivial⟩, ⟨(h.pick 5).cell 2 rfl, trivial⟩, ⟨(h.pick 5).cell 3 rfl, trivial⟩, trivial⟩ 5 6 rfl (by kernel_rfl) (wn rfl) hr (.pointer (some ⟨b5, 3, none⟩)) (fun w => by kernel_rfl) ?_; clear hr a; intro a hr
        refine el [1, 2, 4, 6] (b := B0) (off := 1) (cs := [.slice ca1 p0.Held.length cc2]) (fun _ hk => ⟨hk, fun w hD => hD.1⟩) 4 3 rfl (by kernel_rfl) (wn rfl) hr (.slice ca1 p0.Held.length cc2) ⟨(h.pick 2).cell 1 rfl, trivial⟩ (fun w hc => rl rfl (by kernel_rfl) (by kernel_rfl) hc.1) ?_; clear hr a; intro a hr
        refine el [1, 2, 4, 6] (b := b5) (off := 2) (cs := [.int .i64 p1.Addr]) (fun _ hk => ⟨hk, fun w hD => hD.2.1⟩) 3 5 rfl (by kernel_rfl) (wn rfl) hr (.int .i64 p1.Addr) ⟨(h.pick 5).cell 2 rfl, trivial⟩ (fun w hc => rl rfl (by kernel_rfl) (by kernel_rfl) hc.1) ?_; clear hr a; intro a hr
        refine el [1, 2, 4, 6] (b := b5) (off := 3) (cs := [.int .i64 p1.A]) (fun _ hk => ⟨hk, fun w hD => hD.2.2.1⟩) 2 7 rfl (by kernel_rfl) (wn rfl) hr (.int .i64 p1.A) ⟨(h.pick 5).cell 3 rfl, trivial⟩ (fun w hc => rl rfl (by kernel_rfl) (by kernel_rfl) hc.1) ?_; clear hr a; intro a hr
        refine ev 1 8 rfl (by kernel_rfl) (wn rfl) hr (.pointer (some ⟨blk ca1, p1.Addr.toNat * 1, none⟩)) (fun w => ri_row (k := .i64) (E := 2) rfl (by kernel_rfl) (by kernel_rfl) (by kernel_rfl) (by kernel_rfl) (h.pick 3) c32) ?_; clear hr a; intro a hr
        refine e_one (fuel := 0) (i := 9) (by kernel_rfl) rfl ?_
        replace h : Fit z (sepL (ro2 ca1 cc2 p0.Held :: pts b33 (.cells #[.int .i64 p0.Actor, .int .i64 p1.Kind, .int .i64 p1.Addr, .int .i64 p1.A, .int .i64 0, .bool true] 90) :: pts b34 (.cells #[.int .i64 0, .bool true, .int .i64 0] 39) :: ob62 B0 p0 ca1 cc2 ca3 cc4 :: ro90 ca3 cc4 p0.Book :: ob57 b5 p1 :: pts b6 (.cells #[.int .i64 0, .bool false, .int .i64 0] 39) :: L)) _ := h.sel 7 [3, 0, 1, 2, 4, 5, 6] (by kernel_rfl) (by kernel_rfl)
        refine op_store_row (wn rfl) rfl hr rfl (by kernel_rfl) (by kernel_rfl) (v := .int .i64 p1.A) rfl rfl (by kernel_rfl) encZ_i64_ok h (i := p1.Addr.toNat) (f := 0) (p := (at_ p0.Held p1.Addr.toNat)) (q := p1.A) (at_ok c32) (by decide) rfl ?_; clear h; intro w h
        replace h : Fit z (sepL (rowOf 2 1 encZ_i64 (.slice ca1 p0.Held.length cc2) (p0.Held.set p1.Addr.toNat p1.A) :: pts b33 (.cells #[.int .i64 p0.Actor, .int .i64 p1.Kind, .int .i64 p1.Addr, .int .i64 p1.A, .int .i64 0, .bool true] 90) :: pts b34 (.cells #[.int .i64 0, .bool true, .int .i64 0] 39) :: ob62 B0 p0 ca1 cc2 ca3 cc4 :: ro90 ca3 cc4 p0.Book :: ob57 b5 p1 :: pts b6 (.cells #[.int .i64 0, .bool false, .int .i64 0] 39) :: L)) _ := h
        refine wpList_nil ?_; refine then_normal ?_
        refine ⟨fun hE => absurd hE (by decide), ?_⟩
        refine e_end (by kernel_rfl) ?_
        refine blk_normal ?_
        refine then_normal ?_
        refine wp_seq ?_
        refine wp_region_lit ?_
        refine ov hr (.pointer (some ⟨B0, 0, none⟩)) (by kernel_rfl) ?_; clear hr a; intro a hr
        refine op_val (wn rfl) rfl rfl hr (v := .agg #[.int .i64 p0.Actor, .int .i64 p1.Kind, .int .i64 p1.Addr, .int .i64 p1.A, .int .i64 0, .bool true]) (rlm (cs := [.int .i64 p0.Actor, .int .i64 p1.Kind, .int .i64 p1.Addr, .int .i64 p1.A, .int .i64 0, .bool true]) rfl (by kernel_rfl) (by kernel_rfl) (by kernel_rfl) ⟨(h.pick 1).cell 0 rfl, (h.pick 1).cell 1 rfl, (h.pick 1).cell 2 rfl, (h.pick 1).cell 3 rfl, (h.pick 1).cell 4 rfl, (h.pick 1).cell 5 rfl, trivial⟩) ?_; clear hr a; intro a hr
        have hn42 := h.row_n
        replace h : Fit z (sepL (ro2 ca1 cc2 (p0.Held.set p1.Addr.toNat p1.A) :: pts b33 (.cells #[.int .i64 p0.Actor, .int .i64 p1.Kind, .int .i64 p1.Addr, .int .i64 p1.A, .int .i64 0, .bool true] 90) :: pts b34 (.cells #[.int .i64 0, .bool true, .int .i64 0] 39) :: pts B0 (.cells #[.int .i64 p0.Most, .slice ca1 ((p0.Held.set p1.Addr.toNat p1.A).length) cc2, .bool p0.On, .int .i64 p0.Actor, .slice ca3 p0.Book.length cc4] 62) :: ro90 ca3 cc4 p0.Book :: ob57 b5 p1 :: pts b6 (.cells #[.int .i64 0, .bool false, .int .i64 0] 39) :: L)) w := (congrArg (fun q_ : Nat => Fit z (sepL (rowOf 2 1 encZ_i64 (.slice ca1 q_ cc2) (p0.Held.set p1.Addr.toNat p1.A) :: pts b33 (.cells #[.int .i64 p0.Actor, .int .i64 p1.Kind, .int .i64 p1.Addr, .int .i64 p1.A, .int .i64 0, .bool true] 90) :: pts b34 (.cells #[.int .i64 0, .bool true, .int .i64 0] 39) :: pts B0 (.cells #[.int .i64 p0.Most, .slice ca1 q_ cc2, .bool p0.On, .int .i64 p0.Actor, .slice ca3 p0.Book.length cc4] 62) :: ro90 ca3 cc4 p0.Book :: ob57 b5 p1 :: pts b6 (.cells #[.int .i64 0, .bool false, .int .i64 0] 39) :: L)) w) h.row_n).mp h
        replace H := bd1 H; obtain ⟨S44, e45, H⟩ := H
        replace h : Fit z (sepL (pts B0 (.cells #[.int .i64 p0.Most, .slice ca1 ((p0.Held.set p1.Addr.toNat p1.A).length) cc2, .bool p0.On, .int .i64 p0.Actor, .slice ca3 p0.Book.length cc4] 62) :: ro2 ca1 cc2 (p0.Held.set p1.Addr.toNat p1.A) :: ro90 ca3 cc4 p0.Book :: pts b33 (.cells #[.int .i64 p0.Actor, .int .i64 p1.Kind, .int .i64 p1.Addr, .int .i64 p1.A, .int .i64 0, .bool true] 90) :: pts b34 (.cells #[.int .i64 0, .bool true, .int .i64 0] 39) :: ob57 b5 p1 :: pts b6 (.cells #[.int .i64 0, .bool false, .int .i64 0] 39) :: L)) _ := h.sel 7 [3, 0, 4, 1, 2, 5, 6] (by kernel_rfl) (by kernel_rfl)
        have hc := plunderref2_Arena_note_ok (H := e45) (h := h)
        refine op_call (wn rfl) rfl rfl hr (f := 80) (args := #[.pointer (some ⟨B0, 0, none⟩), .agg #[.int .i64 p0.Actor, .int .i64 p1.Kind, .int .i64 p1.Addr, .int .i64 p1.A, .int .i64 0, .bool true]]) (by kernel_rfl) hc ?_; clear hc h
        rintro _ w ⟨caq46, ccq47, caq48, ccq49, rfl, h⟩; refine ⟨_, rfl, ?_⟩
        clear hr a; intro a hr
        refine wpList_nil ?_
        refine then_normal ?_
        refine wp_seq ?_
        refine wp_region_lit ?_
        refine op_val (wn rfl) rfl rfl hr (v := .agg #[.int .i64 0, .bool true, .int .i64 0]) (rlm (cs := [.int .i64 0, .bool true, .int .i64 0]) rfl (by kernel_rfl) (by kernel_rfl) (by kernel_rfl) ⟨(h.pick 4).cell 0 rfl, (h.pick 4).cell 1 rfl, (h.pick 4).cell 2 rfl, trivial⟩) ?_; clear hr a; intro a hr
        replace h : Fit z (sepL (pts b6 (.cells #[.int .i64 0, .bool false, .int .i64 0] 39) :: ob62 B0 S44 caq46 ccq47 caq48 ccq49 :: ro2 caq46 ccq47 S44.Held :: ro90 caq48 ccq49 S44.Book :: pts b33 (.cells #[.int .i64 p0.Actor, .int .i64 p1.Kind, .int .i64 p1.Addr, .int .i64 p1.A, .int .i64 0, .bool true] 90) :: pts b34 (.cells #[.int .i64 0, .bool true, .int .i64 0] 39) :: ob57 b5 p1 :: L)) _ := h.sel 7 [6, 0, 1, 2, 3, 4, 5] (by kernel_rfl) (by kernel_rfl)
        refine op_stores (wn rfl) rfl hr rfl (by kernel_rfl) (by kernel_rfl) (vs := [.int .i64 0, .bool true, .int .i64 0]) rfl rfl (by kernel_rfl) h (i := 0) (cs' := #[.int .i64 0, .bool true, .int .i64 0]) rfl ?_; clear h; intro w h
        refine wpList_nil ?_
        replace h : Fit z (sepL (pts b6 (.cells #[.int .i64 0, .bool true, .int .i64 0] 39) :: ob62 B0 S44 caq46 ccq47 caq48 ccq49 :: ro2 caq46 ccq47 S44.Held :: ro90 caq48 ccq49 S44.Book :: pts b33 (.cells #[.int .i64 p0.Actor, .int .i64 p1.Kind, .int .i64 p1.Addr, .int .i64 p1.A, .int .i64 0, .bool true] 90) :: pts b34 (.cells #[.int .i64 0, .bool true, .int .i64 0] 39) :: ob57 b5 p1 :: L)) _ := h
        refine then_normal ?_
        refine wp_ret ?_
        refine end_retC (cs := [.int .i64 0, .bool true, .int .i64 0]) rfl hr (by kernel_rfl) (by kernel_rfl) (by kernel_rfl) ⟨h.cell 0 rfl, h.cell 1 rfl, h.cell 2 rfl, trivial⟩ ?_
        replace h : Fit z (sepL (ob62 B0 S44 caq46 ccq47 caq48 ccq49 :: ro2 caq46 ccq47 S44.Held :: ro90 caq48 ccq49 S44.Book :: L)) _ := h.sel 7 [1, 2, 3] (by kernel_rfl) (by kernel_rfl)
        replace H := ej2 H; obtain ⟨rfl, rfl⟩ := H
        exact ⟨caq46, ccq47, caq48, ccq49, rfl, h⟩
      ·
        replace H := ifF c42 H
        refine cond_ff hr (b := (p1.Kind == (1 : Int))) (beq_eq_false_iff_ne.mpr c42) ?_
        refine wp_seq ?_
        refine wp_region_lit ?_
        refine ovs [105, 104] [.bool (p1.Kind == (2 : Int)), .bool (p1.Kind == (2 : Int))] hr ⟨rfl, rfl⟩ (by kernel_rfl) ?_; clear hr a; intro a hr
        refine wpList_nil ?_
        refine then_normal ?_
        by_cases c50 : p1.Kind = (2 : Int)
        ·
          replace H := ifT c50 H
          refine cond_tt hr (b := (p1.Kind == (2 : Int))) (beq_iff_eq.mpr c50) ?_
          refine wp_seq ?_
          refine wp_region_lit ?_
          refine ov hr (.pointer (some ⟨b5, 3, none⟩)) (by kernel_rfl) ?_; clear hr a; intro a hr
          refine op_val (wn rfl) rfl rfl hr (v := .int .i64 p1.A) (rl rfl (by kernel_rfl) (by kernel_rfl) ((h.pick 5).cell 3 rfl)) ?_; clear hr a; intro a hr
          refine ov hr (.pointer (some ⟨b33, 3, none⟩)) (by kernel_rfl) ?_; clear hr a; intro a hr
          replace h : Fit z (sepL (pts b33 (.cells #[.int .i64 p0.Actor, .int .i64 p1.Kind, .int .i64 p1.Addr, .int .i64 0, .int .i64 0, .bool true] 90) :: pts b34 (.cells #[.int .i64 0, .bool true, .int .i64 0] 39) :: ob62 B0 p0 ca1 cc2 ca3 cc4 :: ro2 ca1 cc2 p0.Held :: ro90 ca3 cc4 p0.Book :: ob57 b5 p1 :: pts b6 (.cells #[.int .i64 0, .bool false, .int .i64 0] 39) :: L)) _ := h.sel 7 [1, 0, 2, 3, 4, 5, 6] (by kernel_rfl) (by kernel_rfl)
          refine op_store (wn rfl) rfl hr rfl (by kernel_rfl) (by kernel_rfl) (v := .int .i64 p1.A) rfl rfl (by kernel_rfl) h (i := 3) rfl ?_; clear h; intro w h
          refine wpList_nil ?_
          replace h : Fit z (sepL (pts b33 (.cells #[.int .i64 p0.Actor, .int .i64 p1.Kind, .int .i64 p1.Addr, .int .i64 p1.A, .int .i64 0, .bool true] 90) :: pts b34 (.cells #[.int .i64 0, .bool true, .int .i64 0] 39) :: ob62 B0 p0 ca1 cc2 ca3 cc4 :: ro2 ca1 cc2 p0.Held :: ro90 ca3 cc4 p0.Book :: ob57 b5 p1 :: pts b6 (.cells #[.int .i64 0, .bool false, .int .i64 0] 39) :: L)) _ := h
          refine then_normal ?_
          refine wp_seq ?_
          refine wp_region_lit ?_
          refine ov hr (.pointer (some ⟨b5, 4, none⟩)) (by kernel_rfl) ?_; clear hr a; intro a hr
          refine op_val (wn rfl) rfl rfl hr (v := .int .i64 p1.B) (rl rfl (by kernel_rfl) (by kernel_rfl) ((h.pick 5).cell 4 rfl)) ?_; clear hr a; intro a hr
          refine ov hr (.pointer (some ⟨b33, 4, none⟩)) (by kernel_rfl) ?_; clear hr a; intro a hr
          refine op_store (wn rfl) rfl hr rfl (by kernel_rfl) (by kernel_rfl) (v := .int .i64 p1.B) rfl rfl (by kernel_rfl) h (i := 4) rfl ?_; clear h; intro w h
          refine wpList_nil ?_
          replace h : Fit z (sepL (pts b33 (.cells #[.int .i64 p0.Actor, .int .i64 p1.Kind, .int .i64 p1.Addr, .int .i64 p1.A, .int .i64 p1.B, .bool true] 90) :: pts b34 (.cells #[.int .i64 0, .bool true, .int .i64 0] 39) :: ob62 B0 p0 ca1 cc2 ca3 cc4 :: ro2 ca1 cc2 p0.Held :: ro90 ca3 cc4 p0.Book :: ob57 b5 p1 :: pts b6 (.cells #[.int .i64 0, .bool false, .int .i64 0] 39) :: L)) _ := h
          refine then_normal ?_
          refine wp_seq ?_
          refine wp_region_lit ?_
          refine ovs [112, 113] [.int .i64 (at_ p0.Held p1.Addr.toNat), .pointer (some ⟨b5, 3, none⟩)] hr ⟨rfl, rfl⟩ (by kernel_rfl) ?_; clear hr a; intro a hr
          refine op_val (wn rfl) rfl rfl hr (v := .int .i64 p1.A) (rl rfl (by kernel_rfl) (by kernel_rfl) ((h.pick 5).cell 3 rfl)) ?_; clear hr a; intro a hr
          refine ovs [115, 116] [.bool ((at_ p0.Held p1.Addr.toNat) == p1.A), .pointer (some ⟨b33, 5, none⟩)] hr ⟨rfl, rfl⟩ (by kernel_rfl) ?_; clear hr a; intro a hr
          refine op_store (wn rfl) rfl hr rfl (by kernel_rfl) (by kernel_rfl) (v := .bool ((at_ p0.Held p1.Addr.toNat) == p1.A)) rfl rfl (by kernel_rfl) h (i := 5) rfl ?_; clear h; intro w h
          refine wpList_nil ?_
          replace h : Fit z (sepL (pts b33 (.cells #[.int .i64 p0.Actor, .int .i64 p1.Kind, .int .i64 p1.Addr, .int .i64 p1.A, .int .i64 p1.B, .bool ((at_ p0.Held p1.Addr.toNat) == p1.A)] 90) :: pts b34 (.cells #[.int .i64 0, .bool true, .int .i64 0] 39) :: ob62 B0 p0 ca1 cc2 ca3 cc4 :: ro2 ca1 cc2 p0.Held :: ro90 ca3 cc4 p0.Book :: ob57 b5 p1 :: pts b6 (.cells #[.int .i64 0, .bool false, .int .i64 0] 39) :: L)) _ := h
          refine then_normal ?_
          refine wp_seq ?_
          refine wp_region_lit ?_
          refine ovs [117, 118] [.int .i64 (at_ p0.Held p1.Addr.toNat), .pointer (some ⟨b5, 3, none⟩)] hr ⟨rfl, rfl⟩ (by kernel_rfl) ?_; clear hr a; intro a hr
          refine op_val (wn rfl) rfl rfl hr (v := .int .i64 p1.A) (rl rfl (by kernel_rfl) (by kernel_rfl) ((h.pick 5).cell 3 rfl)) ?_; clear hr a; intro a hr
          refine ovs [120, 121] [.bool ((at_ p0.Held p1.Addr.toNat) == p1.A), .pointer (some ⟨b34, 1, none⟩)] hr ⟨rfl, rfl⟩ (by kernel_rfl) ?_; clear hr a; intro a hr
          replace h : Fit z (sepL (pts b34 (.cells #[.int .i64 0, .bool true, .int .i64 0] 39) :: pts b33 (.cells #[.int .i64 p0.Actor, .int .i64 p1.Kind, .int .i64 p1.Addr, .int .i64 p1.A, .int .i64 p1.B, .bool ((at_ p0.Held p1.Addr.toNat) == p1.A)] 90) :: ob62 B0 p0 ca1 cc2 ca3 cc4 :: ro2 ca1 cc2 p0.Held :: ro90 ca3 cc4 p0.Book :: ob57 b5 p1 :: pts b6 (.cells #[.int .i64 0, .bool false, .int .i64 0] 39) :: L)) _ := h.sel 7 [1, 0, 2, 3, 4, 5, 6] (by kernel_rfl) (by kernel_rfl)
          refine op_store (wn rfl) rfl hr rfl (by kernel_rfl) (by kernel_rfl) (v := .bool ((at_ p0.Held p1.Addr.toNat) == p1.A)) rfl rfl (by kernel_rfl) h (i := 1) rfl ?_; clear h; intro w h
          refine wpList_nil ?_
          replace h : Fit z (sepL (pts b34 (.cells #[.int .i64 0, .bool ((at_ p0.Held p1.Addr.toNat) == p1.A), .int .i64 0] 39) :: pts b33 (.cells #[.int .i64 p0.Actor, .int .i64 p1.Kind, .int .i64 p1.Addr, .int .i64 p1.A, .int .i64 p1.B, .bool ((at_ p0.Held p1.Addr.toNat) == p1.A)] 90) :: ob62 B0 p0 ca1 cc2 ca3 cc4 :: ro2 ca1 cc2 p0.Held :: ro90 ca3 cc4 p0.Book :: ob57 b5 p1 :: pts b6 (.cells #[.int .i64 0, .bool false, .int .i64 0] 39) :: L)) _ := h
          refine then_normal ?_
          refine wp_seq ?_
          refine wp_region_lit ?_
          refine ovs [122, 123] [.int .i64 (at_ p0.Held p1.Addr.toNat), .pointer (some ⟨b5, 3, none⟩)] hr ⟨rfl, rfl⟩ (by kernel_rfl) ?_; clear hr a; intro a hr
          refine op_val (wn rfl) rfl rfl hr (v := .int .i64 p1.A) (rl rfl (by kernel_rfl) (by kernel_rfl) ((h.pick 5).cell 3 rfl)) ?_; clear hr a; intro a hr
          refine ov hr (.bool ((at_ p0.Held p1.Addr.toNat) == p1.A)) (by kernel_rfl) ?_; clear hr a; intro a hr
          refine wpList_nil ?_
          refine then_normal ?_
          by_cases c51 : (at_ p0.Held p1.Addr.toNat) = p1.A
          ·
            replace H := ifT c51 H
            refine cond_tt hr (b := ((at_ p0.Held p1.Addr.toNat) == p1.A)) (beq_iff_eq.mpr c51) ?_
            refine reg_E (fun w => heldC w B0 1 [.slice ca1 p0.Held.length cc2] ∧ heldC w b5 2 [.int .i64 p1.Addr] ∧ heldC w b5 4 [.int .i64 p1.B] ∧ True) [1, 2, 4, 6] h (by kernel_rfl) ?_; intro w h
            change wpAnyE _ _ _ _ _ _ 10 (Array.replicate 10 false) a w
            have hgo : ∀ w w', CellsGo w w' → (heldC w B0 1 [.slice ca1 p0.Held.length cc2] ∧ heldC w b5 2 [.int .i64 p1.Addr] ∧ heldC w b5 4 [.int .i64 p1.B] ∧ True) → heldC w' B0 1 [.slice ca1 p0.Held.length cc2] ∧ heldC w' b5 2 [.int .i64 p1.Addr] ∧ heldC w' b5 4 [.int .i64 p1.B] ∧ True := fun w w' g hD => ⟨heldC_go _ _ _ _ _ g hD.1, heldC_go _ _ _ _ _ g hD.2.1, heldC_go _ _ _ _ _ g hD.2.2.1, trivial⟩
            refine ev 9 0 rfl (by kernel_rfl) (wn rfl) hr (.pointer (some ⟨B0, 0, none⟩)) (fun w => by kernel_rfl) ?_; clear hr a; intro a hr
            refine evD hgo ⟨⟨(h.pick 2).cell 1 rfl, trivial⟩, ⟨(h.pick 5).cell 2 rfl, trivial⟩, ⟨(h.pick 5).cell 4 rfl, trivial⟩, trivial⟩ 8 1 rfl (by kernel_rfl) (wn rfl) hr (.pointer (some ⟨B0, 0, none⟩)) (fun w => by kernel_rfl) ?_; clear hr a; intro a hr
            refine evD hgo ⟨⟨(h.pick 2).cell 1 rfl, trivial⟩, ⟨(h.pick 5).cell 2 rfl, trivial⟩, ⟨(h.pick 5).cell 4 rfl, trivial⟩, trivial⟩ 7 2 rfl (by kernel_rfl) (wn rfl) hr (.pointer (some ⟨B0, 1, none⟩)) (fun w => by kernel_rfl) ?_; clear hr a; intro a hr
            refine evD hgo ⟨⟨(h.pick 2).cell 1 rfl, trivial⟩, ⟨(h.pick 5).cell 2 rfl, trivial⟩, ⟨(h.pick 5).cell 4 rfl, trivial⟩, trivial⟩ 6 4 rfl (by kernel_rfl) (wn rfl) hr (.pointer (some ⟨b5, 2, none⟩)) (fun w => by kernel_rfl) ?_; clear hr a; intro a hr
            refine evD hgo ⟨⟨(h.pick 2).cell 1 rfl, trivial⟩, ⟨(h.pick 5).cell 2 rfl, trivial⟩, ⟨(h.pick 5).cell 4 rfl, trivial⟩, trivial⟩ 5 6 rfl (by kernel_rfl) (wn rfl) hr (.pointer (some ⟨b5, 4, none⟩)) (fun w => by kernel_rfl) ?_; clear hr a; intro a hr
            refine el [1, 2, 4, 6] (b := B0) (off := 1) (cs := [.slice ca1 p0.Held.length cc2]) (fun _ hk => ⟨hk, fun w hD => hD.1⟩) 4 3 rfl (by kernel_rfl) (wn rfl) hr (.slice ca1 p0.Held.length cc2) ⟨(h.pick 2).cell 1 rfl, trivial⟩ (fun w hc => rl rfl (by kernel_rfl) (by kernel_rfl) hc.1) ?_; clear hr a; intro a hr
            refine el [1, 2, 4, 6] (b := b5) (off := 2) (cs := [.int .i64 p1.Addr]) (fun _ hk => ⟨hk, fun w hD => hD.2.1⟩) 3 5 rfl (by kernel_rfl) (wn rfl) hr (.int .i64 p1.Addr) ⟨(h.pick 5).cell 2 rfl, trivial⟩ (fun w hc => rl rfl (by kernel_rfl) (by kernel_rfl) hc.1) ?_; clear hr a; intro a hr
            refine el [1, 2, 4, 6] (b := b5) (off := 4) (cs := [.int .i64 p1.B]) (fun _ hk => ⟨hk, fun w hD => hD.2.2.1⟩) 2 7 rfl (by kernel_rfl) (wn rfl) hr (.int .i64 p1.B) ⟨(h.pick 5).cell 4 rfl, trivial⟩ (fun w hc => rl rfl (by kernel_rfl) (by kernel_rfl) hc.1) ?_; clear hr a; intro a hr
            refine ev 1 8 rfl (by kernel_rfl) (wn rfl) hr (.pointer (some ⟨blk ca1, p1.Addr.toNat * 1, none⟩)) (fun w => ri_row (k := .i64) (E := 2) rfl (by kernel_rfl) (by kernel_rfl) (by kernel_rfl) (by kernel_rfl) (h.pick 3) c32) ?_; clear hr a; intro a hr
            refine e_one (fuel := 0) (i := 9) (by kernel_rfl) rfl ?_
            replace h : Fit z (sepL (ro2 ca1 cc2 p0.Held :: pts b34 (.cells #[.int .i64 0, .bool ((at_ p0.Held p1.Addr.toNat) == p1.A), .int .i64 0] 39) :: pts b33 (.cells #[.int .i64 p0.Actor, .int .i64 p1.Kind, .int .i64 p1.Addr, .int .i64 p1.A, .int .i64 p1.B, .bool ((at_ p0.Held p1.Addr.toNat) == p1.A)] 90) :: ob62 B0 p0 ca1 cc2 ca3 cc4 :: ro90 ca3 cc4 p0.Book :: ob57 b5 p1 :: pts b6 (.cells #[.int .i64 0, .bool false, .int .i64 0] 39) :: L)) _ := h.sel 7 [3, 0, 1, 2, 4, 5, 6] (by kernel_rfl) (by kernel_rfl)
            refine op_store_row (wn rfl) rfl hr rfl (by kernel_rfl) (by kernel_rfl) (v := .int .i64 p1.B) rfl rfl (by kernel_rfl) encZ_i64_ok h (i := p1.Addr.toNat) (f := 0) (p := (at_ p0.Held p1.Addr.toNat)) (q := p1.B) (at_ok c32) (by decide) rfl ?_; clear h; intro w h
            replace h : Fit z (sepL (rowOf 2 1 encZ_i64 (.slice ca1 p0.Held.length cc2) (p0.Held.set p1.Addr.toNat p1.B) :: pts b34 (.cells #[.int .i64 0, .bool ((at_ p0.Held p1.Addr.toNat) == p1.A), .int .i64 0] 39) :: pts b33 (.cells #[.int .i64 p0.Actor, .int .i64 p1.Kind, .int .i64 p1.Addr, .int .i64 p1.A, .int .i64 p1.B, .bool ((at_ p0.Held p1.Addr.toNat) == p1.A)] 90) :: ob62 B0 p0 ca1 cc2 ca3 cc4 :: ro90 ca3 cc4 p0.Book :: ob57 b5 p1 :: pts b6 (.cells #[.int .i64 0, .bool false, .int .i64 0] 39) :: L)) _ := h
            refine wpList_nil ?_; refine then_normal ?_
            refine ⟨fun hE => absurd hE (by decide), ?_⟩
            refine e_end (by kernel_rfl) ?_
            refine blk_normal ?_
            refine then_normal ?_
            refine wp_seq ?_
            refine wp_region_lit ?_
            refine ov hr (.pointer (some ⟨B0, 0, none⟩)) (by kernel_rfl) ?_; clear hr a; intro a hr
            refine op_val (wn rfl) rfl rfl hr (v := .agg #[.int .i64 p0.Actor, .int .i64 p1.Kind, .int .i64 p1.Addr, .int .i64 p1.A, .int .i64 p1.B, .bool ((at_ p0.Held p1.Addr.toNat) == p1.A)]) (rlm (cs := [.int .i64 p0.Actor, .int .i64 p1.Kind, .int .i64 p1.Addr, .int .i64 p1.A, .int .i64 p1.B, .bool ((at_ p0.Held p1.Addr.toNat) == p1.A)]) rfl (by kernel_rfl) (by kernel_rfl) (by kernel_rfl) ⟨(h.pick 2).cell 0 rfl, (h.pick 2).cell 1 rfl, (h.pick 2).cell 2 rfl, (h.pick 2).cell 3 rfl, (h.pick 2).cell 4 rfl, (h.pick 2).cell 5 rfl, trivial⟩) ?_; clear hr a; intro a hr
            have hn51 := h.row_n
            replace h : Fit z (sepL (ro2 ca1 cc2 (p0.Held.set p1.Addr.toNat p1.B) :: pts b34 (.cells #[.int .i64 0, .bool ((at_ p0.Held p1.Addr.toNat) == p1.A), .int .i64 0] 39) :: pts b33 (.cells #[.int .i64 p0.Actor, .int .i64 p1.Kind, .int .i64 p1.Addr, .int .i64 p1.A, .int .i64 p1.B, .bool ((at_ p0.Held p1.Addr.toNat) == p1.A)] 90) :: pts B0 (.cells #[.int .i64 p0.Most, .slice ca1 ((p0.Held.set p1.Addr.toNat p1.B).length) cc2, .bool p0.On, .int .i64 p0.Actor, .slice ca3 p0.Book.length cc4] 62) :: ro90 ca3 cc4 p0.Book :: ob57 b5 p1 :: pts b6 (.cells #[.int .i64 0, .bool false, .int .i64 0] 39) :: L)) w := (congrArg (fun q_ : Nat => Fit z (sepL (rowOf 2 1 encZ_i64 (.slice ca1 q_ cc2) (p0.Held.set p1.Addr.toNat p1.B) :: pts b34 (.cells #[.int .i64 0, .bool ((at_ p0.Held p1.Addr.toNat) == p1.A), .int .i64 0] 39) :: pts b33 (.cells #[.int .i64 p0.Actor, .int .i64 p1.Kind, .int .i64 p1.Addr, .int .i64 p1.A, .int .i64 p1.B, .bool ((at_ p0.Held p1.Addr.toNat) == p1.A)] 90) :: pts B0 (.cells #[.int .i64 p0.Most, .slice ca1 q_ cc2, .bool p0.On, .int .i64 p0.Actor, .slice ca3 p0.Book.length cc4] 62) :: ro90 ca3 cc4 p0.Book :: ob57 b5 p1 :: pts b6 (.cells #[.int .i64 0, .bool false, .int .i64 0] 39) :: L)) w) h.row_n).mp h
            replace H := bd1 H; obtain ⟨S53, e54, H⟩ := H
            replace h : Fit z (sepL (pts B0 (.cells #[.int .i64 p0.Most, .slice ca1 ((p0.Held.set p1.Addr.toNat p1.B).length) cc2, .bool p0.On, .int .i64 p0.Actor, .slice ca3 p0.Book.length cc4] 62) :: ro2 ca1 cc2 (p0.Held.set p1.Addr.toNat p1.B) :: ro90 ca3 cc4 p0.Book :: pts b34 (.cells #[.int .i64 0, .bool ((at_ p0.Held p1.Addr.toNat) == p1.A), .int .i64 0] 39) :: pts b33 (.cells #[.int .i64 p0.Actor, .int .i64 p1.Kind, .int .i64 p1.Addr, .int .i64 p1.A, .int .i64 p1.B, .bool ((at_ p0.Held p1.Addr.toNat) == p1.A)] 90) :: ob57 b5 p1 :: pts b6 (.cells #[.int .i64 0, .bool false, .int .i64 0] 39) :: L)) _ := h.sel 7 [3, 0, 4, 1, 2, 5, 6] (by kernel_rfl) (by kernel_rfl)
            have hc := plunderref2_Arena_note_ok (H := e54) (h := h)
            refine op_call (wn rfl) rfl rfl hr (f := 80) (args := #[.pointer (some ⟨B0, 0, none⟩), .agg #[.int .i64 p0.Actor, .int .i64 p1.Kind, .int .i64 p1.Addr, .int .i64 p1.A, .int .i64 p1.B, .bool ((at_ p0.Held p1.Addr.toNat) == p1.A)]]) (by kernel_rfl) hc ?_; clear hc h
            rintro _ w ⟨caq55, ccq56, caq57, ccq58, rfl, h⟩; refine ⟨_, rfl, ?_⟩
            clear hr a; intro a hr
            refine wpList_nil ?_
            refine then_normal ?_
            refine wp_seq ?_
            refine wp_region_lit ?_
            refine op_val (wn rfl) rfl rfl hr (v := .agg #[.int .i64 0, .bool ((at_ p0.Held p1.Addr.toNat) == p1.A), .int .i64 0]) (rlm (cs := [.int .i64 0, .bool ((at_ p0.Held p1.Addr.toNat) == p1.A), .int .i64 0]) rfl (by kernel_rfl) (by kernel_rfl) (by kernel_rfl) ⟨(h.pick 3).cell 0 rfl, (h.pick 3).cell 1 rfl, (h.pick 3).cell 2 rfl, trivial⟩) ?_; clear hr a; intro a hr
            replace h : Fit z (sepL (pts b6 (.cells #[.int .i64 0, .bool false, .int .i64 0] 39) :: ob62 B0 S53 caq55 ccq56 caq57 ccq58 :: ro2 caq55 ccq56 S53.Held :: ro90 caq57 ccq58 S53.Book :: pts b34 (.cells #[.int .i64 0, .bool ((at_ p0.Held p1.Addr.toNat) == p1.A), .int .i64 0] 39) :: pts b33 (.cells #[.int .i64 p0.Actor, .int .i64 p1.Kind, .int .i64 p1.Addr, .int .i64 p1.A, .int .i64 p1.B, .bool ((at_ p0.Held p1.Addr.toNat) == p1.A)] 90) :: ob57 b5 p1 :: L)) _ := h.sel 7 [6, 0, 1, 2, 3, 4, 5] (by kernel_rfl) (by kernel_rfl)
            refine op_stores (wn rfl) rfl hr rfl (by kernel_rfl) (by kernel_rfl) (vs := [.int .i64 0, .bool ((at_ p0.Held p1.Addr.toNat) == p1.A), .int .i64 0]) rfl rfl (by kernel_rfl) h (i := 0) (cs' := #[.int .i64 0, .bool ((at_ p0.Held p1.Addr.toNat) == p1.A), .int .i64 0]) rfl ?_; clear h; intro w h
            refine wpList_nil ?_
            replace h : Fit z (sepL (pts b6 (.cells #[.int .i64 0, .bool ((at_ p0.Held p1.Addr.toNat) == p1.A), .int .i64 0] 39) :: ob62 B0 S53 caq55 ccq56 caq57 ccq58 :: ro2 caq55 ccq56 S53.Held :: ro90 caq57 ccq58 S53.Book :: pts b34 (.cells #[.int .i64 0, .bool ((at_ p0.Held p1.Addr.toNat) == p1.A), .int .i64 0] 39) :: pts b33 (.cells #[.int .i64 p0.Actor, .int .i64 p1.Kind, .int .i64 p1.Addr, .int .i64 p1.A, .int .i64 p1.B, .bool ((at_ p0.Held p1.Addr.toNat) == p1.A)] 90) :: ob57 b5 p1 :: L)) _ := h
            refine then_normal ?_
            refine wp_ret ?_
            refine end_retC (cs := [.int .i64 0, .bool ((at_ p0.Held p1.Addr.toNat) == p1.A), .int .i64 0]) rfl hr (by kernel_rfl) (by kernel_rfl) (by kernel_rfl) ⟨h.cell 0 rfl, h.cell 1 rfl, h.cell 2 rfl, trivial⟩ ?_
            replace h : Fit z (sepL (ob62 B0 S53 caq55 ccq56 caq57 ccq58 :: ro2 caq55 ccq56 S53.Held :: ro90 caq57 ccq58 S53.Book :: L)) _ := h.sel 7 [1, 2, 3] (by kernel_rfl) (by kernel_rfl)
            replace H := ej2 H; obtain ⟨rfl, rfl⟩ := H
            exact ⟨caq55, ccq56, caq57, ccq58, rfl, h⟩
          ·
            replace H := ifF c51 H
            refine cond_ff hr (b := ((at_ p0.Held p1.Addr.toNat) == p1.A)) (beq_eq_false_iff_ne.mpr c51) ?_
            refine wp_skip ?_
            refine blk_normal ?_
            refine then_normal ?_
            refine wp_seq ?_
            refine wp_region_lit ?_
            refine ov hr (.pointer (some ⟨B0, 0, none⟩)) (by kernel_rfl) ?_; clear hr a; intro a hr
            refine op_val (wn rfl) rfl rfl hr (v := .agg #[.int .i64 p0.Actor, .int .i64 p1.Kind, .int .i64 p1.Addr, .int .i64 p1.A, .int .i64 p1.B, .bool ((at_ p0.Held p1.Addr.toNat) == p1.A)]) (rlm (cs := [.int .i64 p0.Actor, .int .i64 p1.Kind, .int .i64 p1.Addr, .int .i64 p1.A, .int .i64 p1.B, .bool ((at_ p0.Held p1.Addr.toNat) == p1.A)]) rfl (by kernel_rfl) (by kernel_rfl) (by kernel_rfl) ⟨(h.pick 1).cell 0 rfl, (h.pick 1).cell 1 rfl, (h.pick 1).cell 2 rfl, (h.pick 1).cell 3 rfl, (h.pick 1).cell 4 rfl, (h.pick 1).cell 5 rfl, trivial⟩) ?_; clear hr a; intro a hr
            replace H := bd1 H; obtain ⟨S59, e60, H⟩ := H
            replace h : Fit z (sepL (ob62 B0 p0 ca1 cc2 ca3 cc4 :: ro2 ca1 cc2 p0.Held :: ro90 ca3 cc4 p0.Book :: pts b34 (.cells #[.int .i64 0, .bool ((at_ p0.Held p1.Addr.toNat) == p1.A), .int .i64 0] 39) :: pts b33 (.cells #[.int .i64 p0.Actor, .int .i64 p1.Kind, .int .i64 p1.Addr, .int .i64 p1.A, .int .i64 p1.B, .bool ((at_ p0.Held p1.Addr.toNat) == p1.A)] 90) :: ob57 b5 p1 :: pts b6 (.cells #[.int .i64 0, .bool false, .int .i64 0] 39) :: L)) _ := h.sel 7 [2, 3, 4, 0, 1, 5, 6] (by kernel_rfl) (by kernel_rfl)
            have hc := plunderref2_Arena_note_ok (H := e60) (h := h)
            refine op_call (wn rfl) rfl rfl hr (f := 80) (args := #[.pointer (some ⟨B0, 0, none⟩), .agg #[.int .i64 p0.Actor, .int .i64 p1.Kind, .int .i64 p1.Addr, .int .i64 p1.A, .int .i64 p1.B, .bool ((at_ p0.Held p1.Addr.toNat) == p1.A)]]) (by kernel_rfl) hc ?_; clear hc h
            rintro _ w ⟨caq61, ccq62, caq63, ccq64, rfl, h⟩; refine ⟨_, rfl, ?_⟩
            clear hr a; intro a hr
            refine wpList_nil ?_
            refine then_normal ?_
            refine wp_seq ?_
            refine wp_region_lit ?_
            refine op_val (wn rfl) rfl rfl hr (v := .agg #[.int .i64 0, .bool ((at_ p0.Held p1.Addr.toNat) == p1.A), .int .i64 0]) (rlm (cs := [.int .i64 0, .bool ((at_ p0.Held p1.Addr.toNat) == p1.A), .int .i64 0]) rfl (by kernel_rfl) (by kernel_rfl) (by kernel_rfl) ⟨(h.pick 3).cell 0 rfl, (h.pick 3).cell 1 rfl, (h.pick 3).cell 2 rfl, trivial⟩) ?_; clear hr a; intro a hr
            replace h : Fit z (sepL (pts b6 (.cells #[.int .i64 0, .bool false, .int .i64 0] 39) :: ob62 B0 S59 caq61 ccq62 caq63 ccq64 :: ro2 caq61 ccq62 S59.Held :: ro90 caq63 ccq64 S59.Book :: pts b34 (.cells #[.int .i64 0, .bool ((at_ p0.Held p1.Addr.toNat) == p1.A), .int .i64 0] 39) :: pts b33 (.cells #[.int .i64 p0.Actor, .int .i64 p1.Kind, .int .i64 p1.Addr, .int .i64 p1.A, .int .i64 p1.B, .bool ((at_ p0.Held p1.Addr.toNat) == p1.A)] 90) :: ob57 b5 p1 :: L)) _ := h.sel 7 [6, 0, 1, 2, 3, 4, 5] (by kernel_rfl) (by kernel_rfl)
            refine op_stores (wn rfl) rfl hr rfl (by kernel_rfl) (by kernel_rfl) (vs := [.int .i64 0, .bool ((at_ p0.Held p1.Addr.toNat) == p1.A), .int .i64 0]) rfl rfl (by kernel_rfl) h (i := 0) (cs' := #[.int .i64 0, .bool ((at_ p0.Held p1.Addr.toNat) == p1.A), .int .i64 0]) rfl ?_; clear h; intro w h
            refine wpList_nil ?_
            replace h : Fit z (sepL (pts b6 (.cells #[.int .i64 0, .bool ((at_ p0.Held p1.Addr.toNat) == p1.A), .int .i64 0] 39) :: ob62 B0 S59 caq61 ccq62 caq63 ccq64 :: ro2 caq61 ccq62 S59.Held :: ro90 caq63 ccq64 S59.Book :: pts b34 (.cells #[.int .i64 0, .bool ((at_ p0.Held p1.Addr.toNat) == p1.A), .int .i64 0] 39) :: pts b33 (.cells #[.int .i64 p0.Actor, .int .i64 p1.Kind, .int .i64 p1.Addr, .int .i64 p1.A, .int .i64 p1.B, .bool ((at_ p0.Held p1.Addr.toNat) == p1.A)] 90) :: ob57 b5 p1 :: L)) _ := h
            refine then_normal ?_
            refine wp_ret ?_
            refine end_retC (cs := [.int .i64 0, .bool ((at_ p0.Held p1.Addr.toNat) == p1.A), .int .i64 0]) rfl hr (by kernel_rfl) (by kernel_rfl) (by kernel_rfl) ⟨h.cell 0 rfl, h.cell 1 rfl, h.cell 2 rfl, trivial⟩ ?_
            replace h : Fit z (sepL (ob62 B0 S59 caq61 ccq62 caq63 ccq64 :: ro2 caq61 ccq62 S59.Held :: ro90 caq63 ccq64 S59.Book :: L)) _ := h.sel 7 [1, 2, 3] (by kernel_rfl) (by kernel_rfl)
            replace H := ej2 H; obtain ⟨rfl, rfl⟩ := H
            exact ⟨caq61, ccq62, caq63, ccq64, rfl, h⟩
        ·
          replace H := ifF c50 H
          refine cond_ff hr (b := (p1.Kind == (2 : Int))) (beq_eq_false_iff_ne.mpr c50) ?_
          refine wp_seq ?_
          refine wp_region_lit ?_
          refine ov hr (.pointer (some ⟨b5, 3, none⟩)) (by kernel_rfl) ?_; clear hr a; intro a hr
          refine op_val (wn rfl) rfl rfl hr (v := .int .i64 p1.A) (rl rfl (by kernel_rfl) (by kernel_rfl) ((h.pick 5).cell 3 rfl)) ?_; clear hr a; intro a hr
          refine ov hr (.pointer (some ⟨b33, 3, none⟩)) (by kernel_rfl) ?_; clear hr a; intro a hr
          replace h : Fit z (sepL (pts b33 (.cells #[.int .i64 p0.Actor, .int .i64 p1.Kind, .int .i64 p1.Addr, .int .i64 0, .int .i64 0, .bool true] 90) :: pts b34 (.cells #[.int .i64 0, .bool true, .int .i64 0] 39) :: ob62 B0 p0 ca1 cc2 ca3 cc4 :: ro2 ca1 cc2 p0.Held :: ro90 ca3 cc4 p0.Book :: ob57 b5 p1 :: pts b6 (.cells #[.int .i64 0, .bool false, .int .i64 0] 39) :: L)) _ := h.sel 7 [1, 0, 2, 3, 4, 5, 6] (by kernel_rfl) (by kernel_rfl)
          refine op_store (wn rfl) rfl hr rfl (by kernel_rfl) (by kernel_rfl) (v := .int .i64 p1.A) rfl rfl (by kernel_rfl) h (i := 3) rfl ?_; clear h; intro w h
          refine wpList_nil ?_
          replace h : Fit z (sepL (pts b33 (.cells #[.int .i64 p0.Actor, .int .i64 p1.Kind, .int .i64 p1.Addr, .int .i64 p1.A, .int .i64 0, .bool true] 90) :: pts b34 (.cells #[.int .i64 0, .bool true, .int .i64 0] 39) :: ob62 B0 p0 ca1 cc2 ca3 cc4 :: ro2 ca1 cc2 p0.Held :: ro90 ca3 cc4 p0.Book :: ob57 b5 p1 :: pts b6 (.cells #[.int .i64 0, .bool false, .int .i64 0] 39) :: L)) _ := h
          refine then_normal ?_
          refine wp_seq ?_
          refine wp_region_lit ?_
          refine ovs [63, 64] [.int .i64 (at_ p0.Held p1.Addr.toNat), .pointer (some ⟨b5, 3, none⟩)] hr ⟨rfl, rfl⟩ (by kernel_rfl) ?_; clear hr a; intro a hr
          refine op_val (wn rfl) rfl rfl hr (v := .int .i64 p1.A) (rl rfl (by kernel_rfl) (by kernel_rfl) ((h.pick 5).cell 3 rfl)) ?_; clear hr a; intro a hr
          refine ovs [66, 67] [.int .i64 (wi ((at_ p0.Held p1.Addr.toNat) + p1.A)), .pointer (some ⟨b33, 4, none⟩)] hr ⟨rfl, rfl⟩ (by kernel_rfl) ?_; clear hr a; intro a hr
          refine op_store (wn rfl) rfl hr rfl (by kernel_rfl) (by kernel_rfl) (v := .int .i64 (wi ((at_ p0.Held p1.Addr.toNat) + p1.A))) rfl rfl (by kernel_rfl) h (i := 4) rfl ?_; clear h; intro w h
          refine wpList_nil ?_
          replace h : Fit z (sepL (pts b33 (.cells #[.int .i64 p0.Actor, .int .i64 p1.Kind, .int .i64 p1.Addr, .int .i64 p1.A, .int .i64 (wi ((at_ p0.Held p1.Addr.toNat) + p1.A)), .bool true] 90) :: pts b34 (.cells #[.int .i64 0, .bool true, .int .i64 0] 39) :: ob62 B0 p0 ca1 cc2 ca3 cc4 :: ro2 ca1 cc2 p0.Held :: ro90 ca3 cc4 p0.Book :: ob57 b5 p1 :: pts b6 (.cells #[.int .i64 0, .bool false, .int .i64 0] 39) :: L)) _ := h
          refine then_normal ?_
          refine wp_seq ?_
          refine wp_region_lit ?_
          refine ovs [68, 69] [.int .i64 (at_ p0.Held p1.Addr.toNat), .pointer (some ⟨b5, 3, none⟩)] hr ⟨rfl, rfl⟩ (by kernel_rfl) ?_; clear hr a; intro a hr
          refine op_val (wn rfl) rfl rfl hr (v := .int .i64 p1.A) (rl rfl (by kernel_rfl) (by kernel_rfl) ((h.pick 5).cell 3 rfl)) ?_; clear hr a; intro a hr
          refine ovs [71, 72] [.int .i64 (wi ((at_ p0.Held p1.Addr.toNat) + p1.A)), .pointer (some ⟨b34, 0, none⟩)] hr ⟨rfl, rfl⟩ (by kernel_rfl) ?_; clear hr a; intro a hr
          replace h : Fit z (sepL (pts b34 (.cells #[.int .i64 0, .bool true, .int .i64 0] 39) :: pts b33 (.cells #[.int .i64 p0.Actor, .int .i64 p1.Kind, .int .i64 p1.Addr, .int .i64 p1.A, .int .i64 (wi ((at_ p0.Held p1.Addr.toNat) + p1.A)), .bool true] 90) :: ob62 B0 p0 ca1 cc2 ca3 cc4 :: ro2 ca1 cc2 p0.Held :: ro90 ca3 cc4 p0.Book :: ob57 b5 p1 :: pts b6 (.cells #[.int .i64 0, .bool false, .int .i64 0] 39) :: L)) _ := h.sel 7 [1, 0, 2, 3, 4, 5, 6] (by kernel_rfl) (by kernel_rfl)
          refine op_store (wn rfl) rfl hr rfl (by kernel_rfl) (by kernel_rfl) (v := .int .i64 (wi ((at_ p0.Held p1.Addr.toNat) + p1.A))) rfl rfl (by kernel_rfl) h (i := 0) rfl ?_; clear h; intro w h
          refine wpList_nil ?_
          replace h : Fit z (sepL (pts b34 (.cells #[.int .i64 (wi ((at_ p0.Held p1.Addr.toNat) + p1.A)), .bool true, .int .i64 0] 39) :: pts b33 (.cells #[.int .i64 p0.Actor, .int .i64 p1.Kind, .int .i64 p1.Addr, .int .i64 p1.A, .int .i64 (wi ((at_ p0.Held p1.Addr.toNat) + p1.A)), .bool true] 90) :: ob62 B0 p0 ca1 cc2 ca3 cc4 :: ro2 ca1 cc2 p0.Held :: ro90 ca3 cc4 p0.Book :: ob57 b5 p1 :: pts b6 (.cells #[.int .i64 0, .bool false, .int .i64 0] 39) :: L)) _ := h
          refine then_normal ?_
          refine reg_E (fun w => heldC w B0 1 [.slice ca1 p0.Held.length cc2] ∧ heldC w b5 2 [.int .i64 p1.Addr] ∧ heldC w b5 3 [.int .i64 p1.A] ∧ True) [1, 2, 4, 7, 9] h (by kernel_rfl) ?_; intro w h
          change wpAnyE _ _ _ _ _ _ 12 (Array.replicate 12 false) a w
          have hgo : ∀ w w', CellsGo w w' → (heldC w B0 1 [.slice ca1 p0.Held.length cc2] ∧ heldC w b5 2 [.int .i64 p1.Addr] ∧ heldC w b5 3 [.int .i64 p1.A] ∧ True) → heldC w' B0 1 [.slice ca1 p0.Held.length cc2] ∧ heldC w' b5 2 [.int .i64 p1.Addr] ∧ heldC w' b5 3 [.int .i64 p1.A] ∧ True := fun w w' g hD => ⟨heldC_go _ _ _ _ _ g hD.1, heldC_go _ _ _ _ _ g hD.2.1, heldC_go _ _ _ _ _ g hD.2.2.1, trivial⟩
          refine ev 11 0 rfl (by kernel_rfl) (wn rfl) hr (.pointer (some ⟨B0, 0, none⟩)) (fun w => by kernel_rfl) ?_; clear hr a; intro a hr
          refine evD hgo ⟨⟨(h.pick 2).cell 1 rfl, trivial⟩, ⟨(h.pick 5).cell 2 rfl, trivial⟩, ⟨(h.pick 5).cell 3 rfl, trivial⟩, trivial⟩ 10 1 rfl (by kernel_rfl) (wn rfl) hr (.pointer (some ⟨B0, 0, none⟩)) (fun w => by kernel_rfl) ?_; clear hr a; intro a hr
          refine evD hgo ⟨⟨(h.pick 2).cell 1 rfl, trivial⟩, ⟨(h.pick 5).cell 2 rfl, trivial⟩, ⟨(h.pick 5).cell 3 rfl, trivial⟩, trivial⟩ 9 2 rfl (by kernel_rfl) (wn rfl) hr (.pointer (some ⟨B0, 1, none⟩)) (fun w => by kernel_rfl) ?_; clear hr a; intro a hr
          refine evD hgo ⟨⟨(h.pick 2).cell 1 rfl, trivial⟩, ⟨(h.pick 5).cell 2 rfl, trivial⟩, ⟨(h.pick 5).cell 3 rfl, trivial⟩, trivial⟩ 8 4 rfl (by kernel_rfl) (wn rfl) hr (.pointer (some ⟨b5, 2, none⟩)) (fun w => by kernel_rfl) ?_; clear hr a; intro a hr
          refine ev 7 6 rfl (by kernel_rfl) (wn rfl) hr (.int .i64 (at_ p0.Held p1.Addr.toNat)) (fun w => by kernel_rfl) ?_; clear hr a; intro a hr
          refine evD hgo ⟨⟨(h.pick 2).cell 1 rfl, trivial⟩, ⟨(h.pick 5).cell 2 rfl, trivial⟩, ⟨(h.pick 5).cell 3 rfl, trivial⟩, trivial⟩ 6 7 rfl (by kernel_rfl) (wn rfl) hr (.pointer (some ⟨b5, 3, none⟩)) (fun w => by kernel_rfl) ?_; clear hr a; intro a hr
          refine el [1, 2, 4, 7, 9] (b := B0) (off := 1) (cs := [.slice ca1 p0.Held.length cc2]) (fun _ hk => ⟨hk, fun w hD => hD.1⟩) 5 3 rfl (by kernel_rfl) (wn rfl) hr (.slice ca1 p0.Held.length cc2) ⟨(h.pick 2).cell 1 rfl, trivial⟩ (fun w hc => rl rfl (by kernel_rfl) (by kernel_rfl) hc.1) ?_; clear hr a; intro a hr
          refine el [1, 2, 4, 7, 9] (b := b5) (off := 2) (cs := [.int .i64 p1.Addr]) (fun _ hk => ⟨hk, fun w hD => hD.2.1⟩) 4 5 rfl (by kernel_rfl) (wn rfl) hr (.int .i64 p1.Addr) ⟨(h.pick 5).cell 2 rfl, trivial⟩ (fun w hc => rl rfl (by kernel_rfl) (by kernel_rfl) hc.1) ?_; clear hr a; intro a hr
          refine el [1, 2, 4, 7, 9] (b := b5) (off := 3) (cs := [.int .i64 p1.A]) (fun _ hk => ⟨hk, fun w hD => hD.2.2.1⟩) 3 8 rfl (by kernel_rfl) (wn rfl) hr (.int .i64 p1.A) ⟨(h.pick 5).cell 3 rfl, trivial⟩ (fun w hc => rl rfl (by kernel_rfl) (by kernel_rfl) hc.1) ?_; clear hr a; intro a hr
          refine evD hgo ⟨⟨(h.pick 2).cell 1 rfl, trivial⟩, ⟨(h.pick 5).cell 2 rfl, trivial⟩, ⟨(h.pick 5).cell 3 rfl, trivial⟩, trivial⟩ 2 9 rfl (by kernel_rfl) (wn rfl) hr (.int .i64 (wi ((at_ p0.Held p1.Addr.toNat) + p1.A))) (fun w => by kernel_rfl) ?_; clear hr a; intro a hr
          refine ev 1 10 rfl (by kernel_rfl) (wn rfl) hr (.pointer (some ⟨blk ca1, p1.Addr.toNat * 1, none⟩)) (fun w => ri_row (k := .i64) (E := 2) rfl (by kernel_rfl) (by kernel_rfl) (by kernel_rfl) (by kernel_rfl) (h.pick 3) c32) ?_; clear hr a; intro a hr
          refine e_one (fuel := 0) (i := 11) (by kernel_rfl) rfl ?_
          replace h : Fit z (sepL (ro2 ca1 cc2 p0.Held :: pts b34 (.cells #[.int .i64 (wi ((at_ p0.Held p1.Addr.toNat) + p1.A)), .bool true, .int .i64 0] 39) :: pts b33 (.cells #[.int .i64 p0.Actor, .int .i64 p1.Kind, .int .i64 p1.Addr, .int .i64 p1.A, .int .i64 (wi ((at_ p0.Held p1.Addr.toNat) + p1.A)), .bool true] 90) :: ob62 B0 p0 ca1 cc2 ca3 cc4 :: ro90 ca3 cc4 p0.Book :: ob57 b5 p1 :: pts b6 (.cells #[.int .i64 0, .bool false, .int .i64 0] 39) :: L)) _ := h.sel 7 [3, 0, 1, 2, 4, 5, 6] (by kernel_rfl) (by kernel_rfl)
          refine op_store_row (wn rfl) rfl hr rfl (by kernel_rfl) (by kernel_rfl) (v := .int .i64 (wi ((at_ p0.Held p1.Addr.toNat) + p1.A))) rfl rfl (by kernel_rfl) encZ_i64_ok h (i := p1.Addr.toNat) (f := 0) (p := (at_ p0.Held p1.Addr.toNat)) (q := (wi ((at_ p0.Held p1.Addr.toNat) + p1.A))) (at_ok c32) (by decide) rfl ?_; clear h; intro w h
          replace h : Fit z (sepL (rowOf 2 1 encZ_i64 (.slice ca1 p0.Held.length cc2) (p0.Held.set p1.Addr.toNat (wi ((at_ p0.Held p1.Addr.toNat) + p1.A))) :: pts b34 (.cells #[.int .i64 (wi ((at_ p0.Held p1.Addr.toNat) + p1.A)), .bool true, .int .i64 0] 39) :: pts b33 (.cells #[.int .i64 p0.Actor, .int .i64 p1.Kind, .int .i64 p1.Addr, .int .i64 p1.A, .int .i64 (wi ((at_ p0.Held p1.Addr.toNat) + p1.A)), .bool true] 90) :: ob62 B0 p0 ca1 cc2 ca3 cc4 :: ro90 ca3 cc4 p0.Book :: ob57 b5 p1 :: pts b6 (.cells #[.int .i64 0, .bool false, .int .i64 0] 39) :: L)) _ := h
          refine wpList_nil ?_; refine then_normal ?_
          refine ⟨fun hE => absurd hE (by decide), ?_⟩
          refine e_end (by kernel_rfl) ?_
          refine blk_normal ?_
          refine then_normal ?_
          refine wp_seq ?_
          refine wp_region_lit ?_
          refine ov hr (.pointer (some ⟨B0, 0, none⟩)) (by kernel_rfl) ?_; clear hr a; intro a hr
          refine op_val (wn rfl) rfl rfl hr (v := .agg #[.int .i64 p0.Actor, .int .i64 p1.Kind, .int .i64 p1.Addr, .int .i64 p1.A, .int .i64 (wi ((at_ p0.Held p1.Addr.toNat) + p1.A)), .bool true]) (rlm (cs := [.int .i64 p0.Actor, .int .i64 p1.Kind, .int .i64 p1.Addr, .int .i64 p1.A, .int .i64 (wi ((at_ p0.Held p1.Addr.toNat) + p1.A)), .bool true]) rfl (by kernel_rfl) (by kernel_rfl) (by kernel_rfl) ⟨(h.pick 2).cell 0 rfl, (h.pick 2).cell 1 rfl, (h.pick 2).cell 2 rfl, (h.pick 2).cell 3 rfl, (h.pick 2).cell 4 rfl, (h.pick 2).cell 5 rfl, trivial⟩) ?_; clear hr a; intro a hr
          have hn64 := h.row_n
          replace h : Fit z (sepL (ro2 ca1 cc2 (p0.Held.set p1.Addr.toNat (wi ((at_ p0.Held p1.Addr.toNat) + p1.A))) :: pts b34 (.cells #[.int .i64 (wi ((at_ p0.Held p1.Addr.toNat) + p1.A)), .bool true, .int .i64 0] 39) :: pts b33 (.cells #[.int .i64 p0.Actor, .int .i64 p1.Kind, .int .i64 p1.Addr, .int .i64 p1.A, .int .i64 (wi ((at_ p0.Held p1.Addr.toNat) + p1.A)), .bool true] 90) :: pts B0 (.cells #[.int .i64 p0.Most, .slice ca1 ((p0.Held.set p1.Addr.toNat (wi ((at_ p0.Held p1.Addr.toNat) + p1.A))).length) cc2, .bool p0.On, .int .i64 p0.Actor, .slice ca3 p0.Book.length cc4] 62) :: ro90 ca3 cc4 p0.Book :: ob57 b5 p1 :: pts b6 (.cells #[.int .i64 0, .bool false, .int .i64 0] 39) :: L)) w := (congrArg (fun q_ : Nat => Fit z (sepL (rowOf 2 1 encZ_i64 (.slice ca1 q_ cc2) (p0.Held.set p1.Addr.toNat (wi ((at_ p0.Held p1.Addr.toNat) + p1.A))) :: pts b34 (.cells #[.int .i64 (wi ((at_ p0.Held p1.Addr.toNat) + p1.A)), .bool true, .int .i64 0] 39) :: pts b33 (.cells #[.int .i64 p0.Actor, .int .i64 p1.Kind, .int .i64 p1.Addr, .int .i64 p1.A, .int .i64 (wi ((at_ p0.Held p1.Addr.toNat) + p1.A)), .bool true] 90) :: pts B0 (.cells #[.int .i64 p0.Most, .slice ca1 q_ cc2, .bool p0.On, .int .i64 p0.Actor, .slice ca3 p0.Book.length cc4] 62) :: ro90 ca3 cc4 p0.Book :: ob57 b5 p1 :: pts b6 (.cells #[.int .i64 0, .bool false, .int .i64 0] 39) :: L)) w) h.row_n).mp h
          replace H := bd1 H; obtain ⟨S66, e67, H⟩ := H
          replace h : Fit z (sepL (pts B0 (.cells #[.int .i64 p0.Most, .slice ca1 ((p0.Held.set p1.Addr.toNat (wi ((at_ p0.Held p1.Addr.toNat) + p1.A))).length) cc2, .bool p0.On, .int .i64 p0.Actor, .slice ca3 p0.Book.length cc4] 62) :: ro2 ca1 cc2 (p0.Held.set p1.Addr.toNat (wi ((at_ p0.Held p1.Addr.toNat) + p1.A))) :: ro90 ca3 cc4 p0.Book :: pts b34 (.cells #[.int .i64 (wi ((at_ p0.Held p1.Addr.toNat) + p1.A)), .bool true, .int .i64 0] 39) :: pts b33 (.cells #[.int .i64 p0.Actor, .int .i64 p1.Kind, .int .i64 p1.Addr, .int .i64 p1.A, .int .i64 (wi ((at_ p0.Held p1.Addr.toNat) + p1.A)), .bool true] 90) :: ob57 b5 p1 :: pts b6 (.cells #[.int .i64 0, .bool false, .int .i64 0] 39) :: L)) _ := h.sel 7 [3, 0, 4, 1, 2, 5, 6] (by kernel_rfl) (by kernel_rfl)
          have hc := plunderref2_Arena_note_ok (H := e67) (h := h)
          refine op_call (wn rfl) rfl rfl hr (f := 80) (args := #[.pointer (some ⟨B0, 0, none⟩), .agg #[.int .i64 p0.Actor, .int .i64 p1.Kind, .int .i64 p1.Addr, .int .i64 p1.A, .int .i64 (wi ((at_ p0.Held p1.Addr.toNat) + p1.A)), .bool true]]) (by kernel_rfl) hc ?_; clear hc h
          rintro _ w ⟨caq68, ccq69, caq70, ccq71, rfl, h⟩; refine ⟨_, rfl, ?_⟩
          clear hr a; intro a hr
          refine wpList_nil ?_
          refine then_normal ?_
          refine wp_seq ?_
          refine wp_region_lit ?_
          refine op_val (wn rfl) rfl rfl hr (v := .agg #[.int .i64 (wi ((at_ p0.Held p1.Addr.toNat) + p1.A)), .bool true, .int .i64 0]) (rlm (cs := [.int .i64 (wi ((at_ p0.Held p1.Addr.toNat) + p1.A)), .bool true, .int .i64 0]) rfl (by kernel_rfl) (by kernel_rfl) (by kernel_rfl) ⟨(h.pick 3).cell 0 rfl, (h.pick 3).cell 1 rfl, (h.pick 3).cell 2 rfl, trivial⟩) ?_; clear hr a; intro a hr
          replace h : Fit z (sepL (pts b6 (.cells #[.int .i64 0, .bool false, .int .i64 0] 39) :: ob62 B0 S66 caq68 ccq69 caq70 ccq71 :: ro2 caq68 ccq69 S66.Held :: ro90 caq70 ccq71 S66.Book :: pts b34 (.cells #[.int .i64 (wi ((at_ p0.Held p1.Addr.toNat) + p1.A)), .bool true, .int .i64 0] 39) :: pts b33 (.cells #[.int .i64 p0.Actor, .int .i64 p1.Kind, .int .i64 p1.Addr, .int .i64 p1.A, .int .i64 (wi ((at_ p0.Held p1.Addr.toNat) + p1.A)), .bool true] 90) :: ob57 b5 p1 :: L)) _ := h.sel 7 [6, 0, 1, 2, 3, 4, 5] (by kernel_rfl) (by kernel_rfl)
          refine op_stores (wn rfl) rfl hr rfl (by kernel_rfl) (by kernel_rfl) (vs := [.int .i64 (wi ((at_ p0.Held p1.Addr.toNat) + p1.A)), .bool true, .int .i64 0]) rfl rfl (by kernel_rfl) h (i := 0) (cs' := #[.int .i64 (wi ((at_ p0.Held p1.Addr.toNat) + p1.A)), .bool true, .int .i64 0]) rfl ?_; clear h; intro w h
          refine wpList_nil ?_
          replace h : Fit z (sepL (pts b6 (.cells #[.int .i64 (wi ((at_ p0.Held p1.Addr.toNat) + p1.A)), .bool true, .int .i64 0] 39) :: ob62 B0 S66 caq68 ccq69 caq70 ccq71 :: ro2 caq68 ccq69 S66.Held :: ro90 caq70 ccq71 S66.Book :: pts b34 (.cells #[.int .i64 (wi ((at_ p0.Held p1.Addr.toNat) + p1.A)), .bool true, .int .i64 0] 39) :: pts b33 (.cells #[.int .i64 p0.Actor, .int .i64 p1.Kind, .int .i64 p1.Addr, .int .i64 p1.A, .int .i64 (wi ((at_ p0.Held p1.Addr.toNat) + p1.A)), .bool true] 90) :: ob57 b5 p1 :: L)) _ := h
          refine then_normal ?_
          refine wp_ret ?_
          refine end_retC (cs := [.int .i64 (wi ((at_ p0.Held p1.Addr.toNat) + p1.A)), .bool true, .int .i64 0]) rfl hr (by kernel_rfl) (by kernel_rfl) (by kernel_rfl) ⟨h.cell 0 rfl, h.cell 1 rfl, h.cell 2 rfl, trivial⟩ ?_
          replace h : Fit z (sepL (ob62 B0 S66 caq68 ccq69 caq70 ccq71 :: ro2 caq68 ccq69 S66.Held :: ro90 caq70 ccq71 S66.Book :: L)) _ := h.sel 7 [1, 2, 3] (by kernel_rfl) (by kernel_rfl)
          replace H := ej2 H; obtain ⟨rfl, rfl⟩ := H
          exact ⟨caq68, ccq69, caq70, ccq71, rfl, h⟩

/-- (*plunder/cells.Arena).Watch -/
def cells_Arena_Watch (p0 : T_cells_Arena) (p1 : Bool) : Option (T_cells_Arena) :=
  some ({ p0 with watched := p1 })
set_option maxRecDepth 100000 in
set_option maxHeartbeats 4000000 in
theorem cells_Arena_Watch_ok {z w : World} {L : List HProp} {p0 : T_cells_Arena} {p1 : Bool} {B0 : Nat} {ca1 : Option Addr} {cc2 : Nat} {ca3 : Option Addr} {cc4 : Nat} {q0 : T_cells_Arena} (H : cells_Arena_Watch p0 p1 = some q0) (h : Fit z (sepL (ob96 B0 p0 ca1 cc2 ca3 cc4 :: ro2 ca1 cc2 p0.cell :: ro90 ca3 cc4 p0.log :: L)) w)  :
    Calls Try.prog 88 #[.pointer (some ⟨B0, 0, none⟩), .bool p1] w fun e w => ∃ caq0_1 : Option Addr, ∃ ccq0_2 : Nat, ∃ caq0_3 : Option Addr, ∃ ccq0_4 : Nat, e = .returned (.tuple #[]) ∧ Fit z (sepL (ob96 B0 q0 caq0_1 ccq0_2 caq0_3 ccq0_4 :: ro2 caq0_1 ccq0_2 q0.cell :: ro90 caq0_3 ccq0_4 q0.log :: L)) w := by
  unfold cells_Arena_Watch at H
  refine enter Try.func88 rfl 10 rfl rfl [(0, .pointer (some ⟨B0, 0, none⟩)), (1, .bool p1)] ⟨rfl, rfl, trivial⟩ ?_
  intro j a hr
  refine wp_seq ?_
  refine wp_region_lit ?_
  refine ovs [4, 5] [.pointer (some ⟨B0, 0, none⟩), .bool true] hr ⟨rfl, rfl⟩ (by kernel_rfl) ?_; clear hr a; intro a hr
  refine wpList_nil ?_
  refine then_normal ?_
  refine cond_tt hr (b := true) rfl ?_
  refine wp_region_lit ?_
  refine ovs [6, 7, 8, 9] [.pointer (some ⟨B0, 0, none⟩), .bool p1, .pointer (some ⟨B0, 0, none⟩), .pointer (some ⟨B0, 5, none⟩)] hr ⟨rfl, rfl⟩ (by kernel_rfl) ?_; clear hr a; intro a hr
  refine op_store (wn rfl) rfl hr rfl (by kernel_rfl) (by kernel_rfl) (v := .bool p1) rfl rfl (by kernel_rfl) h (i := 5) rfl ?_; clear h; intro w h
  refine wpList_nil ?_
  replace h : Fit z (sepL (pts B0 (.cells #[.int .i64 p0.ledger_size, .int .i64 p0.ledger_mark, .slice ca1 p0.cell.length cc2, .slice ca3 p0.log.length cc4, .int .i64 p0.actor, .bool p1] 96) :: ro2 ca1 cc2 p0.cell :: ro90 ca3 cc4 p0.log :: L)) _ := h
  refine end_norm0 rfl hr ?_
  replace H := ej1 H; subst H
  exact ⟨ca1, cc2, ca3, cc4, rfl, h⟩

/-- (*plunder/cells.Arena).Who -/
def cells_Arena_Who (p0 : T_cells_Arena) (p1 : Int) : Option (T_cells_Arena) :=
  some ({ p0 with actor := p1 })
set_option maxRecDepth 100000 in
set_option maxHeartbeats 4000000 in
theorem cells_Arena_Who_ok {z w : World} {L : List HProp} {p0 : T_cells_Arena} {p1 : Int} {B0 : Nat} {ca1 : Option Addr} {cc2 : Nat} {ca3 : Option Addr} {cc4 : Nat} {q0 : T_cells_Arena} (H : cells_Arena_Who p0 p1 = some q0) (h : Fit z (sepL (ob96 B0 p0 ca1 cc2 ca3 cc4 :: ro2 ca1 cc2 p0.cell :: ro90 ca3 cc4 p0.log :: L)) w)  :
    Calls Try.prog 96 #[.pointer (some ⟨B0, 0, none⟩), .int .i64 p1] w fun e w => ∃ caq0_1 : Option Addr, ∃ ccq0_2 : Nat, ∃ caq0_3 : Option Addr, ∃ ccq0_4 : Nat, e = .returned (.tuple #[]) ∧ Fit z (sepL (ob96 B0 q0 caq0_1 ccq0_2 caq0_3 ccq0_4 :: ro2 caq0_1 ccq0_2 q0.cell :: ro90 caq0_3 ccq0_4 q0.log :: L)) w := by
  unfold cells_Arena_Who at H
  refine enter Try.func96 rfl 10 rfl rfl [(0, .pointer (some ⟨B0, 0, none⟩)), (1, .int .i64 p1)] ⟨rfl, rfl, trivial⟩ ?_
  intro j a hr
  refine wp_seq ?_
  refine wp_region_lit ?_
  refine ovs [4, 5] [.pointer (some ⟨B0, 0, none⟩), .bool true] hr ⟨rfl, rfl⟩ (by kernel_rfl) ?_; clear hr a; intro a hr
  refine wpList_nil ?_
  refine then_normal ?_
  refine cond_tt hr (b := true) rfl ?_
  refine wp_region_lit ?_
  refine ovs [6, 7, 8, 9] [.pointer (some ⟨B0, 0, none⟩), .int .i64 p1, .pointer (some ⟨B0, 0, none⟩), .pointer (some ⟨B0, 4, none⟩)] hr ⟨rfl, rfl⟩ (by kernel_rfl) ?_; clear hr a; intro a hr
  refine op_store (wn rfl) rfl hr rfl (by kernel_rfl) (by kernel_rfl) (v := .int .i64 p1) rfl rfl (by kernel_rfl) h (i := 4) rfl ?_; clear h; intro w h
  refine wpList_nil ?_
  replace h : Fit z (sepL (pts B0 (.cells #[.int .i64 p0.ledger_size, .int .i64 p0.ledger_mark, .slice ca1 p0.cell.length cc2, .slice ca3 p0.log.length cc4, .int .i64 p1, .bool p0.watched] 96) :: ro2 ca1 cc2 p0.cell :: ro90 ca3 cc4 p0.log :: L)) _ := h
  refine end_norm0 rfl hr ?_
  replace H := ej1 H; subst H
  exact ⟨ca1, cc2, ca3, cc4, rfl, h⟩

/-- (*plunder/cells.ledger).Size -/
def cells_ledger_Size (p0 : T_cells_Arena) : Option (Int) :=
  some p0.ledger_size
set_option maxRecDepth 100000 in
set_option maxHeartbeats 4000000 in
theorem cells_ledger_Size_ok {z w : World} {L : List HProp} {p0 : T_cells_Arena} {B0 : Nat} {ca1 : Option Addr} {cc2 : Nat} {ca3 : Option Addr} {cc4 : Nat} {r0 : Int} (H : cells_ledger_Size p0 = some r0) (h : Fit z (sepL (ob96 B0 p0 ca1 cc2 ca3 cc4 :: ro2 ca1 cc2 p0.cell :: ro90 ca3 cc4 p0.log :: L)) w)  :
    Calls Try.prog 81 #[.pointer (some ⟨B0, 0, none⟩)] w fun e w => e = .returned (.int .i64 r0) ∧ Fit z (sepL (ob96 B0 p0 ca1 cc2 ca3 cc4 :: ro2 ca1 cc2 p0.cell :: ro90 ca3 cc4 p0.log :: L)) w := by
  unfold cells_ledger_Size at H
  refine enter Try.func81 rfl 9 rfl rfl [(0, .pointer (some ⟨B0, 0, none⟩))] ⟨rfl, trivial⟩ ?_
  intro j a hr
  refine wp_seq ?_
  refine wp_region_lit ?_
  refine ov hr (.int .i64 0) (by kernel_rfl) ?_; clear hr a; intro a hr
  refine wpList_nil ?_
  refine then_normal ?_
  refine wp_seq ?_
  refine wp_seq ?_
  refine wp_region_lit ?_
  refine ovs [3, 4] [.pointer (some ⟨B0, 0, none⟩), .bool false] hr ⟨rfl, rfl⟩ (by kernel_rfl) ?_; clear hr a; intro a hr
  refine wpList_nil ?_
  refine then_normal ?_
  refine cond_ff hr (b := false) rfl ?_
  refine wp_skip ?_
  refine then_normal ?_
  refine wp_seq ?_
  refine wp_region_lit ?_
  refine ovs [5, 6, 7] [.pointer (some ⟨B0, 0, none⟩), .pointer (some ⟨B0, 0, none⟩), .pointer (some ⟨B0, 0, none⟩)] hr ⟨rfl, rfl⟩ (by kernel_rfl) ?_; clear hr a; intro a hr
  refine op_val (wn rfl) rfl rfl hr (v := .int .i64 p0.ledger_size) (rl rfl (by kernel_rfl) (by kernel_rfl) (h.cell 0 rfl)) ?_; clear hr a; intro a hr
  refine ov hr (.int .i64 p0.ledger_size) (by kernel_rfl) ?_; clear hr a; intro a hr
  refine wpList_nil ?_
  refine then_normal ?_
  refine wp_ret ?_
  refine end_ret1 (v := .int .i64 p0.ledger_size) rfl hr (by kernel_rfl) ?_
  replace H := ej1 H; subst H
  exact ⟨rfl, h⟩

/-- (*plunder/cells.Arena).Size -/
def cells_Arena_Size (p0 : T_cells_Arena) : Option (Int) :=
  ob1 (cells_ledger_Size p0) (fun r5 => some r5)
set_option maxRecDepth 100000 in
set_option maxHeartbeats 4000000 in
theorem cells_Arena_Size_ok {z w : World} {L : List HProp} {p0 : T_cells_Arena} {B0 : Nat} {ca1 : Option Addr} {cc2 : Nat} {ca3 : Option Addr} {cc4 : Nat} {r0 : Int} (H : cells_Arena_Size p0 = some r0) (h : Fit z (sepL (ob96 B0 p0 ca1 cc2 ca3 cc4 :: ro2 ca1 cc2 p0.cell :: ro90 ca3 cc4 p0.log :: L)) w)  :
    Calls Try.prog 97 #[.pointer (some ⟨B0, 0, none⟩)] w fun e w => e = .returned (.int .i64 r0) ∧ Fit z (sepL (ob96 B0 p0 ca1 cc2 ca3 cc4 :: ro2 ca1 cc2 p0.cell :: ro90 ca3 cc4 p0.log :: L)) w := by
  unfold cells_Arena_Size at H
  refine enter Try.func97 rfl 9 rfl rfl [(0, .pointer (some ⟨B0, 0, none⟩))] ⟨rfl, trivial⟩ ?_
  intro j a hr
  refine wp_seq ?_
  refine wp_region_lit ?_
  refine ov hr (.int .i64 0) (by kernel_rfl) ?_; clear hr a; intro a hr
  refine wpList_nil ?_
  refine then_normal ?_
  refine wp_seq ?_
  refine wp_seq ?_
  refine wp_region_lit ?_
  refine ovs [3, 4] [.pointer (some ⟨B0, 0, none⟩), .bool false] hr ⟨rfl, rfl⟩ (by kernel_rfl) ?_; clear hr a; intro a hr
  refine wpList_nil ?_
  refine then_normal ?_
  refine cond_ff hr (b := false) rfl ?_
  refine wp_skip ?_
  refine then_normal ?_
  refine wp_seq ?_
  refine wp_region_lit ?_
  replace H := bd1 H; obtain ⟨r5, e6, H⟩ := H
  refine ovs [5, 6, 7] [.pointer (some ⟨B0, 0, none⟩), .pointer (some ⟨B0, 0, none⟩), .pointer (some ⟨B0, 0, none⟩)] hr ⟨rfl, rfl⟩ (by kernel_rfl) ?_; clear hr a; intro a hr
  have hc := cells_ledger_Size_ok (H := e6) (h := h)
  refine op_call (wn rfl) rfl rfl hr (f := 81) (args := #[.pointer (some ⟨B0, 0, none⟩)]) (by kernel_rfl) hc ?_; clear hc h
  rintro _ w ⟨rfl, h⟩; refine ⟨_, rfl, ?_⟩
  clear hr a; intro a hr
  refine ov hr (.int .i64 r5) (by kernel_rfl) ?_; clear hr a; intro a hr
  refine wpList_nil ?_
  refine then_normal ?_
  refine wp_ret ?_
  refine end_ret1 (v := .int .i64 r5) rfl hr (by kernel_rfl) ?_
  replace H := ej1 H; subst H
  exact ⟨rfl, h⟩

/-- (*plunder/cells.ledger).Mark -/
def cells_ledger_Mark (p0 : T_cells_Arena) : Option (Int) :=
  some p0.ledger_mark
set_option maxRecDepth 100000 in
set_option maxHeartbeats 4000000 in
theorem cells_ledger_Mark_ok {z w : World} {L : List HProp} {p0 : T_cells_Arena} {B0 : Nat} {ca1 : Option Addr} {cc2 : Nat} {ca3 : Option Addr} {cc4 : Nat} {r0 : Int} (H : cells_ledger_Mark p0 = some r0) (h : Fit z (sepL (ob96 B0 p0 ca1 cc2 ca3 cc4 :: ro2 ca1 cc2 p0.cell :: ro90 ca3 cc4 p0.log :: L)) w)  :
    Calls Try.prog 84 #[.pointer (some ⟨B0, 0, none⟩)] w fun e w => e = .returned (.int .i64 r0) ∧ Fit z (sepL (ob96 B0 p0 ca1 cc2 ca3 cc4 :: ro2 ca1 cc2 p0.cell :: ro90 ca3 cc4 p0.log :: L)) w := by
  unfold cells_ledger_Mark at H
  refine enter Try.func84 rfl 9 rfl rfl [(0, .pointer (some ⟨B0, 0, none⟩))] ⟨rfl, trivial⟩ ?_
  intro j a hr
  refine wp_seq ?_
  refine wp_region_lit ?_
  refine ov hr (.int .i64 0) (by kernel_rfl) ?_; clear hr a; intro a hr
  refine wpList_nil ?_
  refine then_normal ?_
  refine wp_seq ?_
  refine wp_seq ?_
  refine wp_region_lit ?_
  refine ovs [3, 4] [.pointer (some ⟨B0, 0, none⟩), .bool false] hr ⟨rfl, rfl⟩ (by kernel_rfl) ?_; clear hr a; intro a hr
  refine wpList_nil ?_
  refine then_normal ?_
  refine cond_ff hr (b := false) rfl ?_
  refine wp_skip ?_
  refine then_normal ?_
  refine wp_seq ?_
  refine wp_region_lit ?_
  refine ovs [5, 6, 7] [.pointer (some ⟨B0, 0, none⟩), .pointer (some ⟨B0, 0, none⟩), .pointer (some ⟨B0, 1, none⟩)] hr ⟨rfl, rfl⟩ (by kernel_rfl) ?_; clear hr a; intro a hr
  refine op_val (wn rfl) rfl rfl hr (v := .int .i64 p0.ledger_mark) (rl rfl (by kernel_rfl) (by kernel_rfl) (h.cell 1 rfl)) ?_; clear hr a; intro a hr
  refine ov hr (.int .i64 p0.ledger_mark) (by kernel_rfl) ?_; clear hr a; intro a hr
  refine wpList_nil ?_
  refine then_normal ?_
  refine wp_ret ?_
  refine end_ret1 (v := .int .i64 p0.ledger_mark) rfl hr (by kernel_rfl) ?_
  replace H := ej1 H; subst H
  exact ⟨rfl, h⟩

/-- (*plunder/cells.Arena).Mark -/
def cells_Arena_Mark (p0 : T_cells_Arena) : Option (Int) :=
  ob1 (cells_ledger_Mark p0) (fun r5 => some r5)
set_option maxRecDepth 100000 in
set_option maxHeartbeats 4000000 in
theorem cells_Arena_Mark_ok {z w : World} {L : List HProp} {p0 : T_cells_Arena} {B0 : Nat} {ca1 : Option Addr} {cc2 : Nat} {ca3 : Option Addr} {cc4 : Nat} {r0 : Int} (H : cells_Arena_Mark p0 = some r0) (h : Fit z (sepL (ob96 B0 p0 ca1 cc2 ca3 cc4 :: ro2 ca1 cc2 p0.cell :: ro90 ca3 cc4 p0.log :: L)) w)  :
    Calls Try.prog 98 #[.pointer (some ⟨B0, 0, none⟩)] w fun e w => e = .returned (.int .i64 r0) ∧ Fit z (sepL (ob96 B0 p0 ca1 cc2 ca3 cc4 :: ro2 ca1 cc2 p0.cell :: ro90 ca3 cc4 p0.log :: L)) w := by
  unfold cells_Arena_Mark at H
  refine enter Try.func98 rfl 9 rfl rfl [(0, .pointer (some ⟨B0, 0, none⟩))] ⟨rfl, trivial⟩ ?_
  intro j a hr
  refine wp_seq ?_
  refine wp_region_lit ?_
  refine ov hr (.int .i64 0) (by kernel_rfl) ?_; clear hr a; intro a hr
  refine wpList_nil ?_
  refine then_normal ?_
  refine wp_seq ?_
  refine wp_seq ?_
  refine wp_region_lit ?_
  refine ovs [3, 4] [.pointer (some ⟨B0, 0, none⟩), .bool false] hr ⟨rfl, rfl⟩ (by kernel_rfl) ?_; clear hr a; intro a hr
  refine wpList_nil ?_
  refine then_normal ?_
  refine cond_ff hr (b := false) rfl ?_
  refine wp_skip ?_
  refine then_normal ?_
  refine wp_seq ?_
  refine wp_region_lit ?_
  replace H := bd1 H; obtain ⟨r5, e6, H⟩ := H
  refine ovs [5, 6, 7] [.pointer (some ⟨B0, 0, none⟩), .pointer (some ⟨B0, 0, none⟩), .pointer (some ⟨B0, 0, none⟩)] hr ⟨rfl, rfl⟩ (by kernel_rfl) ?_; clear hr a; intro a hr
  have hc := cells_ledger_Mark_ok (H := e6) (h := h)
  refine op_call (wn rfl) rfl rfl hr (f := 84) (args := #[.pointer (some ⟨B0, 0, none⟩)]) (by kernel_rfl) hc ?_; clear hc h
  rintro _ w ⟨rfl, h⟩; refine ⟨_, rfl, ?_⟩
  clear hr a; intro a hr
  refine ov hr (.int .i64 r5) (by kernel_rfl) ?_; clear hr a; intro a hr
  refine wpList_nil ?_
  refine then_normal ?_
  refine wp_ret ?_
  refine end_ret1 (v := .int .i64 r5) rfl hr (by kernel_rfl) ?_
  replace H := ej1 H; subst H
  exact ⟨rfl, h⟩

/-- (*plunder/cells.Arena).Cells -/
def cells_Arena_Cells (p0 : T_cells_Arena) : Option ((List Int)) :=
  if 0 ≤ ((p0.cell.length : Nat) : Int) ∧ ((p0.cell.length : Nat) : Int) * 8 ≤ 140737488355328 then if p0.cell.length = (List.replicate p0.cell.length (0 : Int)).length then some p0.cell else none else none
set_option maxRecDepth 100000 in
set_option maxHeartbeats 4000000 in
theorem cells_Arena_Cells_ok {z w : World} {L : List HProp} {p0 : T_cells_Arena} {B0 : Nat} {ca1 : Option Addr} {cc2 : Nat} {ca3 : Option Addr} {cc4 : Nat} {r0 : List Int} (H : cells_Arena_Cells p0 = some r0) (h : Fit z (sepL (ob96 B0 p0 ca1 cc2 ca3 cc4 :: ro2 ca1 cc2 p0.cell :: ro90 ca3 cc4 p0.log :: L)) w)  :
    Calls Try.prog 24 #[.pointer (some ⟨B0, 0, none⟩)] w fun e w => ∃ car0_1 : Option Addr, e = .returned (.slice car0_1 r0.length r0.length) ∧ Fit z (sepL (ob96 B0 p0 ca1 cc2 ca3 cc4 :: ro2 ca1 cc2 p0.cell :: ro90 ca3 cc4 p0.log :: ro2 car0_1 r0.length r0 :: L)) w := by
  unfold cells_Arena_Cells at H
  refine enter Try.func24 rfl 19 rfl rfl [(0, .pointer (some ⟨B0, 0, none⟩))] ⟨rfl, trivial⟩ ?_
  intro j a hr
  refine wp_seq ?_
  refine wp_region_lit ?_
  refine ov hr (.slice none 0 0) (by kernel_rfl) ?_; clear hr a; intro a hr
  refine wpList_nil ?_
  refine then_normal ?_
  refine wp_seq ?_
  refine wp_seq ?_
  refine wp_region_lit ?_
  refine ovs [4, 5] [.pointer (some ⟨B0, 0, none⟩), .bool false] hr ⟨rfl, rfl⟩ (by kernel_rfl) ?_; clear hr a; intro a hr
  refine wpList_nil ?_
  refine then_normal ?_
  refine cond_ff hr (b := false) rfl ?_
  refine wp_skip ?_
  refine then_normal ?_
  refine wp_seq ?_
  refine wp_region_lit ?_
  refine ovs [6, 7, 8] [.pointer (some ⟨B0, 0, none⟩), .pointer (some ⟨B0, 0, none⟩), .pointer (some ⟨B0, 2, none⟩)] hr ⟨rfl, rfl⟩ (by kernel_rfl) ?_; clear hr a; intro a hr
  refine op_val (wn rfl) rfl rfl hr (v := .slice ca1 p0.cell.length cc2) (rl rfl (by kernel_rfl) (by kernel_rfl) (h.cell 2 rfl)) ?_; clear hr a; intro a hr
  replace H := gd H; obtain ⟨c5, H⟩ := H
  refine ov hr (.int .i64 ((p0.cell.length : Nat) : Int)) (by kernel_rfl) ?_; clear hr a; intro a hr
  refine op_make_row (i := ((p0.cell.length : Nat) : Int)) (bytes := 8) (zc := #[.int .i64 0]) (0 : Int) (wn rfl) rfl rfl hr rfl (by kernel_rfl) (by kernel_rfl) c5 encZ_i64_ok (E := 2) (by kernel_rfl) (by kernel_rfl) rfl rfl h ?_; clear h hr a; intro ca6 w a h hr
  refine ov hr (.slice ca6 ((List.replicate p0.cell.length (0 : Int)).length) p0.cell.length) (by kernel_rfl) ?_; clear hr a; intro a hr
  refine wpList_nil ?_
  replace h : Fit z (sepL (ro2 ca6 p0.cell.length (List.replicate p0.cell.length (0 : Int)) :: ob96 B0 p0 ca1 cc2 ca3 cc4 :: ro2 ca1 cc2 p0.cell :: ro90 ca3 cc4 p0.log :: L)) _ := h
  refine then_normal ?_
  refine wp_seq ?_
  refine wp_region_lit ?_
  refine ovs [12, 13, 14, 15] [.slice ca6 ((List.replicate p0.cell.length (0 : Int)).length) p0.cell.length, .pointer (some ⟨B0, 0, none⟩), .pointer (some ⟨B0, 0, none⟩), .pointer (some ⟨B0, 2, none⟩)] hr ⟨rfl, rfl⟩ (by kernel_rfl) ?_; clear hr a; intro a hr
  refine op_val (wn rfl) rfl rfl hr (v := .slice ca1 p0.cell.length cc2) (rl rfl (by kernel_rfl) (by kernel_rfl) ((h.pick 1).cell 2 rfl)) ?_; clear hr a; intro a hr
  replace H := gd H; obtain ⟨c7, H⟩ := H
  replace h : Fit z (sepL (ro2 ca6 p0.cell.length (List.replicate p0.cell.length (0 : Int)) :: ro2 ca1 cc2 p0.cell :: ob96 B0 p0 ca1 cc2 ca3 cc4 :: ro90 ca3 cc4 p0.log :: L)) _ := h.sel 4 [0, 2, 1, 3] (by kernel_rfl) (by kernel_rfl)
  refine op_copy_row (wn rfl) rfl rfl hr rfl (by kernel_rfl) (by kernel_rfl) encZ_i64_ok (E := 2) (by kernel_rfl) (by kernel_rfl) c7 h ?_; clear h hr a; intro w a h hr
  refine wpList_nil ?_
  replace h : Fit z (sepL (rowOf 2 1 encZ_i64 (.slice ca6 ((List.replicate p0.cell.length (0 : Int)).length) p0.cell.length) p0.cell :: ro2 ca1 cc2 p0.cell :: ob96 B0 p0 ca1 cc2 ca3 cc4 :: ro90 ca3 cc4 p0.log :: L)) _ := h
  refine then_normal ?_
  refine wp_seq ?_
  refine wp_region_lit ?_
  refine ovs [18, 2] [.slice ca6 ((List.replicate p0.cell.length (0 : Int)).length) p0.cell.length, .slice ca6 ((List.replicate p0.cell.length (0 : Int)).length) p0.cell.length] hr ⟨rfl, rfl⟩ (by kernel_rfl) ?_; clear hr a; intro a hr
  refine wpList_nil ?_
  refine then_normal ?_
  refine wp_ret ?_
  refine end_ret1 (v := .slice ca6 ((List.replicate p0.cell.length (0 : Int)).length) p0.cell.length) rfl hr (by kernel_rfl) ?_
  have hn7 := h.row_n
  replace h : Fit z (sepL (ro2 ca6 p0.cell.length p0.cell :: ro2 ca1 cc2 p0.cell :: ob96 B0 p0 ca1 cc2 ca3 cc4 :: ro90 ca3 cc4 p0.log :: L)) w := (congrArg (fun q_ : Nat => Fit z (sepL (rowOf 2 1 encZ_i64 (.slice ca6 q_ p0.cell.length) p0.cell :: ro2 ca1 cc2 p0.cell :: ob96 B0 p0 ca1 cc2 ca3 cc4 :: ro90 ca3 cc4 p0.log :: L)) w) h.row_n).mp h
  replace h : Fit z (sepL (ob96 B0 p0 ca1 cc2 ca3 cc4 :: ro2 ca1 cc2 p0.cell :: ro90 ca3 cc4 p0.log :: ro2 ca6 p0.cell.length p0.cell :: L)) _ := h.sel 4 [2, 1, 3, 0] (by kernel_rfl) (by kernel_rfl)
  replace H := ej1 H; subst H
  exact ⟨ca6, (by simp only [hn7]), h⟩

def plunderlaw2_sameNumbers_l1 (K : Nat) (p0 : List Int) (p1 : List Int) : Nat → Int → Option (Bool)
  | 0, _ => none
  | k1 + 1, g2 => (if g2 < ((p0.length : Nat) : Int) then if inr_ g2 p0.length then if inr_ g2 p1.length then (if (at_ p0 g2.toNat) = (at_ p1 g2.toNat) then (plunderlaw2_sameNumbers_l1 K p0 p1 k1 (wi (g2 + (1 : Int)))) else some false) else none else none else some true)
/-- plunder/plunderlaw2.sameNumbers -/
def plunderlaw2_sameNumbers (K : Nat) (p0 : List Int) (p1 : List Int) : Option (Bool) :=
  (if ((p0.length : Nat) : Int) = ((p1.length : Nat) : Int) then (plunderlaw2_sameNumbers_l1 K p0 p1 K 0) else some false)
set_option maxRecDepth 100000 in
set_option maxHeartbeats 4000000 in
theorem plunderlaw2_sameNumbers_ok {z w : World} {L : List HProp} {K : Nat} {p0 : List Int} {p1 : List Int} {va0 : Option Addr} {vc0 : Nat} {va1 : Option Addr} {vc1 : Nat} {r0 : Bool} (H : plunderlaw2_sameNumbers K p0 p1 = some r0) (h : Fit z (sepL (L)) w) (hv0 : RdRow L 1 encZ_i64 va0 p0) (hv1 : RdRow L 1 encZ_i64 va1 p1) :
    Calls Try.prog 40 #[.slice va0 p0.length vc0, .slice va1 p1.length vc1] w fun e w => e = .returned (.bool r0) ∧ Fit z (sepL (L)) w := by
  unfold plunderlaw2_sameNumbers at H
  refine enter Try.func40 rfl 26 rfl rfl [(0, .slice va0 p0.length vc0), (1, .slice va1 p1.length vc1)] ⟨rfl, rfl, trivial⟩ ?_
  intro j a hr
  refine wp_seq ?_
  refine wp_region_lit ?_
  refine ov hr (.bool false) (by kernel_rfl) ?_; clear hr a; intro a hr
  refine wpList_nil ?_
  refine then_normal ?_
  refine wp_seq ?_
  refine wp_seq ?_
  refine wp_region_lit ?_
  refine ovs [6, 7, 8, 9, 10] [.slice va0 p0.length vc0, .int .i64 ((p0.length : Nat) : Int), .slice va1 p1.length vc1, .int .i64 ((p1.length : Nat) : Int), .bool (((p0.length : Nat) : Int) != ((p1.length : Nat) : Int))] hr ⟨rfl, rfl⟩ (by kernel_rfl) ?_; clear hr a; intro a hr
  refine wpList_nil ?_
  refine then_normal ?_
  by_cases c1 : ((p0.length : Nat) : Int) = ((p1.length : Nat) : Int)
  ·
    replace H := ifT c1 H
    refine cond_ff hr (b := (((p0.length : Nat) : Int) != ((p1.length : Nat) : Int))) (bne_eq_false_iff_eq.mpr c1) ?_
    refine wp_skip ?_
    refine then_normal ?_
    refine wp_seq ?_
    refine wp_seq ?_
    refine wp_region_lit ?_
    refine ov hr (.int .i64 0) (by kernel_rfl) ?_; clear hr a; intro a hr
    refine wpList_nil ?_
    refine then_normal ?_
    refine wp_block ?_
    replace hr := hr.fold2 [(0, .slice va0 p0.length vc0), (1, .slice va1 p1.length vc1), (5, .int .i64 0)] (by kernel_rfl); obtain ⟨j, hr⟩ := hr
    refine loop_rule (β := Nat) id (fun m a w => ∃ g2 : Int, (plunderlaw2_sameNumbers_l1 K p0 p1 m g2) = some r0 ∧ ∃ j, Rep 26 (lk [(0, .slice va0 p0.length vc0), (1, .slice va1 p1.length vc1), (5, .int .i64 g2)] j) a ∧ Fit z (sepL (L)) w) K ⟨0, H, j, hr, h⟩ ?_
    clear h hr a H; rintro k1 a w ⟨g2, H, j, hr, h⟩
    cases k1 with
    | zero => exact absurd H (by simp [plunderlaw2_sameNumbers_l1])
    | succ k1 =>
      rw [plunderlaw2_sameNumbers_l1] at H
      refine wp_seq ?_
      refine wp_seq ?_
      refine wp_region_lit ?_
      refine ovs [11, 12, 13, 14] [.int .i64 g2, .slice va0 p0.length vc0, .int .i64 ((p0.length : Nat) : Int), .bool (decide (g2 < ((p0.length : Nat) : Int)))] hr ⟨rfl, rfl⟩ (by kernel_rfl) ?_; clear hr a; intro a hr
      refine wpList_nil ?_
      refine then_normal ?_
      by_cases c3 : g2 < ((p0.length : Nat) : Int)
      ·
        replace H := ifT c3 H
        refine cond_tt hr (b := (decide (g2 < ((p0.length : Nat) : Int)))) (decide_eq_true c3) ?_
        refine wp_skip ?_
        refine then_normal ?_
        refine wp_seq ?_
        refine wp_block ?_
        refine wp_seq ?_
        replace H := gd H; obtain ⟨c4, H⟩ := H
        replace H := gd H; obtain ⟨c5, H⟩ := H
        refine reg_E (fun w => heldC w (blk va0) (offs va0 + g2.toNat * 1) [.int .i64 (at_ p0 g2.toNat)] ∧ heldC w (blk va1) (offs va1 + g2.toNat * 1) [.int .i64 (at_ p1 g2.toNat)] ∧ True) [2, 6] h (by kernel_rfl) ?_; intro w h
        change wpAnyE _ _ _ _ _ _ 9 (Array.replicate 9 false) a w
        have hgo : ∀ w w', CellsGo w w' → (heldC w (blk va0) (offs va0 + g2.toNat * 1) [.int .i64 (at_ p0 g2.toNat)] ∧ heldC w (blk va1) (offs va1 + g2.toNat * 1) [.int .i64 (at_ p1 g2.toNat)] ∧ True) → heldC w' (blk va0) (offs va0 + g2.toNat * 1) [.int .i64 (at_ p0 g2.toNat)] ∧ heldC w' (blk va1) (offs va1 + g2.toNat * 1) [.int .i64 (at_ p1 g2.toNat)] ∧ True := fun w w' g hD => ⟨heldC_go _ _ _ _ _ g hD.1, heldC_go _ _ _ _ _ g hD.2.1, trivial⟩
        refine ev 8 0 rfl (by kernel_rfl) (wn rfl) hr (.slice va0 p0.length vc0) (fun w => by kernel_rfl) ?_; clear hr a; intro a hr
        refine ev 7 1 rfl (by kernel_rfl) (wn rfl) hr (.int .i64 g2) (fun w => by kernel_rfl) ?_; clear hr a; intro a hr
        refine evD hgo ⟨⟨hv0.cell c4 (h.dn 0) 0 rfl, trivial⟩, ⟨hv1.cell c5 (h.dn 0) 0 rfl, trivial⟩, trivial⟩ 6 2 rfl (by kernel_rfl) (wn rfl) hr (.pointer (some ⟨blk va0, offs va0 + g2.toNat * 1, none⟩)) (fun w => ri_rd (k := .i64) (E := 2) (cc := vc0) rfl (by kernel_rfl) (by kernel_rfl) rfl (by kernel_rfl) (by kernel_rfl) hv0 c4) ?_; clear hr a; intro a hr
        refine ev 5 4 rfl (by kernel_rfl) (wn rfl) hr (.slice va1 p1.length vc1) (fun w => by kernel_rfl) ?_; clear hr a; intro a hr
        refine ev 4 5 rfl (by kernel_rfl) (wn rfl) hr (.int .i64 g2) (fun w => by kernel_rfl) ?_; clear hr a; intro a hr
        refine evD hgo ⟨⟨hv0.cell c4 (h.dn 0) 0 rfl, trivial⟩, ⟨hv1.cell c5 (h.dn 0) 0 rfl, trivial⟩, trivial⟩ 3 6 rfl (by kernel_rfl) (wn rfl) hr (.pointer (some ⟨blk va1, offs va1 + g2.toNat * 1, none⟩)) (fun w => ri_rd (k := .i64) (E := 2) (cc := vc1) rfl (by kernel_rfl) (by kernel_rfl) rfl (by kernel_rfl) (by kernel_rfl) hv1 c5) ?_; clear hr a; intro a hr
        refine el [2, 6] (b := blk va0) (off := offs va0 + g2.toNat * 1) (cs := [.int .i64 (at_ p0 g2.toNat)]) (fun _ hk => ⟨hk, fun w hD => hD.1⟩) 2 3 rfl (by kernel_rfl) (wn rfl) hr (.int .i64 (at_ p0 g2.toNat)) ⟨hv0.cell c4 (h.dn 0) 0 rfl, trivial⟩ (fun w hc => rl rfl (by kernel_rfl) (by kernel_rfl) hc.1) ?_; clear hr a; intro a hr
        refine el [2, 6] (b := blk va1) (off := offs va1 + g2.toNat * 1) (cs := [.int .i64 (at_ p1 g2.toNat)]) (fun _ hk => ⟨hk, fun w hD => hD.2.1⟩) 1 7 rfl (by kernel_rfl) (wn rfl) hr (.int .i64 (at_ p1 g2.toNat)) ⟨hv1.cell c5 (h.dn 0) 0 rfl, trivial⟩ (fun w hc => rl rfl (by kernel_rfl) (by kernel_rfl) hc.1) ?_; clear hr a; intro a hr
        refine ev 0 8 rfl (by kernel_rfl) (wn rfl) hr (.bool ((at_ p0 g2.toNat) != (at_ p1 g2.toNat))) (fun w => by kernel_rfl) ?_; clear hr a; intro a hr
        refine e_end (by kernel_rfl) ?_
        refine then_normal ?_
        by_cases c6 : (at_ p0 g2.toNat) = (at_ p1 g2.toNat)
        ·
          replace H := ifT c6 H
          refine cond_ff hr (b := ((at_ p0 g2.toNat) != (at_ p1 g2.toNat))) (bne_eq_false_iff_eq.mpr c6) ?_
          refine wp_skip ?_
          refine blk_normal ?_
          refine then_normal ?_
          refine wp_region_lit ?_
          refine ovs [15, 16, 5] [.int .i64 g2, .int .i64 (wi (g2 + (1 : Int))), .int .i64 (wi (g2 + (1 : Int)))] hr ⟨rfl, rfl⟩ (by kernel_rfl) ?_; clear hr a; intro a hr
          refine wpList_nil ?_
          refine then_normal ?_
          replace hr := hr.fold2 [(0, .slice va0 p0.length vc0), (1, .slice va1 p1.length vc1), (5, .int .i64 (wi (g2 + (1 : Int))))] (by kernel_rfl); obtain ⟨j, hr⟩ := hr
          exact ⟨_, ⟨(wi (g2 + (1 : Int))), H, j, hr, h⟩, Nat.lt_succ_self _⟩
        ·
          replace H := ifF c6 H
          refine cond_tt hr (b := ((at_ p0 g2.toNat) != (at_ p1 g2.toNat))) (bne_iff_ne.mpr c6) ?_
          refine wp_seq ?_
          refine wp_region_lit ?_
          refine ov hr (.bool false) (by kernel_rfl) ?_; clear hr a; intro a hr
          refine wpList_nil ?_
          refine then_normal ?_
          refine wp_ret ?_
          refine blk_ret ?_
          refine then_ret ?_
          refine then_ret ?_
          refine blk_ret ?_
          refine then_ret ?_
          refine end_ret1 (v := .bool false) rfl hr (by kernel_rfl) ?_
          replace H := ej1 H; subst H
          exact ⟨rfl, h⟩
      ·
        replace H := ifF c3 H
        refine cond_ff hr (b := (decide (g2 < ((p0.length : Nat) : Int)))) (decide_eq_false c3) ?_
        refine wp_exit ?_
        refine then_exit ?_
        refine then_exit ?_
        refine blk_here ?_
        refine then_normal ?_
        refine wp_seq ?_
        refine wp_region_lit ?_
        refine ov hr (.bool true) (by kernel_rfl) ?_; clear hr a; intro a hr
        refine wpList_nil ?_
        refine then_normal ?_
        refine wp_ret ?_
        refine end_ret1 (v := .bool true) rfl hr (by kernel_rfl) ?_
        replace H := ej1 H; subst H
        exact ⟨rfl, h⟩
  ·
    replace H := ifF c1 H
    refine cond_tt hr (b := (((p0.length : Nat) : Int) != ((p1.length : Nat) : Int))) (bne_iff_ne.mpr c1) ?_
    refine wp_seq ?_
    refine wp_region_lit ?_
    refine ov hr (.bool false) (by kernel_rfl) ?_; clear hr a; intro a hr
    refine wpList_nil ?_
    refine then_normal ?_
    refine wp_ret ?_
    refine then_ret ?_
    refine end_ret1 (v := .bool false) rfl hr (by kernel_rfl) ?_
    replace H := ej1 H; subst H
    exact ⟨rfl, h⟩

/-- (*plunder/plunderlaw2.book).mark -/
def plunderlaw2_book_mark (p0 : T_plunderlaw2_book) : Option (Int × T_plunderlaw2_book) :=
  some (wi ((wi ((1000003 : Int) * (wi (p0.next + (16 : Int))))) + (7 : Int)), { p0 with next := wi (p0.next + (16 : Int)) })
set_option maxRecDepth 100000 in
set_option maxHeartbeats 4000000 in
theorem plunderlaw2_book_mark_ok {z w : World} {L : List HProp} {p0 : T_plunderlaw2_book} {B0 : Nat} {ca1 : Option Addr} {cc2 : Nat} {ca3 : Option Addr} {cc4 : Nat} {r0 : Int} {q0 : T_plunderlaw2_book} (H : plunderlaw2_book_mark p0 = some (r0, q0)) (h : Fit z (sepL (ob78 B0 p0 ca1 cc2 ca3 cc4 :: rn139 ca1 cc2 p0.numberLists :: rn142 ca3 cc4 p0.accessLists :: L)) w)  :
    Calls Try.prog 90 #[.pointer (some ⟨B0, 0, none⟩)] w fun e w => ∃ caq0_1 : Option Addr, ∃ ccq0_2 : Nat, ∃ caq0_3 : Option Addr, ∃ ccq0_4 : Nat, e = .returned (.int .i64 r0) ∧ Fit z (sepL (ob78 B0 q0 caq0_1 ccq0_2 caq0_3 ccq0_4 :: rn139 caq0_1 ccq0_2 q0.numberLists :: rn142 caq0_3 ccq0_4 q0.accessLists :: L)) w := by
  unfold plunderlaw2_book_mark at H
  refine enter Try.func90 rfl 17 rfl rfl [(0, .pointer (some ⟨B0, 0, none⟩))] ⟨rfl, trivial⟩ ?_
  intro j a hr
  refine wp_seq ?_
  refine wp_region_lit ?_
  refine ov hr (.int .i64 0) (by kernel_rfl) ?_; clear hr a; intro a hr
  refine wpList_nil ?_
  refine then_normal ?_
  refine wp_seq ?_
  refine wp_region_lit ?_
  refine ovs [3, 4, 5, 6] [.pointer (some ⟨B0, 0, none⟩), .pointer (some ⟨B0, 0, none⟩), .pointer (some ⟨B0, 0, none⟩), .pointer (some ⟨B0, 2, none⟩)] hr ⟨rfl, rfl⟩ (by kernel_rfl) ?_; clear hr a; intro a hr
  refine op_val (wn rfl) rfl rfl hr (v := .int .i64 p0.next) (rl rfl (by kernel_rfl) (by kernel_rfl) (h.cell 2 rfl)) ?_; clear hr a; intro a hr
  refine ovs [8, 9, 10] [.int .i64 (wi (p0.next + (16 : Int))), .pointer (some ⟨B0, 0, none⟩), .pointer (some ⟨B0, 2, none⟩)] hr ⟨rfl, rfl⟩ (by kernel_rfl) ?_; clear hr a; intro a hr
  refine op_store (wn rfl) rfl hr rfl (by kernel_rfl) (by kernel_rfl) (v := .int .i64 (wi (p0.next + (16 : Int)))) rfl rfl (by kernel_rfl) h (i := 2) rfl ?_; clear h; intro w h
  refine wpList_nil ?_
  replace h : Fit z (sepL (pts B0 (.cells #[.slice ca1 p0.numberLists.length cc2, .slice ca3 p0.accessLists.length cc4, .int .i64 (wi (p0.next + (16 : Int)))] 78) :: rn139 ca1 cc2 p0.numberLists :: rn142 ca3 cc4 p0.accessLists :: L)) _ := h
  refine then_normal ?_
  refine wp_seq ?_
  refine wp_region_lit ?_
  refine ovs [11, 12, 13] [.pointer (some ⟨B0, 0, none⟩), .pointer (some ⟨B0, 0, none⟩), .pointer (some ⟨B0, 2, none⟩)] hr ⟨rfl, rfl⟩ (by kernel_rfl) ?_; clear hr a; intro a hr
  refine op_val (wn rfl) rfl rfl hr (v := .int .i64 (wi (p0.next + (16 : Int)))) (rl rfl (by kernel_rfl) (by kernel_rfl) (h.cell 2 rfl)) ?_; clear hr a; intro a hr
  refine ovs [15, 16, 2] [.int .i64 (wi ((1000003 : Int) * (wi (p0.next + (16 : Int))))), .int .i64 (wi ((wi ((1000003 : Int) * (wi (p0.next + (16 : Int))))) + (7 : Int))), .int .i64 (wi ((wi ((1000003 : Int) * (wi (p0.next + (16 : Int))))) + (7 : Int)))] hr ⟨rfl, rfl⟩ (by kernel_rfl) ?_; clear hr a; intro a hr
  refine wpList_nil ?_
  refine then_normal ?_
  refine wp_ret ?_
  refine end_ret1 (v := .int .i64 (wi ((wi ((1000003 : Int) * (wi (p0.next + (16 : Int))))) + (7 : Int)))) rfl hr (by kernel_rfl) ?_
  replace H := ej2 H; obtain ⟨rfl, rfl⟩ := H
  exact ⟨ca1, cc2, ca3, cc4, rfl, h⟩

def plunderlaw2_book_numbers_l1 (K : Nat) (p1 : List Int) (r6 : Int) : Nat → (List Int) → Int → Option ((List Int))
  | 0, _, _ => none
  | k1 + 1, l16, g17 => (if g17 < ((p1.length : Nat) : Int) then if inr_ g17 l16.length then (plunderlaw2_book_numbers_l1 K p1 r6 k1 (l16.set g17.toNat r6) (wi (g17 + (1 : Int)))) else none else some l16)
def plunderlaw2_book_numbers_l2 (K : Nat) (r6 : Int) : Nat → (List Int) → Int → Option (Unit)
  | 0, _, _ => none
  | k2 + 1, l24, g25 => (if g25 < (64 : Int) then if (l24.length + 1) * 8 ≤ 140737488355328 then (plunderlaw2_book_numbers_l2 K r6 k2 (l24 ++ [wi (r6 + (7 : Int))]) (wi (g25 + (1 : Int)))) else none else some ())
/-- (*plunder/plunderlaw2.book).numbers -/
def plunderlaw2_book_numbers (K : Nat) (p0 : T_plunderlaw2_book) (p1 : List Int) : Option (T_plunderlaw2_book) :=
  ob2 (plunderlaw2_book_mark p0) (fun r6 S7 => ob1 ((plunderlaw2_book_numbers_l1 K p1 r6 K p1 0)) (fun l13 => ob0 (if (l13.length + 1) * 8 ≤ 140737488355328 then (plunderlaw2_book_numbers_l2 K r6 K (l13 ++ [wi (r6 + (7 : Int))]) 1) else none) (if (l13.length + 1) * 8 ≤ 140737488355328 then if (l13.length + 2) * 8 ≤ 140737488355328 then if (l13.length + 3) * 8 ≤ 140737488355328 then if (S7.numberLists.length + 1) * 104 ≤ 140737488355328 then some ({ S7 with numberLists := S7.numberLists ++ [(⟨r6, l13, l13 ++ [wi (r6 + (1 : Int))], l13 ++ [wi (r6 + (2 : Int)), wi (r6 + (3 : Int))], l13 ++ [wi (r6 + (4 : Int)), wi (r6 + (5 : Int)), wi (r6 + (6 : Int))]⟩ : T_plunderlaw2_kept)] }) else none else none else none else none)))
set_option maxRecDepth 100000 in
set_option maxHeartbeats 4000000 in
theorem plunderlaw2_book_numbers_ok {z w : World} {L : List HProp} {K : Nat} {p0 : T_plunderlaw2_book} {p1 : List Int} {B0 : Nat} {ca1 : Option Addr} {cc2 : Nat} {ca3 : Option Addr} {cc4 : Nat} {ca5 : Option Addr} {q0 : T_plunderlaw2_book} (H : plunderlaw2_book_numbers K p0 p1 = some q0) (h : Fit z (sepL (ob78 B0 p0 ca1 cc2 ca3 cc4 :: rn139 ca1 cc2 p0.numberLists :: rn142 ca3 cc4 p0.accessLists :: ro2 ca5 p1.length p1 :: L)) w)  :
    Calls Try.prog 42 #[.pointer (some ⟨B0, 0, none⟩), .slice ca5 p1.length p1.length] w fun e w => ∃ caq0_1 : Option Addr, ∃ ccq0_2 : Nat, ∃ caq0_3 : Option Addr, ∃ ccq0_4 : Nat, e = .returned (.tuple #[]) ∧ Fit z (sepL (ob78 B0 q0 caq0_1 ccq0_2 caq0_3 ccq0_4 :: rn139 caq0_1 ccq0_2 q0.numberLists :: rn142 caq0_3 ccq0_4 q0.accessLists :: L)) w := by
  unfold plunderlaw2_book_numbers at H
  refine enter Try.func42 rfl 69 rfl rfl [(0, .pointer (some ⟨B0, 0, none⟩)), (1, .slice ca5 p1.length p1.length)] ⟨rfl, rfl, trivial⟩ ?_
  intro j a hr
  refine wp_seq ?_
  refine wp_region_lit ?_
  replace H := bd2 H; obtain ⟨r6, S7, e8, H⟩ := H
  refine ov hr (.pointer (some ⟨B0, 0, none⟩)) (by kernel_rfl) ?_; clear hr a; intro a hr
  have hc := plunderlaw2_book_mark_ok (H := e8) (h := h)
  refine op_call (wn rfl) rfl rfl hr (f := 90) (args := #[.pointer (some ⟨B0, 0, none⟩)]) (by kernel_rfl) hc ?_; clear hc h
  rintro _ w ⟨caq9, ccq10, caq11, ccq12, rfl, h⟩; refine ⟨_, rfl, ?_⟩
  clear hr a; intro a hr
  refine ov hr (.int .i64 r6) (by kernel_rfl) ?_; clear hr a; intro a hr
  refine wpList_nil ?_
  refine then_normal ?_
  replace H := kd1 H; obtain ⟨o15, H, hK14⟩ := H
  refine cut_rule (β := Unit) (fun _ a w => ∃ l13 : List Int, l13 = o15 ∧ ∃ j, Rep 69 (lk [(0, .pointer (some ⟨B0, 0, none⟩)), (1, .slice ca5 p1.length p1.length), (4, .int .i64 r6)] j) a ∧ Fit z (sepL (ob78 B0 S7 caq9 ccq10 caq11 ccq12 :: rn139 caq9 ccq10 S7.numberLists :: rn142 caq11 ccq12 S7.accessLists :: rowOf 2 1 encZ_i64 (.slice ca5 p1.length p1.length) l13 :: L)) w) ?_ ?_
  ·
    refine wp_seq ?_
    refine wp_region_lit ?_
    refine ov hr (.int .i64 0) (by kernel_rfl) ?_; clear hr a; intro a hr
    refine wpList_nil ?_
    refine then_normal ?_
    refine wp_block ?_
    replace hr := hr.fold2 [(0, .pointer (some ⟨B0, 0, none⟩)), (1, .slice ca5 p1.length p1.length), (4, .int .i64 r6), (5, .int .i64 0)] (by kernel_rfl); obtain ⟨j, hr⟩ := hr
    refine loop_rule (β := Nat) id (fun m a w => ∃ l16 : List Int, ∃ g17 : Int, (plunderlaw2_book_numbers_l1 K p1 r6 m l16 g17) = some o15 ∧ ∃ j, Rep 69 (lk [(0, .pointer (some ⟨B0, 0, none⟩)), (1, .slice ca5 p1.length p1.length), (4, .int .i64 r6), (5, .int .i64 g17)] j) a ∧ Fit z (sepL (ob78 B0 S7 caq9 ccq10 caq11 ccq12 :: rn139 caq9 ccq10 S7.numberLists :: rn142 caq11 ccq12 S7.accessLists :: rowOf 2 1 encZ_i64 (.slice ca5 p1.length p1.length) l16 :: L)) w) K ⟨p1, 0, H, j, hr, h⟩ ?_
    clear h hr a H; rintro k1 a w ⟨l16, g17, H, j, hr, h⟩
    cases k1 with
    | zero => exact absurd H (by simp [plunderlaw2_book_numbers_l1])
    | succ k1 =>
      rw [plunderlaw2_book_numbers_l1] at H
      refine wp_seq ?_
      refine wp_seq ?_
      refine wp_region_lit ?_
      refine ovs [13, 14, 15, 16] [.int .i64 g17, .slice ca5 p1.length p1.length, .int .i64 ((p1.length : Nat) : Int), .bool (decide (g17 < ((p1.length : Nat) : Int)))] hr ⟨rfl, rfl⟩ (by kernel_rfl) ?_; clear hr a; intro a hr
      refine wpList_nil ?_
      refine then_normal ?_
      by_cases c18 : g17 < ((p1.length : Nat) : Int)
      ·
        replace H := ifT c18 H
        refine cond_tt hr (b := (decide (g17 < ((p1.length : Nat) : Int)))) (decide_eq_true c18) ?_
        refine wp_skip ?_
        refine then_normal ?_
        refine wp_seq ?_
        refine wp_block ?_
        refine wp_region_lit ?_
        replace H := gd H; obtain ⟨c19, H⟩ := H
        refine ovs [19, 20, 21] [.slice ca5 p1.length p1.length, .int .i64 g17, .int .i64 r6] hr ⟨rfl, rfl⟩ (by kernel_rfl) ?_; clear hr a; intro a hr
        refine op_val (wn rfl) rfl rfl hr (v := .pointer (some ⟨blk ca5, g17.toNat * 1, none⟩)) (ri_row (k := .i64) (E := 2) rfl (by kernel_rfl) (by kernel_rfl) (by kernel_rfl) (by kernel_rfl) (h.pick 3) c19) ?_; clear hr a; intro a hr
        replace h : Fit z (sepL (rowOf 2 1 encZ_i64 (.slice ca5 p1.length p1.length) l16 :: ob78 B0 S7 caq9 ccq10 caq11 ccq12 :: rn139 caq9 ccq10 S7.numberLists :: rn142 caq11 ccq12 S7.accessLists :: L)) _ := h.sel 4 [3, 0, 1, 2] (by kernel_rfl) (by kernel_rfl)
        refine op_store_row (wn rfl) rfl hr rfl (by kernel_rfl) (by kernel_rfl) (v := .int .i64 r6) rfl rfl (by kernel_rfl) encZ_i64_ok h (i := g17.toNat) (f := 0) (p := (at_ l16 g17.toNat)) (q := r6) (at_ok c19) (by decide) rfl ?_; clear h; intro w h
        replace h : Fit z (sepL (rowOf 2 1 encZ_i64 (.slice ca5 p1.length p1.length) (l16.set g17.toNat r6) :: ob78 B0 S7 caq9 ccq10 caq11 ccq12 :: rn139 caq9 ccq10 S7.numberLists :: rn142 caq11 ccq12 S7.accessLists :: L)) _ := h
        refine wpList_nil ?_
        refine blk_normal ?_
        refine then_normal ?_
        refine wp_region_lit ?_
        refine ovs [17, 18, 5] [.int .i64 g17, .int .i64 (wi (g17 + (1 : Int))), .int .i64 (wi (g17 + (1 : Int)))] hr ⟨rfl, rfl⟩ (by kernel_rfl) ?_; clear hr a; intro a hr
        refine wpList_nil ?_
        refine then_normal ?_
        replace hr := hr.fold2 [(0, .pointer (some ⟨B0, 0, none⟩)), (1, .slice ca5 p1.length p1.length), (4, .int .i64 r6), (5, .int .i64 (wi (g17 + (1 : Int))))] (by kernel_rfl); obtain ⟨j, hr⟩ := hr
        replace h : Fit z (sepL (ob78 B0 S7 caq9 ccq10 caq11 ccq12 :: rn139 caq9 ccq10 S7.numberLists :: rn142 caq11 ccq12 S7.accessLists :: rowOf 2 1 encZ_i64 (.slice ca5 p1.length p1.length) (l16.set g17.toNat r6) :: L)) _ := h.sel 4 [1, 2, 3, 0] (by kernel_rfl) (by kernel_rfl)
        exact ⟨_, ⟨(l16.set g17.toNat r6), (wi (g17 + (1 : Int))), H, j, hr, h⟩, Nat.lt_succ_self _⟩
      ·
        replace H := ifF c18 H
        refine cond_ff hr (b := (decide (g17 < ((p1.length : Nat) : Int)))) (decide_eq_false c18) ?_
        refine wp_exit ?_
        refine then_exit ?_
        refine then_exit ?_
        refine blk_here ?_
        refine then_normal ?_
        replace hr := hr.fold2 [(0, .pointer (some ⟨B0, 0, none⟩)), (1, .slice ca5 p1.length p1.length), (4, .int .i64 r6)] (by kernel_rfl); obtain ⟨j, hr⟩ := hr
        exact ⟨(), l16, sinj H, j, hr, h⟩
  clear h hr a; rintro _ a w ⟨l13, rfl, j, hr, h⟩
  replace H := kk1 hK14
  refine wp_seq ?_
  refine wp_region_lit ?_
  refine ovs [23, 6] [.slice ca5 p1.length p1.length, .slice ca5 p1.length p1.length] hr ⟨rfl, rfl⟩ (by kernel_rfl) ?_; clear hr a; intro a hr
  refine wpList_nil ?_
  refine then_normal ?_
  replace H := kd0 H; obtain ⟨o21, H, hK20⟩ := H
  refine cut_rule (β := Unit) (fun _ a w => () = o21 ∧ ∃ j, Rep 69 (lk [(0, .pointer (some ⟨B0, 0, none⟩)), (1, .slice ca5 p1.length p1.length), (4, .int .i64 r6)] j) a ∧ Fit z (sepL (ob78 B0 S7 caq9 ccq10 caq11 ccq12 :: rn139 caq9 ccq10 S7.numberLists :: rn142 caq11 ccq12 S7.accessLists :: rowOf 2 1 encZ_i64 (.slice ca5 p1.length p1.length) l13 :: L)) w) ?_ ?_
  ·
    refine wp_seq ?_
    refine wp_region_lit ?_
    refine ov hr (.int .i64 0) (by kernel_rfl) ?_; clear hr a; intro a hr
    refine wpList_nil ?_
    refine then_normal ?_
    refine wp_block ?_
    refine loop_first (β := Nat) id (fun m a w => ∃ ca22 : Option Addr, ∃ cc23 : Nat, ∃ l24 : List Int, ∃ g25 : Int, (plunderlaw2_book_numbers_l2 K r6 m l24 g25) = some o21 ∧ ∃ j, Rep 69 (lk [(0, .pointer (some ⟨B0, 0, none⟩)), (1, .slice ca5 p1.length p1.length), (4, .int .i64 r6), (6, .slice ca22 l24.length cc23), (7, .int .i64 g25)] j) a ∧ Fit z (sepL (ob78 B0 S7 caq9 ccq10 caq11 ccq12 :: rn139 caq9 ccq10 S7.numberLists :: rn142 caq11 ccq12 S7.accessLists :: rowOf 2 1 encZ_i64 (.slice ca5 p1.length p1.length) l13 :: ro2 ca22 cc23 l24 :: L)) w) ?_ ?_
    ·
      refine wp_seq ?_
      refine wp_seq ?_
      refine wp_region_lit ?_
      refine ovs [24, 25] [.int .i64 0, .bool true] hr ⟨rfl, rfl⟩ (by kernel_rfl) ?_; clear hr a; intro a hr
      refine wpList_nil ?_
      refine then_normal ?_
      refine cond_tt hr (b := true) rfl ?_
      refine wp_skip ?_
      refine then_normal ?_
      refine wp_seq ?_
      refine wp_block ?_
      refine wp_region_lit ?_
      refine ovs [28, 29, 30] [.slice ca5 p1.length p1.length, .int .i64 r6, .int .i64 (wi (r6 + (7 : Int)))] hr ⟨rfl, rfl⟩ (by kernel_rfl) ?_; clear hr a; intro a hr
      refine op_new (wn rfl) rfl rfl hr h (vf := fun b => .slice (some ⟨b, 0, none⟩) 1 1) (cs := #[.int .i64 (wi (r6 + (7 : Int)))]) (T := 2) (by kernel_rfl) ?_; clear h hr a; intro b26 w a h hr
      replace h : Fit z (sepL (rowOf 2 1 encZ_i64 (.slice ca5 p1.length p1.length) l13 :: pts b26 (.cells #[.int .i64 (wi (r6 + (7 : Int)))] 2) :: ob78 B0 S7 caq9 ccq10 caq11 ccq12 :: rn139 caq9 ccq10 S7.numberLists :: rn142 caq11 ccq12 S7.accessLists :: L)) _ := h.sel 5 [4, 0, 1, 2, 3] (by kernel_rfl) (by kernel_rfl)
      replace H := gd H; obtain ⟨c29, H⟩ := H
      refine op_append_fullrow (n0 := p1.length) (c := 1) (bytes := 8) (wn rfl) rfl rfl hr rfl (by kernel_rfl) rfl (by kernel_rfl) (by kernel_rfl) encZ_i64_ok (E := 2) (xs := l13) (by kernel_rfl) (by kernel_rfl) h (news := [wi (r6 + (7 : Int))]) (m := 1) rfl ((h.pick 1).news rfl) c29 rfl ?_; clear h hr a; intro ca27 cc28 w a h hr
      refine ov hr (.slice ca27 ((l13 ++ [wi (r6 + (7 : Int))]).length) cc28) (by kernel_rfl) ?_; clear hr a; intro a hr
      refine wpList_nil ?_
      replace h : Fit z (sepL (ro2 ca27 cc28 (l13 ++ [wi (r6 + (7 : Int))]) :: rowOf 2 1 encZ_i64 (.slice ca5 p1.length p1.length) l13 :: pts b26 (.cells #[.int .i64 (wi (r6 + (7 : Int)))] 2) :: ob78 B0 S7 caq9 ccq10 caq11 ccq12 :: rn139 caq9 ccq10 S7.numberLists :: rn142 caq11 ccq12 S7.accessLists :: L)) _ := h
      refine blk_normal ?_
      refine then_normal ?_
      refine wp_region_lit ?_
      refine ovs [26, 27, 7] [.int .i64 0, .int .i64 1, .int .i64 1] hr ⟨rfl, rfl⟩ (by kernel_rfl) ?_; clear hr a; intro a hr
      refine wpList_nil ?_
      refine then_normal ?_
      replace hr := hr.fold2 [(0, .pointer (some ⟨B0, 0, none⟩)), (1, .slice ca5 p1.length p1.length), (4, .int .i64 r6), (6, .slice ca27 ((l13 ++ [wi (r6 + (7 : Int))]).length) cc28), (7, .int .i64 1)] (by kernel_rfl); obtain ⟨j, hr⟩ := hr
      replace h : Fit z (sepL (ob78 B0 S7 caq9 ccq10 caq11 ccq12 :: rn139 caq9 ccq10 S7.numberLists :: rn142 caq11 ccq12 S7.accessLists :: rowOf 2 1 encZ_i64 (.slice ca5 p1.length p1.length) l13 :: ro2 ca27 cc28 (l13 ++ [wi (r6 + (7 : Int))]) :: L)) _ := h.sel 6 [3, 4, 5, 1, 0] (by kernel_rfl) (by kernel_rfl)
      exact ⟨K, ca27, cc28, (l13 ++ [wi (r6 + (7 : Int))]), 1, H, j, hr, h⟩
    clear h hr a H; rintro k2 a w ⟨ca22, cc23, l24, g25, H, j, hr, h⟩
    cases k2 with
    | zero => exact absurd H (by simp [plunderlaw2_book_numbers_l2])
    | succ k2 =>
      rw [plunderlaw2_book_numbers_l2] at H
      refine wp_seq ?_
      refine wp_seq ?_
      refine wp_region_lit ?_
      refine ovs [24, 25] [.int .i64 g25, .bool (decide (g25 < (64 : Int)))] hr ⟨rfl, rfl⟩ (by kernel_rfl) ?_; clear hr a; intro a hr
      refine wpList_nil ?_
      refine then_normal ?_
      by_cases c30 : g25 < (64 : Int)
      ·
        replace H := ifT c30 H
        refine cond_tt hr (b := (decide (g25 < (64 : Int)))) (decide_eq_true c30) ?_
        refine wp_skip ?_
        refine then_normal ?_
        refine wp_seq ?_
        refine wp_block ?_
        refine wp_region_lit ?_
        refine ovs [28, 29, 30] [.slice ca22 l24.length cc23, .int .i64 r6, .int .i64 (wi (r6 + (7 : Int)))] hr ⟨rfl, rfl⟩ (by kernel_rfl) ?_; clear hr a; intro a hr
        refine op_new (wn rfl) rfl rfl hr h (vf := fun b => .slice (some ⟨b, 0, none⟩) 1 1) (cs := #[.int .i64 (wi (r6 + (7 : Int)))]) (T := 2) (by kernel_rfl) ?_; clear h hr a; intro b31 w a h hr
        replace h : Fit z (sepL (ro2 ca22 cc23 l24 :: pts b31 (.cells #[.int .i64 (wi (r6 + (7 : Int)))] 2) :: ob78 B0 S7 caq9 ccq10 caq11 ccq12 :: rn139 caq9 ccq10 S7.numberLists :: rn142 caq11 ccq12 S7.accessLists :: rowOf 2 1 encZ_i64 (.slice ca5 p1.length p1.length) l13 :: L)) _ := h.sel 6 [5, 0, 1, 2, 3, 4] (by kernel_rfl) (by kernel_rfl)
        replace H := gd H; obtain ⟨c34, H⟩ := H
        refine op_append (n0 := l24.length) (c := 1) (bytes := 8) (wn rfl) rfl rfl hr rfl (by kernel_rfl) (by kernel_rfl) encZ_i64_ok (E := 2) (xs := l24) (by kernel_rfl) (by kernel_rfl) h (news := [wi (r6 + (7 : Int))]) (m := 1) rfl ((h.pick 1).news rfl) c34 rfl ?_; clear h hr a; intro ca32 cc33 w a h hr
        refine ov hr (.slice ca32 ((l24 ++ [wi (r6 + (7 : Int))]).length) cc33) (by kernel_rfl) ?_; clear hr a; intro a hr
        refine wpList_nil ?_
        replace h : Fit z (sepL (ro2 ca32 cc33 (l24 ++ [wi (r6 + (7 : Int))]) :: pts b31 (.cells #[.int .i64 (wi (r6 + (7 : Int)))] 2) :: ob78 B0 S7 caq9 ccq10 caq11 ccq12 :: rn139 caq9 ccq10 S7.numberLists :: rn142 caq11 ccq12 S7.accessLists :: rowOf 2 1 encZ_i64 (.slice ca5 p1.length p1.length) l13 :: L)) _ := h
        refine blk_normal ?_
        refine then_normal ?_
        refine wp_region_lit ?_
        refine ovs [26, 27, 7] [.int .i64 g25, .int .i64 (wi (g25 + (1 : Int))), .int .i64 (wi (g25 + (1 : Int)))] hr ⟨rfl, rfl⟩ (by kernel_rfl) ?_; clear hr a; intro a hr
        refine wpList_nil ?_
        refine then_normal ?_
        replace hr := hr.fold2 [(0, .pointer (some ⟨B0, 0, none⟩)), (1, .slice ca5 p1.length p1.length), (4, .int .i64 r6), (6, .slice ca32 ((l24 ++ [wi (r6 + (7 : Int))]).length) cc33), (7, .int .i64 (wi (g25 + (1 : Int))))] (by kernel_rfl); obtain ⟨j, hr⟩ := hr
        replace h : Fit z (sepL (ob78 B0 S7 caq9 ccq10 caq11 ccq12 :: rn139 caq9 ccq10 S7.numberLists :: rn142 caq11 ccq12 S7.accessLists :: rowOf 2 1 encZ_i64 (.slice ca5 p1.length p1.length) l13 :: ro2 ca32 cc33 (l24 ++ [wi (r6 + (7 : Int))]) :: L)) _ := h.sel 6 [2, 3, 4, 5, 0] (by kernel_rfl) (by kernel_rfl)
        exact ⟨_, ⟨ca32, cc33, (l24 ++ [wi (r6 + (7 : Int))]), (wi (g25 + (1 : Int))), H, j, hr, h⟩, Nat.lt_succ_self _⟩
      ·
        replace H := ifF c30 H
        refine cond_ff hr (b := (decide (g25 < (64 : Int)))) (decide_eq_false c30) ?_
        refine wp_exit ?_
        refine then_exit ?_
        refine then_exit ?_
        refine blk_here ?_
        refine then_normal ?_
        replace hr := hr.fold2 [(0, .pointer (some ⟨B0, 0, none⟩)), (1, .slice ca5 p1.length p1.length), (4, .int .i64 r6)] (by kernel_rfl); obtain ⟨j, hr⟩ := hr
        replace h : Fit z (sepL (ob78 B0 S7 caq9 ccq10 caq11 ccq12 :: rn139 caq9 ccq10 S7.numberLists :: rn142 caq11 ccq12 S7.accessLists :: rowOf 2 1 encZ_i64 (.slice ca5 p1.length p1.length) l13 :: L)) _ := h.sel 5 [0, 1, 2, 3] (by kernel_rfl) (by kernel_rfl)
        exact ⟨(), sinj H, j, hr, h⟩
  clear h hr a; rintro _ a w ⟨rfl, j, hr, h⟩
  replace H := kk0 hK20
  refine wp_seq ?_
  refine wp_region_lit ?_
  refine ovs [33, 34, 35] [.slice ca5 p1.length p1.length, .int .i64 r6, .int .i64 (wi (r6 + (1 : Int)))] hr ⟨rfl, rfl⟩ (by kernel_rfl) ?_; clear hr a; intro a hr
  refine op_new (wn rfl) rfl rfl hr h (vf := fun b => .slice (some ⟨b, 0, none⟩) 1 1) (cs := #[.int .i64 (wi (r6 + (1 : Int)))]) (T := 2) (by kernel_rfl) ?_; clear h hr a; intro b35 w a h hr
  replace h : Fit z (sepL (rowOf 2 1 encZ_i64 (.slice ca5 p1.length p1.length) l13 :: pts b35 (.cells #[.int .i64 (wi (r6 + (1 : Int)))] 2) :: ob78 B0 S7 caq9 ccq10 caq11 ccq12 :: rn139 caq9 ccq10 S7.numberLists :: rn142 caq11 ccq12 S7.accessLists :: L)) _ := h.sel 5 [4, 0, 1, 2, 3] (by kernel_rfl) (by kernel_rfl)
  replace H := gd H; obtain ⟨c38, H⟩ := H
  refine op_append_fullrow (n0 := p1.length) (c := 1) (bytes := 8) (wn rfl) rfl rfl hr rfl (by kernel_rfl) rfl (by kernel_rfl) (by kernel_rfl) encZ_i64_ok (E := 2) (xs := l13) (by kernel_rfl) (by kernel_rfl) h (news := [wi (r6 + (1 : Int))]) (m := 1) rfl ((h.pick 1).news rfl) c38 rfl ?_; clear h hr a; intro ca36 cc37 w a h hr
  refine ov hr (.slice ca36 ((l13 ++ [wi (r6 + (1 : Int))]).length) cc37) (by kernel_rfl) ?_; clear hr a; intro a hr
  refine wpList_nil ?_
  replace h : Fit z (sepL (ro2 ca36 cc37 (l13 ++ [wi (r6 + (1 : Int))]) :: rowOf 2 1 encZ_i64 (.slice ca5 p1.length p1.length) l13 :: pts b35 (.cells #[.int .i64 (wi (r6 + (1 : Int)))] 2) :: ob78 B0 S7 caq9 ccq10 caq11 ccq12 :: rn139 caq9 ccq10 S7.numberLists :: rn142 caq11 ccq12 S7.accessLists :: L)) _ := h
  refine then_normal ?_
  refine wp_seq ?_
  refine wp_region_lit ?_
  refine ovs [38, 39, 40, 41, 42] [.slice ca5 p1.length p1.length, .int .i64 r6, .int .i64 (wi (r6 + (2 : Int))), .int .i64 r6, .int .i64 (wi (r6 + (3 : Int)))] hr ⟨rfl, rfl⟩ (by kernel_rfl) ?_; clear hr a; intro a hr
  refine op_new (wn rfl) rfl rfl hr h (vf := fun b => .slice (some ⟨b, 0, none⟩) 2 2) (cs := #[.int .i64 (wi (r6 + (2 : Int))), .int .i64 (wi (r6 + (3 : Int)))]) (T := 2) (by kernel_rfl) ?_; clear h hr a; intro b39 w a h hr
  replace h : Fit z (sepL (rowOf 2 1 encZ_i64 (.slice ca5 p1.length p1.length) l13 :: pts b39 (.cells #[.int .i64 (wi (r6 + (2 : Int))), .int .i64 (wi (r6 + (3 : Int)))] 2) :: ro2 ca36 cc37 (l13 ++ [wi (r6 + (1 : Int))]) :: pts b35 (.cells #[.int .i64 (wi (r6 + (1 : Int)))] 2) :: ob78 B0 S7 caq9 ccq10 caq11 ccq12 :: rn139 caq9 ccq10 S7.numberLists :: rn142 caq11 ccq12 S7.accessLists :: L)) _ := h.sel 7 [2, 0, 1, 3, 4, 5, 6] (by kernel_rfl) (by kernel_rfl)
  replace H := gd H; obtain ⟨c42, H⟩ := H
  refine op_append_fullrow (n0 := p1.length) (c := 2) (bytes := 8) (wn rfl) rfl rfl hr rfl (by kernel_rfl) rfl (by kernel_rfl) (by kernel_rfl) encZ_i64_ok (E := 2) (xs := l13) (by kernel_rfl) (by kernel_rfl) h (news := [wi (r6 + (2 : Int)), wi (r6 + (3 : Int))]) (m := 2) rfl ((h.pick 1).news rfl) c42 rfl ?_; clear h hr a; intro ca40 cc41 w a h hr
  refine ov hr (.slice ca40 ((l13 ++ [wi (r6 + (2 : Int)), wi (r6 + (3 : Int))]).length) cc41) (by kernel_rfl) ?_; clear hr a; intro a hr
  refine wpList_nil ?_
  replace h : Fit z (sepL (ro2 ca40 cc41 (l13 ++ [wi (r6 + (2 : Int)), wi (r6 + (3 : Int))]) :: rowOf 2 1 encZ_i64 (.slice ca5 p1.length p1.length) l13 :: pts b39 (.cells #[.int .i64 (wi (r6 + (2 : Int))), .int .i64 (wi (r6 + (3 : Int)))] 2) :: ro2 ca36 cc37 (l13 ++ [wi (r6 + (1 : Int))]) :: pts b35 (.cells #[.int .i64 (wi (r6 + (1 : Int)))] 2) :: ob78 B0 S7 caq9 ccq10 caq11 ccq12 :: rn139 caq9 ccq10 S7.numberLists :: rn142 caq11 ccq12 S7.accessLists :: L)) _ := h
  refine then_normal ?_
  refine wp_seq ?_
  refine wp_region_lit ?_
  refine ovs [45, 46, 47, 48, 49, 50, 51] [.slice ca5 p1.length p1.length, .int .i64 r6, .int .i64 (wi (r6 + (4 : Int))), .int .i64 r6, .int .i64 (wi (r6 + (5 : Int))), .int .i64 r6, .int .i64 (wi (r6 + (6 : Int)))] hr ⟨rfl, rfl⟩ (by kernel_rfl) ?_; clear hr a; intro a hr
  refine op_new (wn rfl) rfl rfl hr h (vf := fun b => .slice (some ⟨b, 0, none⟩) 3 3) (cs := #[.int .i64 (wi (r6 + (4 : Int))), .int .i64 (wi (r6 + (5 : Int))), .int .i64 (wi (r6 + (6 : Int)))]) (T := 2) (by kernel_rfl) ?_; clear h hr a; intro b43 w a h hr
  replace h : Fit z (sepL (rowOf 2 1 encZ_i64 (.slice ca5 p1.length p1.length) l13 :: pts b43 (.cells #[.int .i64 (wi (r6 + (4 : Int))), .int .i64 (wi (r6 + (5 : Int))), .int .i64 (wi (r6 + (6 : Int)))] 2) :: ro2 ca40 cc41 (l13 ++ [wi (r6 + (2 : Int)), wi (r6 + (3 : Int))]) :: pts b39 (.cells #[.int .i64 (wi (r6 + (2 : Int))), .int .i64 (wi (r6 + (3 : Int)))] 2) :: ro2 ca36 cc37 (l13 ++ [wi (r6 + (1 : Int))]) :: pts b35 (.cells #[.int .i64 (wi (r6 + (1 : Int)))] 2) :: ob78 B0 S7 caq9 ccq10 caq11 ccq12 :: rn139 caq9 ccq10 S7.numberLists :: rn142 caq11 ccq12 S7.accessLists :: L)) _ := h.sel 9 [2, 0, 1, 3, 4, 5, 6, 7, 8] (by kernel_rfl) (by kernel_rfl)
  replace H := gd H; obtain ⟨c46, H⟩ := H
  refine op_append_fullrow (n0 := p1.length) (c := 3) (bytes := 8) (wn rfl) rfl rfl hr rfl (by kernel_rfl) rfl (by kernel_rfl) (by kernel_rfl) encZ_i64_ok (E := 2) (xs := l13) (by kernel_rfl) (by kernel_rfl) h (news := [wi (r6 + (4 : Int)), wi (r6 + (5 : Int)), wi (r6 + (6 : Int))]) (m := 3) rfl ((h.pick 1).news rfl) c46 rfl ?_; clear h hr a; intro ca44 cc45 w a h hr
  refine ov hr (.slice ca44 ((l13 ++ [wi (r6 + (4 : Int)), wi (r6 + (5 : Int)), wi (r6 + (6 : Int))]).length) cc45) (by kernel_rfl) ?_; clear hr a; intro a hr
  refine wpList_nil ?_
  replace h : Fit z (sepL (ro2 ca44 cc45 (l13 ++ [wi (r6 + (4 : Int)), wi (r6 + (5 : Int)), wi (r6 + (6 : Int))]) :: rowOf 2 1 encZ_i64 (.slice ca5 p1.length p1.length) l13 :: pts b43 (.cells #[.int .i64 (wi (r6 + (4 : Int))), .int .i64 (wi (r6 + (5 : Int))), .int .i64 (wi (r6 + (6 : Int)))] 2) :: ro2 ca40 cc41 (l13 ++ [wi (r6 + (2 : Int)), wi (r6 + (3 : Int))]) :: pts b39 (.cells #[.int .i64 (wi (r6 + (2 : Int))), .int .i64 (wi (r6 + (3 : Int)))] 2) :: ro2 ca36 cc37 (l13 ++ [wi (r6 + (1 : Int))]) :: pts b35 (.cells #[.int .i64 (wi (r6 + (1 : Int)))] 2) :: ob78 B0 S7 caq9 ccq10 caq11 ccq12 :: rn139 caq9 ccq10 S7.numberLists :: rn142 caq11 ccq12 S7.accessLists :: L)) _ := h
  refine then_normal ?_
  refine wp_region_lit ?_
  refine ovs [54, 55, 56, 57] [.pointer (some ⟨B0, 0, none⟩), .pointer (some ⟨B0, 0, none⟩), .pointer (some ⟨B0, 0, none⟩), .pointer (some ⟨B0, 0, none⟩)] hr ⟨rfl, rfl⟩ (by kernel_rfl) ?_; clear hr a; intro a hr
  refine op_val (wn rfl) rfl rfl hr (v := .slice caq9 S7.numberLists.length ccq10) (rl rfl (by kernel_rfl) (by kernel_rfl) ((h.pick 7).cell 0 rfl)) ?_; clear hr a; intro a hr
  refine ovs [59, 60, 61, 62, 63, 64] [.int .i64 r6, .slice ca5 p1.length p1.length, .slice ca36 ((l13 ++ [wi (r6 + (1 : Int))]).length) cc37, .slice ca40 ((l13 ++ [wi (r6 + (2 : Int)), wi (r6 + (3 : Int))]).length) cc41, .slice ca44 ((l13 ++ [wi (r6 + (4 : Int)), wi (r6 + (5 : Int)), wi (r6 + (6 : Int))]).length) cc45, .agg #[.int .i64 r6, .slice ca5 p1.length p1.length, .slice ca36 ((l13 ++ [wi (r6 + (1 : Int))]).length) cc37, .slice ca40 ((l13 ++ [wi (r6 + (2 : Int)), wi (r6 + (3 : Int))]).length) cc41, .slice ca44 ((l13 ++ [wi (r6 + (4 : Int)), wi (r6 + (5 : Int)), wi (r6 + (6 : Int))]).length) cc45]] hr ⟨rfl, rfl⟩ (by kernel_rfl) ?_; clear hr a; intro a hr
  refine op_new (wn rfl) rfl rfl hr h (vf := fun b => .slice (some ⟨b, 0, none⟩) 1 1) (cs := #[.int .i64 r6, .slice ca5 p1.length p1.length, .slice ca36 ((l13 ++ [wi (r6 + (1 : Int))]).length) cc37, .slice ca40 ((l13 ++ [wi (r6 + (2 : Int)), wi (r6 + (3 : Int))]).length) cc41, .slice ca44 ((l13 ++ [wi (r6 + (4 : Int)), wi (r6 + (5 : Int)), wi (r6 + (6 : Int))]).length) cc45]) (T := 139) (by kernel_rfl) ?_; clear h hr a; intro b47 w a h hr
  have hn47 := (h.pick 2).row_n
  replace h : Fit z (sepL (pts b47 (.cells #[.int .i64 r6, .slice ca5 l13.length p1.length, .slice ca36 ((l13 ++ [wi (r6 + (1 : Int))]).length) cc37, .slice ca40 ((l13 ++ [wi (r6 + (2 : Int)), wi (r6 + (3 : Int))]).length) cc41, .slice ca44 ((l13 ++ [wi (r6 + (4 : Int)), wi (r6 + (5 : Int)), wi (r6 + (6 : Int))]).length) cc45] 139) :: ro2 ca44 cc45 (l13 ++ [wi (r6 + (4 : Int)), wi (r6 + (5 : Int)), wi (r6 + (6 : Int))]) :: ro2 ca5 p1.length l13 :: pts b43 (.cells #[.int .i64 (wi (r6 + (4 : Int))), .int .i64 (wi (r6 + (5 : Int))), .int .i64 (wi (r6 + (6 : Int)))] 2) :: ro2 ca40 cc41 (l13 ++ [wi (r6 + (2 : Int)), wi (r6 + (3 : Int))]) :: pts b39 (.cells #[.int .i64 (wi (r6 + (2 : Int))), .int .i64 (wi (r6 + (3 : Int)))] 2) :: ro2 ca36 cc37 (l13 ++ [wi (r6 + (1 : Int))]) :: pts b35 (.cells #[.int .i64 (wi (r6 + (1 : Int)))] 2) :: ob78 B0 S7 caq9 ccq10 caq11 ccq12 :: rn139 caq9 ccq10 S7.numberLists :: rn142 caq11 ccq12 S7.accessLists :: L)) w := (congrArg (fun q_ : Nat => Fit z (sepL (pts b47 (.cells #[.int .i64 r6, .slice ca5 q_ p1.length, .slice ca36 ((l13 ++ [wi (r6 + (1 : Int))]).length) cc37, .slice ca40 ((l13 ++ [wi (r6 + (2 : Int)), wi (r6 + (3 : Int))]).length) cc41, .slice ca44 ((l13 ++ [wi (r6 + (4 : Int)), wi (r6 + (5 : Int)), wi (r6 + (6 : Int))]).length) cc45] 139) :: ro2 ca44 cc45 (l13 ++ [wi (r6 + (4 : Int)), wi (r6 + (5 : Int)), wi (r6 + (6 : Int))]) :: rowOf 2 1 encZ_i64 (.slice ca5 q_ p1.length) l13 :: pts b43 (.cells #[.int .i64 (wi (r6 + (4 : Int))), .int .i64 (wi (r6 + (5 : Int))), .int .i64 (wi (r6 + (6 : Int)))] 2) :: ro2 ca40 cc41 (l13 ++ [wi (r6 + (2 : Int)), wi (r6 + (3 : Int))]) :: pts b39 (.cells #[.int .i64 (wi (r6 + (2 : Int))), .int .i64 (wi (r6 + (3 : Int)))] 2) :: ro2 ca36 cc37 (l13 ++ [wi (r6 + (1 : Int))]) :: pts b35 (.cells #[.int .i64 (wi (r6 + (1 : Int)))] 2) :: ob78 B0 S7 caq9 ccq10 caq11 ccq12 :: rn139 caq9 ccq10 S7.numberLists :: rn142 caq11 ccq12 S7.accessLists :: L)) w) (h.pick 2).row_n).mp h
  replace h : Fit z (sepL (ro2 ca5 p1.length l13 :: ro2 ca36 cc37 (l13 ++ [wi (r6 + (1 : Int))]) :: ro2 ca40 cc41 (l13 ++ [wi (r6 + (2 : Int)), wi (r6 + (3 : Int))]) :: ro2 ca44 cc45 (l13 ++ [wi (r6 + (4 : Int)), wi (r6 + (5 : Int)), wi (r6 + (6 : Int))]) :: pts b47 (.cells #[.int .i64 r6, .slice ca5 l13.length p1.length, .slice ca36 ((l13 ++ [wi (r6 + (1 : Int))]).length) cc37, .slice ca40 ((l13 ++ [wi (r6 + (2 : Int)), wi (r6 + (3 : Int))]).length) cc41, .slice ca44 ((l13 ++ [wi (r6 + (4 : Int)), wi (r6 + (5 : Int)), wi (r6 + (6 : Int))]).length) cc45] 139) :: pts b43 (.cells #[.int .i64 (wi (r6 + (4 : Int))), .int .i64 (wi (r6 + (5 : Int))), .int .i64 (wi (r6 + (6 : Int)))] 2) :: pts b39 (.cells #[.int .i64 (wi (r6 + (2 : Int))), .int .i64 (wi (r6 + (3 : Int)))] 2) :: pts b35 (.cells #[.int .i64 (wi (r6 + (1 : Int)))] 2) :: ob78 B0 S7 caq9 ccq10 caq11 ccq12 :: rn139 caq9 ccq10 S7.numberLists :: rn142 caq11 ccq12 S7.accessLists :: L)) _ := h.sel 11 [2, 6, 4, 1, 0, 3, 5, 7, 8, 9, 10] (by kernel_rfl) (by kernel_rfl)
  replace h := own_T_plunderlaw2_kept_sh (x := (⟨r6, l13, l13 ++ [wi (r6 + (1 : Int))], l13 ++ [wi (r6 + (2 : Int)), wi (r6 + (3 : Int))], l13 ++ [wi (r6 + (4 : Int)), wi (r6 + (5 : Int)), wi (r6 + (6 : Int))]⟩ : T_plunderlaw2_kept)) h
  replace H := gd H; obtain ⟨c49, H⟩ := H
  replace h : Fit z (sepL (rn139 caq9 ccq10 S7.numberLists :: own_T_plunderlaw2_kept (⟨r6, l13, l13 ++ [wi (r6 + (1 : Int))], l13 ++ [wi (r6 + (2 : Int)), wi (r6 + (3 : Int))], l13 ++ [wi (r6 + (4 : Int)), wi (r6 + (5 : Int)), wi (r6 + (6 : Int))]⟩ : T_plunderlaw2_kept) [.int .i64 r6, .slice ca5 l13.length p1.length, .slice ca36 ((l13 ++ [wi (r6 + (1 : Int))]).length) cc37, .slice ca40 ((l13 ++ [wi (r6 + (2 : Int)), wi (r6 + (3 : Int))]).length) cc41, .slice ca44 ((l13 ++ [wi (r6 + (4 : Int)), wi (r6 + (5 : Int)), wi (r6 + (6 : Int))]).length) cc45] :: pts b47 (.cells #[.int .i64 r6, .slice ca5 l13.length p1.length, .slice ca36 ((l13 ++ [wi (r6 + (1 : Int))]).length) cc37, .slice ca40 ((l13 ++ [wi (r6 + (2 : Int)), wi (r6 + (3 : Int))]).length) cc41, .slice ca44 ((l13 ++ [wi (r6 + (4 : Int)), wi (r6 + (5 : Int)), wi (r6 + (6 : Int))]).length) cc45] 139) :: pts b43 (.cells #[.int .i64 (wi (r6 + (4 : Int))), .int .i64 (wi (r6 + (5 : Int))), .int .i64 (wi (r6 + (6 : Int)))] 2) :: pts b39 (.cells #[.int .i64 (wi (r6 + (2 : Int))), .int .i64 (wi (r6 + (3 : Int)))] 2) :: pts b35 (.cells #[.int .i64 (wi (r6 + (1 : Int)))] 2) :: ob78 B0 S7 caq9 ccq10 caq11 ccq12 :: rn142 caq11 ccq12 S7.accessLists :: L)) _ := h.sel 8 [6, 0, 1, 2, 3, 4, 5, 7] (by kernel_rfl) (by kernel_rfl)
  refine op_append_N (n0 := S7.numberLists.length) (c := 1) (bytes := 104) (sz := 5) (wn rfl) rfl rfl hr rfl (by kernel_rfl) (by kernel_rfl) (E := 139) (xs := S7.numberLists) (by kernel_rfl) (by kernel_rfl) rfl rfl rfl h ((h.pick 2).news rfl) c49 rfl ?_; clear h hr a; intro ca50 cc51 w a h hr
  refine ovs [67, 68] [.pointer (some ⟨B0, 0, none⟩), .pointer (some ⟨B0, 0, none⟩)] hr ⟨rfl, rfl⟩ (by kernel_rfl) ?_; clear hr a; intro a hr
  replace h : Fit z (sepL (ob78 B0 S7 caq9 ccq10 caq11 ccq12 :: rn139 ca50 cc51 (S7.numberLists ++ [(⟨r6, l13, l13 ++ [wi (r6 + (1 : Int))], l13 ++ [wi (r6 + (2 : Int)), wi (r6 + (3 : Int))], l13 ++ [wi (r6 + (4 : Int)), wi (r6 + (5 : Int)), wi (r6 + (6 : Int))]⟩ : T_plunderlaw2_kept)]) :: pts b47 (.cells #[.int .i64 r6, .slice ca5 l13.length p1.length, .slice ca36 ((l13 ++ [wi (r6 + (1 : Int))]).length) cc37, .slice ca40 ((l13 ++ [wi (r6 + (2 : Int)), wi (r6 + (3 : Int))]).length) cc41, .slice ca44 ((l13 ++ [wi (r6 + (4 : Int)), wi (r6 + (5 : Int)), wi (r6 + (6 : Int))]).length) cc45] 139) :: pts b43 (.cells #[.int .i64 (wi (r6 + (4 : Int))), .int .i64 (wi (r6 + (5 : Int))), .int .i64 (wi (r6 + (6 : Int)))] 2) :: pts b39 (.cells #[.int .i64 (wi (r6 + (2 : Int))), .int .i64 (wi (r6 + (3 : Int)))] 2) :: pts b35 (.cells #[.int .i64 (wi (r6 + (1 : Int)))] 2) :: rn142 caq11 ccq12 S7.accessLists :: L)) _ := h.sel 7 [5, 0, 1, 2, 3, 4, 6] (by kernel_rfl) (by kernel_rfl)
  refine op_store (wn rfl) rfl hr rfl (by kernel_rfl) (by kernel_rfl) (v := .slice ca50 ((S7.numberLists ++ [(⟨r6, l13, l13 ++ [wi (r6 + (1 : Int))], l13 ++ [wi (r6 + (2 : Int)), wi (r6 + (3 : Int))], l13 ++ [wi (r6 + (4 : Int)), wi (r6 + (5 : Int)), wi (r6 + (6 : Int))]⟩ : T_plunderlaw2_kept)]).length) cc51) rfl rfl (by kernel_rfl) h (i := 0) rfl ?_; clear h; intro w h
  refine wpList_nil ?_
  replace h : Fit z (sepL (pts B0 (.cells #[.slice ca50 ((S7.numberLists ++ [(⟨r6, l13, l13 ++ [wi (r6 + (1 : Int))], l13 ++ [wi (r6 + (2 : Int)), wi (r6 + (3 : Int))], l13 ++ [wi (r6 + (4 : Int)), wi (r6 + (5 : Int)), wi (r6 + (6 : Int))]⟩ : T_plunderlaw2_kept)]).length) cc51, .slice caq11 S7.accessLists.length ccq12, .int .i64 S7.next] 78) :: rn139 ca50 cc51 (S7.numberLists ++ [(⟨r6, l13, l13 ++ [wi (r6 + (1 : Int))], l13 ++ [wi (r6 + (2 : Int)), wi (r6 + (3 : Int))], l13 ++ [wi (r6 + (4 : Int)), wi (r6 + (5 : Int)), wi (r6 + (6 : Int))]⟩ : T_plunderlaw2_kept)]) :: pts b47 (.cells #[.int .i64 r6, .slice ca5 l13.length p1.length, .slice ca36 ((l13 ++ [wi (r6 + (1 : Int))]).length) cc37, .slice ca40 ((l13 ++ [wi (r6 + (2 : Int)), wi (r6 + (3 : Int))]).length) cc41, .slice ca44 ((l13 ++ [wi (r6 + (4 : Int)), wi (r6 + (5 : Int)), wi (r6 + (6 : Int))]).length) cc45] 139) :: pts b43 (.cells #[.int .i64 (wi (r6 + (4 : Int))), .int .i64 (wi (r6 + (5 : Int))), .int .i64 (wi (r6 + (6 : Int)))] 2) :: pts b39 (.cells #[.int .i64 (wi (r6 + (2 : Int))), .int .i64 (wi (r6 + (3 : Int)))] 2) :: pts b35 (.cells #[.int .i64 (wi (r6 + (1 : Int)))] 2) :: rn142 caq11 ccq12 S7.accessLists :: L)) _ := h
  refine end_norm0 rfl hr ?_
  replace h : Fit z (sepL (pts B0 (.cells #[.slice ca50 ((S7.numberLists ++ [(⟨r6, l13, l13 ++ [wi (r6 + (1 : Int))], l13 ++ [wi (r6 + (2 : Int)), wi (r6 + (3 : Int))], l13 ++ [wi (r6 + (4 : Int)), wi (r6 + (5 : Int)), wi (r6 + (6 : Int))]⟩ : T_plunderlaw2_kept)]).length) cc51, .slice caq11 S7.accessLists.length ccq12, .int .i64 S7.next] 78) :: rn139 ca50 cc51 (S7.numberLists ++ [(⟨r6, l13, l13 ++ [wi (r6 + (1 : Int))], l13 ++ [wi (r6 + (2 : Int)), wi (r6 + (3 : Int))], l13 ++ [wi (r6 + (4 : Int)), wi (r6 + (5 : Int)), wi (r6 + (6 : Int))]⟩ : T_plunderlaw2_kept)]) :: rn142 caq11 ccq12 S7.accessLists :: L)) _ := h.sel 7 [0, 1, 6] (by kernel_rfl) (by kernel_rfl)
  replace H := ej1 H; subst H
  exact ⟨ca50, cc51, caq11, ccq12, rfl, h⟩

/-- (*plunder/cells.Arena).Log -/
def cells_Arena_Log (p0 : T_cells_Arena) : Option ((List T_api_Access)) :=
  if 0 ≤ ((p0.log.length : Nat) : Int) ∧ ((p0.log.length : Nat) : Int) * 48 ≤ 140737488355328 then if p0.log.length = (List.replicate p0.log.length (⟨0, 0, 0, 0, 0, false⟩ : T_api_Access)).length then some p0.log else none else none
set_option maxRecDepth 100000 in
set_option maxHeartbeats 4000000 in
theorem cells_Arena_Log_ok {z w : World} {L : List HProp} {p0 : T_cells_Arena} {B0 : Nat} {ca1 : Option Addr} {cc2 : Nat} {ca3 : Option Addr} {cc4 : Nat} {r0 : List T_api_Access} (H : cells_Arena_Log p0 = some r0) (h : Fit z (sepL (ob96 B0 p0 ca1 cc2 ca3 cc4 :: ro2 ca1 cc2 p0.cell :: ro90 ca3 cc4 p0.log :: L)) w)  :
    Calls Try.prog 70 #[.pointer (some ⟨B0, 0, none⟩)] w fun e w => ∃ car0_1 : Option Addr, e = .returned (.slice car0_1 r0.length r0.length) ∧ Fit z (sepL (ob96 B0 p0 ca1 cc2 ca3 cc4 :: ro2 ca1 cc2 p0.cell :: ro90 ca3 cc4 p0.log :: ro90 car0_1 r0.length r0 :: L)) w := by
  unfold cells_Arena_Log at H
  refine enter Try.func70 rfl 19 rfl rfl [(0, .pointer (some ⟨B0, 0, none⟩))] ⟨rfl, trivial⟩ ?_
  intro j a hr
  refine wp_seq ?_
  refine wp_region_lit ?_
  refine ov hr (.slice none 0 0) (by kernel_rfl) ?_; clear hr a; intro a hr
  refine wpList_nil ?_
  refine then_normal ?_
  refine wp_seq ?_
  refine wp_seq ?_
  refine wp_region_lit ?_
  refine ovs [4, 5] [.pointer (some ⟨B0, 0, none⟩), .bool false] hr ⟨rfl, rfl⟩ (by kernel_rfl) ?_; clear hr a; intro a hr
  refine wpList_nil ?_
  refine then_normal ?_
  refine cond_ff hr (b := false) rfl ?_
  refine wp_skip ?_
  refine then_normal ?_
  refine wp_seq ?_
  refine wp_region_lit ?_
  refine ovs [6, 7, 8] [.pointer (some ⟨B0, 0, none⟩), .pointer (some ⟨B0, 0, none⟩), .pointer (some ⟨B0, 3, none⟩)] hr ⟨rfl, rfl⟩ (by kernel_rfl) ?_; clear hr a; intro a hr
  refine op_val (wn rfl) rfl rfl hr (v := .slice ca3 p0.log.length cc4) (rl rfl (by kernel_rfl) (by kernel_rfl) (h.cell 3 rfl)) ?_; clear hr a; intro a hr
  replace H := gd H; obtain ⟨c5, H⟩ := H
  refine ov hr (.int .i64 ((p0.log.length : Nat) : Int)) (by kernel_rfl) ?_; clear hr a; intro a hr
  refine op_make_row (i := ((p0.log.length : Nat) : Int)) (bytes := 48) (zc := #[.int .i64 0, .int .i64 0, .int .i64 0, .int .i64 0, .int .i64 0, .bool false]) (⟨0, 0, 0, 0, 0, false⟩ : T_api_Access) (wn rfl) rfl rfl hr rfl (by kernel_rfl) (by kernel_rfl) c5 enc_T_api_Access_ok (E := 90) (by kernel_rfl) (by kernel_rfl) rfl rfl h ?_; clear h hr a; intro ca6 w a h hr
  refine ov hr (.slice ca6 ((List.replicate p0.log.length (⟨0, 0, 0, 0, 0, false⟩ : T_api_Access)).length) p0.log.length) (by kernel_rfl) ?_; clear hr a; intro a hr
  refine wpList_nil ?_
  replace h : Fit z (sepL (ro90 ca6 p0.log.length (List.replicate p0.log.length (⟨0, 0, 0, 0, 0, false⟩ : T_api_Access)) :: ob96 B0 p0 ca1 cc2 ca3 cc4 :: ro2 ca1 cc2 p0.cell :: ro90 ca3 cc4 p0.log :: L)) _ := h
  refine then_normal ?_
  refine wp_seq ?_
  refine wp_region_lit ?_
  refine ovs [12, 13, 14, 15] [.slice ca6 ((List.replicate p0.log.length (⟨0, 0, 0, 0, 0, false⟩ : T_api_Access)).length) p0.log.length, .pointer (some ⟨B0, 0, none⟩), .pointer (some ⟨B0, 0, none⟩), .pointer (some ⟨B0, 3, none⟩)] hr ⟨rfl, rfl⟩ (by kernel_rfl) ?_; clear hr a; intro a hr
  refine op_val (wn rfl) rfl rfl hr (v := .slice ca3 p0.log.length cc4) (rl rfl (by kernel_rfl) (by kernel_rfl) ((h.pick 1).cell 3 rfl)) ?_; clear hr a; intro a hr
  replace H := gd H; obtain ⟨c7, H⟩ := H
  replace h : Fit z (sepL (ro90 ca6 p0.log.length (List.replicate p0.log.length (⟨0, 0, 0, 0, 0, false⟩ : T_api_Access)) :: ro90 ca3 cc4 p0.log :: ob96 B0 p0 ca1 cc2 ca3 cc4 :: ro2 ca1 cc2 p0.cell :: L)) _ := h.sel 4 [0, 3, 1, 2] (by kernel_rfl) (by kernel_rfl)
  refine op_copy_row (wn rfl) rfl rfl hr rfl (by kernel_rfl) (by kernel_rfl) enc_T_api_Access_ok (E := 90) (by kernel_rfl) (by kernel_rfl) c7 h ?_; clear h hr a; intro w a h hr
  refine wpList_nil ?_
  replace h : Fit z (sepL (rowOf 90 6 enc_T_api_Access (.slice ca6 ((List.replicate p0.log.length (⟨0, 0, 0, 0, 0, false⟩ : T_api_Access)).length) p0.log.length) p0.log :: ro90 ca3 cc4 p0.log :: ob96 B0 p0 ca1 cc2 ca3 cc4 :: ro2 ca1 cc2 p0.cell :: L)) _ := h
  refine then_normal ?_
  refine wp_seq ?_
  refine wp_region_lit ?_
  refine ovs [18, 2] [.slice ca6 ((List.replicate p0.log.length (⟨0, 0, 0, 0, 0, false⟩ : T_api_Access)).length) p0.log.length, .slice ca6 ((List.replicate p0.log.length (⟨0, 0, 0, 0, 0, false⟩ : T_api_Access)).length) p0.log.length] hr ⟨rfl, rfl⟩ (by kernel_rfl) ?_; clear hr a; intro a hr
  refine wpList_nil ?_
  refine then_normal ?_
  refine wp_ret ?_
  refine end_ret1 (v := .slice ca6 ((List.replicate p0.log.length (⟨0, 0, 0, 0, 0, false⟩ : T_api_Access)).length) p0.log.length) rfl hr (by kernel_rfl) ?_
  have hn7 := h.row_n
  replace h : Fit z (sepL (ro90 ca6 p0.log.length p0.log :: ro90 ca3 cc4 p0.log :: ob96 B0 p0 ca1 cc2 ca3 cc4 :: ro2 ca1 cc2 p0.cell :: L)) w := (congrArg (fun q_ : Nat => Fit z (sepL (rowOf 90 6 enc_T_api_Access (.slice ca6 q_ p0.log.length) p0.log :: ro90 ca3 cc4 p0.log :: ob96 B0 p0 ca1 cc2 ca3 cc4 :: ro2 ca1 cc2 p0.cell :: L)) w) h.row_n).mp h
  replace h : Fit z (sepL (ob96 B0 p0 ca1 cc2 ca3 cc4 :: ro2 ca1 cc2 p0.cell :: ro90 ca3 cc4 p0.log :: ro90 ca6 p0.log.length p0.log :: L)) _ := h.sel 4 [2, 3, 1, 0] (by kernel_rfl) (by kernel_rfl)
  replace H := ej1 H; subst H
  exact ⟨ca6, (by simp only [hn7]), h⟩

def plunderlaw2_sameLog_l1 (K : Nat) (p0 : List T_api_Access) (p1 : List T_api_Access) : Nat → Int → Option (Bool)
  | 0, _ => none
  | k1 + 1, g2 => (if g2 < ((p0.length : Nat) : Int) then if inr_ g2 p0.length then if inr_ g2 p1.length then (if at_ p0 g2.toNat = at_ p1 g2.toNat then (plunderlaw2_sameLog_l1 K p0 p1 k1 (wi (g2 + (1 : Int)))) else some false) else none else none else some true)
/-- plunder/plunderlaw2.sameLog -/
def plunderlaw2_sameLog (K : Nat) (p0 : List T_api_Access) (p1 : List T_api_Access) : Option (Bool) :=
  (if ((p0.length : Nat) : Int) = ((p1.length : Nat) : Int) then (plunderlaw2_sameLog_l1 K p0 p1 K 0) else some false)
set_option maxRecDepth 100000 in
set_option maxHeartbeats 4000000 in
theorem plunderlaw2_sameLog_ok {z w : World} {L : List HProp} {K : Nat} {p0 : List T_api_Access} {p1 : List T_api_Access} {va0 : Option Addr} {vc0 : Nat} {va1 : Option Addr} {vc1 : Nat} {r0 : Bool} (H : plunderlaw2_sameLog K p0 p1 = some r0) (h : Fit z (sepL (L)) w) (hv0 : RdRow L 6 enc_T_api_Access va0 p0) (hv1 : RdRow L 6 enc_T_api_Access va1 p1) :
    Calls Try.prog 41 #[.slice va0 p0.length vc0, .slice va1 p1.length vc1] w fun e w => e = .returned (.bool r0) ∧ Fit z (sepL (L)) w := by
  unfold plunderlaw2_sameLog at H
  refine enter Try.func41 rfl 26 rfl rfl [(0, .slice va0 p0.length vc0), (1, .slice va1 p1.length vc1)] ⟨rfl, rfl, trivial⟩ ?_
  intro j a hr
  refine wp_seq ?_
  refine wp_region_lit ?_
  refine ov hr (.bool false) (by kernel_rfl) ?_; clear hr a; intro a hr
  refine wpList_nil ?_
  refine then_normal ?_
  refine wp_seq ?_
  refine wp_seq ?_
  refine wp_region_lit ?_
  refine ovs [6, 7, 8, 9, 10] [.slice va0 p0.length vc0, .int .i64 ((p0.length : Nat) : Int), .slice va1 p1.length vc1, .int .i64 ((p1.length : Nat) : Int), .bool (((p0.length : Nat) : Int) != ((p1.length : Nat) : Int))] hr ⟨rfl, rfl⟩ (by kernel_rfl) ?_; clear hr a; intro a hr
  refine wpList_nil ?_
  refine then_normal ?_
  by_cases c1 : ((p0.length : Nat) : Int) = ((p1.length : Nat) : Int)
  ·
    replace H := ifT c1 H
    refine cond_ff hr (b := (((p0.length : Nat) : Int) != ((p1.length : Nat) : Int))) (bne_eq_false_iff_eq.mpr c1) ?_
    refine wp_skip ?_
    refine then_normal ?_
    refine wp_seq ?_
    refine wp_seq ?_
    refine wp_region_lit ?_
    refine ov hr (.int .i64 0) (by kernel_rfl) ?_; clear hr a; intro a hr
    refine wpList_nil ?_
    refine then_normal ?_
    refine wp_block ?_
    replace hr := hr.fold2 [(0, .slice va0 p0.length vc0), (1, .slice va1 p1.length vc1), (5, .int .i64 0)] (by kernel_rfl); obtain ⟨j, hr⟩ := hr
    refine loop_rule (β := Nat) id (fun m a w => ∃ g2 : Int, (plunderlaw2_sameLog_l1 K p0 p1 m g2) = some r0 ∧ ∃ j, Rep 26 (lk [(0, .slice va0 p0.length vc0), (1, .slice va1 p1.length vc1), (5, .int .i64 g2)] j) a ∧ Fit z (sepL (L)) w) K ⟨0, H, j, hr, h⟩ ?_
    clear h hr a H; rintro k1 a w ⟨g2, H, j, hr, h⟩
    cases k1 with
    | zero => exact absurd H (by simp [plunderlaw2_sameLog_l1])
    | succ k1 =>
      rw [plunderlaw2_sameLog_l1] at H
      refine wp_seq ?_
      refine wp_seq ?_
      refine wp_region_lit ?_
      refine ovs [11, 12, 13, 14] [.int .i64 g2, .slice va0 p0.length vc0, .int .i64 ((p0.length : Nat) : Int), .bool (decide (g2 < ((p0.length : Nat) : Int)))] hr ⟨rfl, rfl⟩ (by kernel_rfl) ?_; clear hr a; intro a hr
      refine wpList_nil ?_
      refine then_normal ?_
      by_cases c3 : g2 < ((p0.length : Nat) : Int)
      ·
        replace H := ifT c3 H
        refine cond_tt hr (b := (decide (g2 < ((p0.length : Nat) : Int)))) (decide_eq_true c3) ?_
        refine wp_skip ?_
        refine then_normal ?_
        refine wp_seq ?_
        refine wp_block ?_
        refine wp_seq ?_
        replace H := gd H; obtain ⟨c4, H⟩ := H
        replace H := gd H; obtain ⟨c5, H⟩ := H
        refine reg_E (fun w => heldC w (blk va0) (offs va0 + g2.toNat * 6) [.int .i64 ((at_ p0 g2.toNat).Who), .int .i64 ((at_ p0 g2.toNat).Kind), .int .i64 ((at_ p0 g2.toNat).Addr), .int .i64 ((at_ p0 g2.toNat).A), .int .i64 ((at_ p0 g2.toNat).B), .bool ((at_ p0 g2.toNat).OK)] ∧ heldC w (blk va1) (offs va1 + g2.toNat * 6) [.int .i64 ((at_ p1 g2.toNat).Who), .int .i64 ((at_ p1 g2.toNat).Kind), .int .i64 ((at_ p1 g2.toNat).Addr), .int .i64 ((at_ p1 g2.toNat).A), .int .i64 ((at_ p1 g2.toNat).B), .bool ((at_ p1 g2.toNat).OK)] ∧ True) [2, 6] h (by kernel_rfl) ?_; intro w h
        change wpAnyE _ _ _ _ _ _ 9 (Array.replicate 9 false) a w
        have hgo : ∀ w w', CellsGo w w' → (heldC w (blk va0) (offs va0 + g2.toNat * 6) [.int .i64 ((at_ p0 g2.toNat).Who), .int .i64 ((at_ p0 g2.toNat).Kind), .int .i64 ((at_ p0 g2.toNat).Addr), .int .i64 ((at_ p0 g2.toNat).A), .int .i64 ((at_ p0 g2.toNat).B), .bool ((at_ p0 g2.toNat).OK)] ∧ heldC w (blk va1) (offs va1 + g2.toNat * 6) [.int .i64 ((at_ p1 g2.toNat).Who), .int .i64 ((at_ p1 g2.toNat).Kind), .int .i64 ((at_ p1 g2.toNat).Addr), .int .i64 ((at_ p1 g2.toNat).A), .int .i64 ((at_ p1 g2.toNat).B), .bool ((at_ p1 g2.toNat).OK)] ∧ True) → heldC w' (blk va0) (offs va0 + g2.toNat * 6) [.int .i64 ((at_ p0 g2.toNat).Who), .int .i64 ((at_ p0 g2.toNat).Kind), .int .i64 ((at_ p0 g2.toNat).Addr), .int .i64 ((at_ p0 g2.toNat).A), .int .i64 ((at_ p0 g2.toNat).B), .bool ((at_ p0 g2.toNat).OK)] ∧ heldC w' (blk va1) (offs va1 + g2.toNat * 6) [.int .i64 ((at_ p1 g2.toNat).Who), .int .i64 ((at_ p1 g2.toNat).Kind), .int .i64 ((at_ p1 g2.toNat).Addr), .int .i64 ((at_ p1 g2.toNat).A), .int .i64 ((at_ p1 g2.toNat).B), .bool ((at_ p1 g2.toNat).OK)] ∧ True := fun w w' g hD => ⟨heldC_go _ _ _ _ _ g hD.1, heldC_go _ _ _ _ _ g hD.2.1, trivial⟩
        refine ev 8 0 rfl (by kernel_rfl) (wn rfl) hr (.slice va0 p0.length vc0) (fun w => by kernel_rfl) ?_; clear hr a; intro a hr
        refine ev 7 1 rfl (by kernel_rfl) (wn rfl) hr (.int .i64 g2) (fun w => by kernel_rfl) ?_; clear hr a; intro a hr
        refine evD hgo ⟨⟨hv0.cell c4 (h.dn 0) 0 rfl, hv0.cell c4 (h.dn 0) 1 rfl, hv0.cell c4 (h.dn 0) 2 rfl, hv0.cell c4 (h.dn 0) 3 rfl, hv0.cell c4 (h.dn 0) 4 rfl, hv0.cell c4 (h.dn 0) 5 rfl, trivial⟩, ⟨hv1.cell c5 (h.dn 0) 0 rfl, hv1.cell c5 (h.dn 0) 1 rfl, hv1.cell c5 (h.dn 0) 2 rfl, hv1.cell c5 (h.dn 0) 3 rfl, hv1.cell c5 (h.dn 0) 4 rfl, hv1.cell c5 (h.dn 0) 5 rfl, trivial⟩, trivial⟩ 6 2 rfl (by kernel_rfl) (wn rfl) hr (.pointer (some ⟨blk va0, offs va0 + g2.toNat * 6, none⟩)) (fun w => ri_rd (k := .i64) (E := 90) (cc := vc0) rfl (by kernel_rfl) (by kernel_rfl) rfl (by kernel_rfl) (by kernel_rfl) hv0 c4) ?_; clear hr a; intro a hr
        refine ev 5 4 rfl (by kernel_rfl) (wn rfl) hr (.slice va1 p1.length vc1) (fun w => by kernel_rfl) ?_; clear hr a; intro a hr
        refine ev 4 5 rfl (by kernel_rfl) (wn rfl) hr (.int .i64 g2) (fun w => by kernel_rfl) ?_; clear hr a; intro a hr
        refine evD hgo ⟨⟨hv0.cell c4 (h.dn 0) 0 rfl, hv0.cell c4 (h.dn 0) 1 rfl, hv0.cell c4 (h.dn 0) 2 rfl, hv0.cell c4 (h.dn 0) 3 rfl, hv0.cell c4 (h.dn 0) 4 rfl, hv0.cell c4 (h.dn 0) 5 rfl, trivial⟩, ⟨hv1.cell c5 (h.dn 0) 0 rfl, hv1.cell c5 (h.dn 0) 1 rfl, hv1.cell c5 (h.dn 0) 2 rfl, hv1.cell c5 (h.dn 0) 3 rfl, hv1.cell c5 (h.dn 0) 4 rfl, hv1.cell c5 (h.dn 0) 5 rfl, trivial⟩, trivial⟩ 3 6 rfl (by kernel_rfl) (wn rfl) hr (.pointer (some ⟨blk va1, offs va1 + g2.toNat * 6, none⟩)) (fun w => ri_rd (k := .i64) (E := 90) (cc := vc1) rfl (by kernel_rfl) (by kernel_rfl) rfl (by kernel_rfl) (by kernel_rfl) hv1 c5) ?_; clear hr a; intro a hr
        refine el [2, 6] (b := blk va0) (off := offs va0 + g2.toNat * 6) (cs := [.int .i64 ((at_ p0 g2.toNat).Who), .int .i64 ((at_ p0 g2.toNat).Kind), .int .i64 ((at_ p0 g2.toNat).Addr), .int .i64 ((at_ p0 g2.toNat).A), .int .i64 ((at_ p0 g2.toNat).B), .bool ((at_ p0 g2.toNat).OK)]) (fun _ hk => ⟨hk, fun w hD => hD.1⟩) 2 3 rfl (by kernel_rfl) (wn rfl) hr (.agg #[.int .i64 ((at_ p0 g2.toNat).Who), .int .i64 ((at_ p0 g2.toNat).Kind), .int .i64 ((at_ p0 g2.toNat).Addr), .int .i64 ((at_ p0 g2.toNat).A), .int .i64 ((at_ p0 g2.toNat).B), .bool ((at_ p0 g2.toNat).OK)]) ⟨hv0.cell c4 (h.dn 0) 0 rfl, hv0.cell c4 (h.dn 0) 1 rfl, hv0.cell c4 (h.dn 0) 2 rfl, hv0.cell c4 (h.dn 0) 3 rfl, hv0.cell c4 (h.dn 0) 4 rfl, hv0.cell c4 (h.dn 0) 5 rfl, trivial⟩ (fun w hc => rlm (cs := [.int .i64 ((at_ p0 g2.toNat).Who), .int .i64 ((at_ p0 g2.toNat).Kind), .int .i64 ((at_ p0 g2.toNat).Addr), .int .i64 ((at_ p0 g2.toNat).A), .int .i64 ((at_ p0 g2.toNat).B), .bool ((at_ p0 g2.toNat).OK)]) rfl (by kernel_rfl) (by kernel_rfl) (by kernel_rfl) hc) ?_; clear hr a; intro a hr
        refine el [2, 6] (b := blk va1) (off := offs va1 + g2.toNat * 6) (cs := [.int .i64 ((at_ p1 g2.toNat).Who), .int .i64 ((at_ p1 g2.toNat).Kind), .int .i64 ((at_ p1 g2.toNat).Addr), .int .i64 ((at_ p1 g2.toNat).A), .int .i64 ((at_ p1 g2.toNat).B), .bool ((at_ p1 g2.toNat).OK)]) (fun _ hk => ⟨hk, fun w hD => hD.2.1⟩) 1 7 rfl (by kernel_rfl) (wn rfl) hr (.agg #[.int .i64 ((at_ p1 g2.toNat).Who), .int .i64 ((at_ p1 g2.toNat).Kind), .int .i64 ((at_ p1 g2.toNat).Addr), .int .i64 ((at_ p1 g2.toNat).A), .int .i64 ((at_ p1 g2.toNat).B), .bool ((at_ p1 g2.toNat).OK)]) ⟨hv1.cell c5 (h.dn 0) 0 rfl, hv1.cell c5 (h.dn 0) 1 rfl, hv1.cell c5 (h.dn 0) 2 rfl, hv1.cell c5 (h.dn 0) 3 rfl, hv1.cell c5 (h.dn 0) 4 rfl, hv1.cell c5 (h.dn 0) 5 rfl, trivial⟩ (fun w hc => rlm (cs := [.int .i64 ((at_ p1 g2.toNat).Who), .int .i64 ((at_ p1 g2.toNat).Kind), .int .i64 ((at_ p1 g2.toNat).Addr), .int .i64 ((at_ p1 g2.toNat).A), .int .i64 ((at_ p1 g2.toNat).B), .bool ((at_ p1 g2.toNat).OK)]) rfl (by kernel_rfl) (by kernel_rfl) (by kernel_rfl) hc) ?_; clear hr a; intro a hr
        refine ev 0 8 rfl (by kernel_rfl) (wn rfl) hr (.bool (!(decide (at_ p0 g2.toNat = at_ p1 g2.toNat)))) (fun w => rb (rne rfl (by kernel_rfl) (by kernel_rfl) (by kernel_rfl) (by kernel_rfl) (by kernel_rfl) (by kernel_rfl)) (congrArg (!·) (eq_T_api_Access (at_ p0 g2.toNat) (at_ p1 g2.toNat)))) ?_; clear hr a; intro a hr
        refine e_end (by kernel_rfl) ?_
        refine then_normal ?_
        by_cases c6 : at_ p0 g2.toNat = at_ p1 g2.toNat
        ·
          replace H := ifT c6 H
          refine cond_ff hr (b := (!(decide (at_ p0 g2.toNat = at_ p1 g2.toNat)))) (by rw [show (decide (at_ p0 g2.toNat = at_ p1 g2.toNat)) = true from (decide_eq_true c6)]; rfl) ?_
          refine wp_skip ?_
          refine blk_normal ?_
          refine then_normal ?_
          refine wp_region_lit ?_
          refine ovs [15, 16, 5] [.int .i64 g2, .int .i64 (wi (g2 + (1 : Int))), .int .i64 (wi (g2 + (1 : Int)))] hr ⟨rfl, rfl⟩ (by kernel_rfl) ?_; clear hr a; intro a hr
          refine wpList_nil ?_
          refine then_normal ?_
          replace hr := hr.fold2 [(0, .slice va0 p0.length vc0), (1, .slice va1 p1.length vc1), (5, .int .i64 (wi (g2 + (1 : Int))))] (by kernel_rfl); obtain ⟨j, hr⟩ := hr
          exact ⟨_, ⟨(wi (g2 + (1 : Int))), H, j, hr, h⟩, Nat.lt_succ_self _⟩
        ·
          replace H := ifF c6 H
          refine cond_tt hr (b := (!(decide (at_ p0 g2.toNat = at_ p1 g2.toNat)))) (by rw [show (decide (at_ p0 g2.toNat = at_ p1 g2.toNat)) = false from (decide_eq_false c6)]; rfl) ?_
          refine wp_seq ?_
          refine wp_region_lit ?_
          refine ov hr (.bool false) (by kernel_rfl) ?_; clear hr a; intro a hr
          refine wpList_nil ?_
          refine then_normal ?_
          refine wp_ret ?_
          refine blk_ret ?_
          refine then_ret ?_
          refine then_ret ?_
          refine blk_ret ?_
          refine then_ret ?_
          refine end_ret1 (v := .bool false) rfl hr (by kernel_rfl) ?_
          replace H := ej1 H; subst H
          exact ⟨rfl, h⟩
      ·
        replace H := ifF c3 H
        refine cond_ff hr (b := (decide (g2 < ((p0.length : Nat) : Int)))) (decide_eq_false c3) ?_
        refine wp_exit ?_
        refine then_exit ?_
        refine then_exit ?_
        refine blk_here ?_
        refine then_normal ?_
        refine wp_seq ?_
        refine wp_region_lit ?_
        refine ov hr (.bool true) (by kernel_rfl) ?_; clear hr a; intro a hr
        refine wpList_nil ?_
        refine then_normal ?_
        refine wp_ret ?_
        refine end_ret1 (v := .bool true) rfl hr (by kernel_rfl) ?_
        replace H := ej1 H; subst H
        exact ⟨rfl, h⟩
  ·
    replace H := ifF c1 H
    refine cond_tt hr (b := (((p0.length : Nat) : Int) != ((p1.length : Nat) : Int))) (bne_iff_ne.mpr c1) ?_
    refine wp_seq ?_
    refine wp_region_lit ?_
    refine ov hr (.bool false) (by kernel_rfl) ?_; clear hr a; intro a hr
    refine wpList_nil ?_
    refine then_normal ?_
    refine wp_ret ?_
    refine then_ret ?_
    refine end_ret1 (v := .bool false) rfl hr (by kernel_rfl) ?_
    replace H := ej1 H; subst H
    exact ⟨rfl, h⟩

/-- plunder/plunderlaw2.entry -/
def plunderlaw2_entry (p0 : Int) : Option (T_api_Access) :=
  some (⟨-3, 9, -4, p0, wi (0 - p0), true⟩ : T_api_Access)
set_option maxRecDepth 100000 in
set_option maxHeartbeats 4000000 in
theorem plunderlaw2_entry_ok {z w : World} {L : List HProp} {p0 : Int} {r0 : T_api_Access} (H : plunderlaw2_entry p0 = some r0) (h : Fit z (sepL (L)) w)  :
    Calls Try.prog 91 #[.int .i64 p0] w fun e w => e = .returned (.agg #[.int .i64 r0.Who, .int .i64 r0.Kind, .int .i64 r0.Addr, .int .i64 r0.A, .int .i64 r0.B, .bool r0.OK]) ∧ Fit z (sepL (L)) w := by
  unfold plunderlaw2_entry at H
  refine enter Try.func91 rfl 7 rfl rfl [(0, .int .i64 p0)] ⟨rfl, trivial⟩ ?_
  intro j a hr
  refine wp_seq ?_
  refine wp_region_lit ?_
  refine op_new (wn rfl) rfl rfl hr h (vf := fun b => .pointer (some ⟨b, 0, none⟩)) (cs := #[.int .i64 0, .int .i64 0, .int .i64 0, .int .i64 0, .int .i64 0, .bool false]) (T := 90) (by kernel_rfl) ?_; clear h hr a; intro b1 w a h hr
  refine wpList_nil ?_
  refine then_normal ?_
  refine wp_seq ?_
  refine wp_region_lit ?_
  refine ovs [3, 4, 5, 6] [.int .i64 p0, .int .i64 p0, .int .i64 (wi (0 - p0)), .agg #[.int .i64 (-3), .int .i64 9, .int .i64 (-4), .int .i64 p0, .int .i64 (wi (0 - p0)), .bool true]] hr ⟨rfl, rfl⟩ (by kernel_rfl) ?_; clear hr a; intro a hr
  refine op_stores (wn rfl) rfl hr rfl (by kernel_rfl) (by kernel_rfl) (vs := [.int .i64 (-3), .int .i64 9, .int .i64 (-4), .int .i64 p0, .int .i64 (wi (0 - p0)), .bool true]) rfl rfl (by kernel_rfl) h (i := 0) (cs' := #[.int .i64 (-3), .int .i64 9, .int .i64 (-4), .int .i64 p0, .int .i64 (wi (0 - p0)), .bool true]) rfl ?_; clear h; intro w h
  refine wpList_nil ?_
  replace h : Fit z (sepL (pts b1 (.cells #[.int .i64 (-3), .int .i64 9, .int .i64 (-4), .int .i64 p0, .int .i64 (wi (0 - p0)), .bool true] 90) :: L)) _ := h
  refine then_normal ?_
  refine wp_ret ?_
  refine end_retC (cs := [.int .i64 (-3), .int .i64 9, .int .i64 (-4), .int .i64 p0, .int .i64 (wi (0 - p0)), .bool true]) rfl hr (by kernel_rfl) (by kernel_rfl) (by kernel_rfl) ⟨h.cell 0 rfl, h.cell 1 rfl, h.cell 2 rfl, h.cell 3 rfl, h.cell 4 rfl, h.cell 5 rfl, trivial⟩ ?_
  replace h : Fit z (sepL (L)) _ := h.sel 1 [] (by kernel_rfl) (by kernel_rfl)
  replace H := ej1 H; subst H
  exact ⟨rfl, h⟩


end Go.Proofs.Ytacgigkonoegiaa.Mo
