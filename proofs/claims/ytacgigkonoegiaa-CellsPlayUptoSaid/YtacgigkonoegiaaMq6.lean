/- what the functions compute, as plain Lean functions, and that they do -/
import Derived.Test.YtacgigkonoegiaaMq5
namespace Go.Proofs.Ytacgigkonoegiaa.Mo
open Go Go.RowKit Go.Proofs.Ytacgigkonoegiaa.SL Go.Proofs.Ytacgigkonoegiaa.GX
set_option linter.unusedVariables false
set_option linter.unusedSimpArgs false

def plunderlaw2_book_stands_l1 (K : Nat) (p0 : T_plunderlaw2_book) : Nat → Int → Option ((Unit) ⊕ (Bool))
  | 0, _ => none
  | k1 + 1, g7 => (if g7 < ((p0.numberLists.length : Nat) : Int) then if inr_ g7 p0.numberLists.length then ob1 (plunderlaw2_stand K (at_ p0.numberLists g7.toNat)) (fun r20 => (if r20 = true then (plunderlaw2_book_stands_l1 K p0 k1 (wi (g7 + (1 : Int)))) else some (.inr false))) else none else some (.inl ()))
def plunderlaw2_book_stands_l2 (K : Nat) (p0 : T_plunderlaw2_book) : Nat → Int → Option (Bool)
  | 0, _ => none
  | k2 + 1, g23 => (if g23 < ((p0.accessLists.length : Nat) : Int) then if inr_ g23 p0.accessLists.length then ob1 (plunderlaw2_plain K ((at_ p0.accessLists g23.toNat).l)) (fun r37 => ob1 (plunderlaw2_plain K ((at_ p0.accessLists g23.toNat).g1)) (fun r41 => ob1 (plunderlaw2_plain K ((at_ p0.accessLists g23.toNat).g2)) (fun r45 => ob1 (plunderlaw2_plain K ((at_ p0.accessLists g23.toNat).g3)) (fun r49 => ob1 (plunderlaw2_stand K (⟨(at_ p0.accessLists g23.toNat).m, r37, r41, r45, r49⟩ : T_plunderlaw2_kept)) (fun r53 => (if r53 = true then (plunderlaw2_book_stands_l2 K p0 k2 (wi (g23 + (1 : Int)))) else some false)))))) else none else some true)
/-- (*plunder/plunderlaw2.book).stands -/
def plunderlaw2_book_stands (K : Nat) (p0 : T_plunderlaw2_book) : Option (Bool) :=
  jn0 ((plunderlaw2_book_stands_l1 K p0 K 0)) ((plunderlaw2_book_stands_l2 K p0 K 0))
set_option maxRecDepth 100000 in
set_option maxHeartbeats 4000000 in
theorem plunderlaw2_book_stands_ok {z w : World} {L : List HProp} {K : Nat} {p0 : T_plunderlaw2_book} {B0 : Nat} {ca1 : Option Addr} {cc2 : Nat} {ca3 : Option Addr} {cc4 : Nat} {r0 : Bool} (H : plunderlaw2_book_stands K p0 = some r0) (h : Fit z (sepL (ob78 B0 p0 ca1 cc2 ca3 cc4 :: rn139 ca1 cc2 p0.numberLists :: rn142 ca3 cc4 p0.accessLists :: L)) w)  :
    Calls Try.prog 45 #[.pointer (some ⟨B0, 0, none⟩)] w fun e w => e = .returned (.bool r0) ∧ Fit z (sepL (ob78 B0 p0 ca1 cc2 ca3 cc4 :: rn139 ca1 cc2 p0.numberLists :: rn142 ca3 cc4 p0.accessLists :: L)) w := by
  unfold plunderlaw2_book_stands at H
  refine enter Try.func45 rfl 57 rfl rfl [(0, .pointer (some ⟨B0, 0, none⟩))] ⟨rfl, trivial⟩ ?_
  intro j a hr
  refine wp_seq ?_
  refine wp_region_lit ?_
  refine ov hr (.bool false) (by kernel_rfl) ?_; clear hr a; intro a hr
  refine wpList_nil ?_
  refine then_normal ?_
  replace H := jd0 H; obtain ⟨o6, H, hK5⟩ := H
  refine cut_rule (β := Unit) (fun _ a w => .inl () = o6 ∧ ∃ j, Rep 57 (lk [(0, .pointer (some ⟨B0, 0, none⟩))] j) a ∧ Fit z (sepL (ob78 B0 p0 ca1 cc2 ca3 cc4 :: rn139 ca1 cc2 p0.numberLists :: rn142 ca3 cc4 p0.accessLists :: L)) w) ?_ ?_
  ·
    refine wp_seq ?_
    refine wp_region_lit ?_
    refine ov hr (.int .i64 0) (by kernel_rfl) ?_; clear hr a; intro a hr
    refine wpList_nil ?_
    refine then_normal ?_
    refine wp_block ?_
    replace hr := hr.fold2 [(0, .pointer (some ⟨B0, 0, none⟩)), (3, .int .i64 0)] (by kernel_rfl); obtain ⟨j, hr⟩ := hr
    refine loop_rule (β := Nat) id (fun m a w => ∃ g7 : Int, (plunderlaw2_book_stands_l1 K p0 m g7) = some o6 ∧ ∃ j, Rep 57 (lk [(0, .pointer (some ⟨B0, 0, none⟩)), (3, .int .i64 g7)] j) a ∧ Fit z (sepL (ob78 B0 p0 ca1 cc2 ca3 cc4 :: rn139 ca1 cc2 p0.numberLists :: rn142 ca3 cc4 p0.accessLists :: L)) w) K ⟨0, H, j, hr, h⟩ ?_
    clear h hr a H; rintro k1 a w ⟨g7, H, j, hr, h⟩
    cases k1 with
    | zero => exact absurd H (by simp [plunderlaw2_book_stands_l1])
    | succ k1 =>
      rw [plunderlaw2_book_stands_l1] at H
      refine wp_seq ?_
      refine wp_seq ?_
      refine wp_region_lit ?_
      refine ovs [6, 7, 8, 9] [.int .i64 g7, .pointer (some ⟨B0, 0, none⟩), .pointer (some ⟨B0, 0, none⟩), .pointer (some ⟨B0, 0, none⟩)] hr ⟨rfl, rfl⟩ (by kernel_rfl) ?_; clear hr a; intro a hr
      refine op_val (wn rfl) rfl rfl hr (v := .slice ca1 p0.numberLists.length cc2) (rl rfl (by kernel_rfl) (by kernel_rfl) (h.cell 0 rfl)) ?_; clear hr a; intro a hr
      refine ovs [11, 12] [.int .i64 ((p0.numberLists.length : Nat) : Int), .bool (decide (g7 < ((p0.numberLists.length : Nat) : Int)))] hr ⟨rfl, rfl⟩ (by kernel_rfl) ?_; clear hr a; intro a hr
      refine wpList_nil ?_
      refine then_normal ?_
      by_cases c8 : g7 < ((p0.numberLists.length : Nat) : Int)
      ·
        replace H := ifT c8 H
        refine cond_tt hr (b := (decide (g7 < ((p0.numberLists.length : Nat) : Int)))) (decide_eq_true c8) ?_
        refine wp_skip ?_
        refine then_normal ?_
        refine wp_seq ?_
        refine wp_block ?_
        refine wp_seq ?_
        refine wp_region_lit ?_
        refine ovs [15, 16, 17] [.pointer (some ⟨B0, 0, none⟩), .pointer (some ⟨B0, 0, none⟩), .pointer (some ⟨B0, 0, none⟩)] hr ⟨rfl, rfl⟩ (by kernel_rfl) ?_; clear hr a; intro a hr
        refine op_val (wn rfl) rfl rfl hr (v := .slice ca1 p0.numberLists.length cc2) (rl rfl (by kernel_rfl) (by kernel_rfl) (h.cell 0 rfl)) ?_; clear hr a; intro a hr
        replace H := gd H; obtain ⟨c9, H⟩ := H
        refine ov hr (.int .i64 g7) (by kernel_rfl) ?_; clear hr a; intro a hr
        refine op_val (wn rfl) rfl rfl hr (v := .pointer (some ⟨blk ca1, g7.toNat * 5, none⟩)) (ri_rowN (k := .i64) (E := 139) rfl (by kernel_rfl) (by kernel_rfl) (by kernel_rfl) (by kernel_rfl) (h.pick 1) c9) ?_; clear hr a; intro a hr
        obtain ⟨cs19, h⟩ := (h.pick 1).rowN_take (at_ok c9)
        obtain ⟨ca10, cc11, ca12, cc13, ca14, cc15, ca16, cc17, e18, h⟩ := own_T_plunderlaw2_kept_op (h.pick 1); subst e18
        replace h : Fit z (sepL (ro2 ca10 cc11 ((at_ p0.numberLists g7.toNat).l) :: ro2 ca12 cc13 ((at_ p0.numberLists g7.toNat).g1) :: ro2 ca14 cc15 ((at_ p0.numberLists g7.toNat).g2) :: ro2 ca16 cc17 ((at_ p0.numberLists g7.toNat).g3) :: rowH 139 5 own_T_plunderlaw2_kept (.slice ca1 p0.numberLists.length cc2) p0.numberLists g7.toNat [.int .i64 ((at_ p0.numberLists g7.toNat).m), .slice ca10 (((at_ p0.numberLists g7.toNat).l).length) cc11, .slice ca12 (((at_ p0.numberLists g7.toNat).g1).length) cc13, .slice ca14 (((at_ p0.numberLists g7.toNat).g2).length) cc15, .slice ca16 (((at_ p0.numberLists g7.toNat).g3).length) cc17] :: ob78 B0 p0 ca1 cc2 ca3 cc4 :: rn142 ca3 cc4 p0.accessLists :: L)) _ := h
        refine op_val (wn rfl) rfl rfl hr (v := .agg #[.int .i64 ((at_ p0.numberLists g7.toNat).m), .slice ca10 (((at_ p0.numberLists g7.toNat).l).length) cc11, .slice ca12 (((at_ p0.numberLists g7.toNat).g1).length) cc13, .slice ca14 (((at_ p0.numberLists g7.toNat).g2).length) cc15, .slice ca16 (((at_ p0.numberLists g7.toNat).g3).length) cc17]) (rlm (cs := [.int .i64 ((at_ p0.numberLists g7.toNat).m), .slice ca10 (((at_ p0.numberLists g7.toNat).l).length) cc11, .slice ca12 (((at_ p0.numberLists g7.toNat).g1).length) cc13, .slice ca14 (((at_ p0.numberLists g7.toNat).g2).length) cc15, .slice ca16 (((at_ p0.numberLists g7.toNat).g3).length) cc17]) rfl (by kernel_rfl) (by kernel_rfl) (by kernel_rfl) ⟨(h.pick 4).rowH_cell (by decide) (f := 0) rfl, (h.pick 4).rowH_cell (by decide) (f := 1) rfl, (h.pick 4).rowH_cell (by decide) (f := 2) rfl, (h.pick 4).rowH_cell (by decide) (f := 3) rfl, (h.pick 4).rowH_cell (by decide) (f := 4) rfl, trivial⟩) ?_; clear hr a; intro a hr
        replace H := bd1 H; obtain ⟨r20, e21, H⟩ := H
        have hc := plunderlaw2_stand_ok (H := e21) (h := h)
        refine op_call (wn rfl) rfl rfl hr (f := 92) (args := #[.agg #[.int .i64 ((at_ p0.numberLists g7.toNat).m), .slice ca10 (((at_ p0.numberLists g7.toNat).l).length) cc11, .slice ca12 (((at_ p0.numberLists g7.toNat).g1).length) cc13, .slice ca14 (((at_ p0.numberLists g7.toNat).g2).length) cc15, .slice ca16 (((at_ p0.numberLists g7.toNat).g3).length) cc17]]) (by kernel_rfl) hc ?_; clear hc h
        rintro _ w ⟨rfl, h⟩; refine ⟨_, rfl, ?_⟩
        clear hr a; intro a hr
        refine ov hr (.bool (!r20)) (by kernel_rfl) ?_; clear hr a; intro a hr
        refine wpList_nil ?_
        refine then_normal ?_
        by_cases c22 : r20 = true
        ·
          replace H := ifT c22 H
          refine cond_ff hr (b := (!r20)) (by rw [show r20 = true from (c22)]; rfl) ?_
          refine wp_skip ?_
          refine blk_normal ?_
          refine then_normal ?_
          refine wp_region_lit ?_
          refine ovs [13, 14, 3] [.int .i64 g7, .int .i64 (wi (g7 + (1 : Int))), .int .i64 (wi (g7 + (1 : Int)))] hr ⟨rfl, rfl⟩ (by kernel_rfl) ?_; clear hr a; intro a hr
          refine wpList_nil ?_
          refine then_normal ?_
          replace h := own_T_plunderlaw2_kept_sh (x := (at_ p0.numberLists g7.toNat)) h
          replace h : Fit z (sepL (rn139 ca1 cc2 p0.numberLists :: ob78 B0 p0 ca1 cc2 ca3 cc4 :: rn142 ca3 cc4 p0.accessLists :: L)) _ := Fit.rowH_same (h.pick 1)
          replace hr := hr.fold2 [(0, .pointer (some ⟨B0, 0, none⟩)), (3, .int .i64 (wi (g7 + (1 : Int))))] (by kernel_rfl); obtain ⟨j, hr⟩ := hr
          replace h : Fit z (sepL (ob78 B0 p0 ca1 cc2 ca3 cc4 :: rn139 ca1 cc2 p0.numberLists :: rn142 ca3 cc4 p0.accessLists :: L)) _ := h.sel 3 [1, 0, 2] (by kernel_rfl) (by kernel_rfl)
          exact ⟨_, ⟨(wi (g7 + (1 : Int))), H, j, hr, h⟩, Nat.lt_succ_self _⟩
        ·
          replace H := ifF c22 H
          refine cond_tt hr (b := (!r20)) (by rw [show r20 = false from (bF c22)]; rfl) ?_
          refine wp_seq ?_
          refine wp_region_lit ?_
          refine ov hr (.bool false) (by kernel_rfl) ?_; clear hr a; intro a hr
          refine wpList_nil ?_
          refine then_normal ?_
          refine wp_ret ?_
          refine blk_ret ?_
          refine then_ret ?_
          refine then_ret ?_
          refine blk_ret ?_
          refine then_ret ?_
          refine end_ret1 (v := .bool false) rfl hr (by kernel_rfl) ?_
          replace h := own_T_plunderlaw2_kept_sh (x := (at_ p0.numberLists g7.toNat)) h
          replace h : Fit z (sepL (rn139 ca1 cc2 p0.numberLists :: ob78 B0 p0 ca1 cc2 ca3 cc4 :: rn142 ca3 cc4 p0.accessLists :: L)) _ := Fit.rowH_same (h.pick 1)
          replace H := jx0 H hK5
          replace h : Fit z (sepL (ob78 B0 p0 ca1 cc2 ca3 cc4 :: rn139 ca1 cc2 p0.numberLists :: rn142 ca3 cc4 p0.accessLists :: L)) _ := h.sel 3 [1, 0, 2] (by kernel_rfl) (by kernel_rfl)
          replace H := ej1 H; subst H
          exact ⟨rfl, h⟩
      ·
        replace H := ifF c8 H
        refine cond_ff hr (b := (decide (g7 < ((p0.numberLists.length : Nat) : Int)))) (decide_eq_false c8) ?_
        refine wp_exit ?_
        refine then_exit ?_
        refine then_exit ?_
        refine blk_here ?_
        refine then_normal ?_
        replace hr := hr.fold2 [(0, .pointer (some ⟨B0, 0, none⟩))] (by kernel_rfl); obtain ⟨j, hr⟩ := hr
        exact ⟨(), sinj H, j, hr, h⟩
  clear h hr a; rintro _ a w ⟨rfl, j, hr, h⟩
  replace H := jk0 hK5
  refine wp_seq ?_
  refine wp_seq ?_
  refine wp_region_lit ?_
  refine ov hr (.int .i64 0) (by kernel_rfl) ?_; clear hr a; intro a hr
  refine wpList_nil ?_
  refine then_normal ?_
  refine wp_block ?_
  replace hr := hr.fold2 [(0, .pointer (some ⟨B0, 0, none⟩)), (4, .int .i64 0)] (by kernel_rfl); obtain ⟨j, hr⟩ := hr
  refine loop_rule (β := Nat) id (fun m a w => ∃ g23 : Int, (plunderlaw2_book_stands_l2 K p0 m g23) = some r0 ∧ ∃ j, Rep 57 (lk [(0, .pointer (some ⟨B0, 0, none⟩)), (4, .int .i64 g23)] j) a ∧ Fit z (sepL (ob78 B0 p0 ca1 cc2 ca3 cc4 :: rn139 ca1 cc2 p0.numberLists :: rn142 ca3 cc4 p0.accessLists :: L)) w) K ⟨0, H, j, hr, h⟩ ?_
  clear h hr a H; rintro k2 a w ⟨g23, H, j, hr, h⟩
  cases k2 with
  | zero => exact absurd H (by simp [plunderlaw2_book_stands_l2])
  | succ k2 =>
    rw [plunderlaw2_book_stands_l2] at H
    refine wp_seq ?_
    refine wp_seq ?_
    refine wp_region_lit ?_
    refine ovs [24, 25, 26, 27] [.int .i64 g23, .pointer (some ⟨B0, 0, none⟩), .pointer (some ⟨B0, 0, none⟩), .pointer (some ⟨B0, 1, none⟩)] hr ⟨rfl, rfl⟩ (by kernel_rfl) ?_; clear hr a; intro a hr
    refine op_val (wn rfl) rfl rfl hr (v := .slice ca3 p0.accessLists.length cc4) (rl rfl (by kernel_rfl) (by kernel_rfl) (h.cell 1 rfl)) ?_; clear hr a; intro a hr
    refine ovs [29, 30] [.int .i64 ((p0.accessLists.length : Nat) : Int), .bool (decide (g23 < ((p0.accessLists.length : Nat) : Int)))] hr ⟨rfl, rfl⟩ (by kernel_rfl) ?_; clear hr a; intro a hr
    refine wpList_nil ?_
    refine then_normal ?_
    by_cases c24 : g23 < ((p0.accessLists.length : Nat) : Int)
    ·
      replace H := ifT c24 H
      refine cond_tt hr (b := (decide (g23 < ((p0.accessLists.length : Nat) : Int)))) (decide_eq_true c24) ?_
      refine wp_skip ?_
      refine then_normal ?_
      refine wp_seq ?_
      refine wp_block ?_
      refine wp_seq ?_
      refine wp_region_lit ?_
      refine ovs [33, 34, 35] [.pointer (some ⟨B0, 0, none⟩), .pointer (some ⟨B0, 0, none⟩), .pointer (some ⟨B0, 1, none⟩)] hr ⟨rfl, rfl⟩ (by kernel_rfl) ?_; clear hr a; intro a hr
      refine op_val (wn rfl) rfl rfl hr (v := .slice ca3 p0.accessLists.length cc4) (rl rfl (by kernel_rfl) (by kernel_rfl) (h.cell 1 rfl)) ?_; clear hr a; intro a hr
      replace H := gd H; obtain ⟨c25, H⟩ := H
      refine ov hr (.int .i64 g23) (by kernel_rfl) ?_; clear hr a; intro a hr
      refine op_val (wn rfl) rfl rfl hr (v := .pointer (some ⟨blk ca3, g23.toNat * 5, none⟩)) (ri_rowN (k := .i64) (E := 142) rfl (by kernel_rfl) (by kernel_rfl) (by kernel_rfl) (by kernel_rfl) (h.pick 2) c25) ?_; clear hr a; intro a hr
      obtain ⟨cs35, h⟩ := (h.pick 2).rowN_take (at_ok c25)
      obtain ⟨ca26, cc27, ca28, cc29, ca30, cc31, ca32, cc33, e34, h⟩ := own_T_plunderlaw2_noted_op (h.pick 1); subst e34
      replace h : Fit z (sepL (ro90 ca26 cc27 ((at_ p0.accessLists g23.toNat).l) :: ro90 ca28 cc29 ((at_ p0.accessLists g23.toNat).g1) :: ro90 ca30 cc31 ((at_ p0.accessLists g23.toNat).g2) :: ro90 ca32 cc33 ((at_ p0.accessLists g23.toNat).g3) :: rowH 142 5 own_T_plunderlaw2_noted (.slice ca3 p0.accessLists.length cc4) p0.accessLists g23.toNat [.int .i64 ((at_ p0.accessLists g23.toNat).m), .slice ca26 (((at_ p0.accessLists g23.toNat).l).length) cc27, .slice ca28 (((at_ p0.accessLists g23.toNat).g1).length) cc29, .slice ca30 (((at_ p0.accessLists g23.toNat).g2).length) cc31, .slice ca32 (((at_ p0.accessLists g23.toNat).g3).length) cc33] :: ob78 B0 p0 ca1 cc2 ca3 cc4 :: rn139 ca1 cc2 p0.numberLists :: L)) _ := h
      refine op_val (wn rfl) rfl rfl hr (v := .agg #[.int .i64 ((at_ p0.accessLists g23.toNat).m), .slice ca26 (((at_ p0.accessLists g23.toNat).l).length) cc27, .slice ca28 (((at_ p0.accessLists g23.toNat).g1).length) cc29, .slice ca30 (((at_ p0.accessLists g23.toNat).g2).length) cc31, .slice ca32 (((at_ p0.accessLists g23.toNat).g3).length) cc33]) (rlm (cs := [.int .i64 ((at_ p0.accessLists g23.toNat).m), .slice ca26 (((at_ p0.accessLists g23.toNat).l).length) cc27, .slice ca28 (((at_ p0.accessLists g23.toNat).g1).length) cc29, .slice ca30 (((at_ p0.accessLists g23.toNat).g2).length) cc31, .slice ca32 (((at_ p0.accessLists g23.toNat).g3).length) cc33]) rfl (by kernel_rfl) (by kernel_rfl) (by kernel_rfl) ⟨(h.pick 4).rowH_cell (by decide) (f := 0) rfl, (h.pick 4).rowH_cell (by decide) (f := 1) rfl, (h.pick 4).rowH_cell (by decide) (f := 2) rfl, (h.pick 4).rowH_cell (by decide) (f := 3) rfl, (h.pick 4).rowH_cell (by decide) (f := 4) rfl, trivial⟩) ?_; clear hr a; intro a hr
      refine op_new (wn rfl) rfl rfl hr h (vf := fun b => .pointer (some ⟨b, 0, none⟩)) (cs := #[.int .i64 0, .slice none 0 0, .slice none 0 0, .slice none 0 0, .slice none 0 0]) (T := 142) (by kernel_rfl) ?_; clear h hr a; intro b36 w a h hr
      refine op_stores (wn rfl) rfl hr rfl (by kernel_rfl) (by kernel_rfl) (vs := [.int .i64 ((at_ p0.accessLists g23.toNat).m), .slice ca26 (((at_ p0.accessLists g23.toNat).l).length) cc27, .slice ca28 (((at_ p0.accessLists g23.toNat).g1).length) cc29, .slice ca30 (((at_ p0.accessLists g23.toNat).g2).length) cc31, .slice ca32 (((at_ p0.accessLists g23.toNat).g3).length) cc33]) rfl rfl (by kernel_rfl) h (i := 0) (cs' := #[.int .i64 ((at_ p0.accessLists g23.toNat).m), .slice ca26 (((at_ p0.accessLists g23.toNat).l).length) cc27, .slice ca28 (((at_ p0.accessLists g23.toNat).g1).length) cc29, .slice ca30 (((at_ p0.accessLists g23.toNat).g2).length) cc31, .slice ca32 (((at_ p0.accessLists g23.toNat).g3).length) cc33]) rfl ?_; clear h; intro w h
      refine wpList_nil ?_
      replace h : Fit z (sepL (pts b36 (.cells #[.int .i64 ((at_ p0.accessLists g23.toNat).m), .slice ca26 (((at_ p0.accessLists g23.toNat).l).length) cc27, .slice ca28 (((at_ p0.accessLists g23.toNat).g1).length) cc29, .slice ca30 (((at_ p0.accessLists g23.toNat).g2).length) cc31, .slice ca32 (((at_ p0.accessLists g23.toNat).g3).length) cc33] 142) :: ro90 ca26 cc27 ((at_ p0.accessLists g23.toNat).l) :: ro90 ca28 cc29 ((at_ p0.accessLists g23.toNat).g1) :: ro90 ca30 cc31 ((at_ p0.accessLists g23.toNat).g2) :: ro90 ca32 cc33 ((at_ p0.accessLists g23.toNat).g3) :: rowH 142 5 own_T_plunderlaw2_noted (.slice ca3 p0.accessLists.length cc4) p0.accessLists g23.toNat [.int .i64 ((at_ p0.accessLists g23.toNat).m), .slice ca26 (((at_ p0.accessLists g23.toNat).l).length) cc27, .slice ca28 (((at_ p0.accessLists g23.toNat).g1).length) cc29, .slice ca30 (((at_ p0.accessLists g23.toNat).g2).length) cc31, .slice ca32 (((at_ p0.accessLists g23.toNat).g3).length) cc33] :: ob78 B0 p0 ca1 cc2 ca3 cc4 :: rn139 ca1 cc2 p0.numberLists :: L)) _ := h
      refine then_normal ?_
      refine wp_seq ?_
      replace H := bd1 H; obtain ⟨r37, e38, H⟩ := H
      replace H := bd1 H; obtain ⟨r41, e42, H⟩ := H
      replace H := bd1 H; obtain ⟨r45, e46, H⟩ := H
      replace H := bd1 H; obtain ⟨r49, e50, H⟩ := H
      replace H := bd1 H; obtain ⟨r53, e54, H⟩ := H
      refine reg_E (fun w => heldC w b36 0 [.int .i64 ((at_ p0.accessLists g23.toNat).m)] ∧ heldC w b36 1 [.slice ca26 (((at_ p0.accessLists g23.toNat).l).length) cc27] ∧ heldC w b36 2 [.slice ca28 (((at_ p0.accessLists g23.toNat).g1).length) cc29] ∧ heldC w b36 3 [.slice ca30 (((at_ p0.accessLists g23.toNat).g2).length) cc31] ∧ heldC w b36 4 [.slice ca32 (((at_ p0.accessLists g23.toNat).g3).length) cc33] ∧ True) [0, 2, 4, 5, 7, 8, 10, 11, 13] h (by kernel_rfl) ?_; intro w h
      change wpAnyE _ _ _ _ _ _ 17 (Array.replicate 17 false) a w
      have hgo : ∀ w w', CellsGo w w' → (heldC w b36 0 [.int .i64 ((at_ p0.accessLists g23.toNat).m)] ∧ heldC w b36 1 [.slice ca26 (((at_ p0.accessLists g23.toNat).l).length) cc27] ∧ heldC w b36 2 [.slice ca28 (((at_ p0.accessLists g23.toNat).g1).length) cc29] ∧ heldC w b36 3 [.slice ca30 (((at_ p0.accessLists g23.toNat).g2).length) cc31] ∧ heldC w b36 4 [.slice ca32 (((at_ p0.accessLists g23.toNat).g3).length) cc33] ∧ True) → heldC w' b36 0 [.int .i64 ((at_ p0.accessLists g23.toNat).m)] ∧ heldC w' b36 1 [.slice ca26 (((at_ p0.accessLists g23.toNat).l).length) cc27] ∧ heldC w' b36 2 [.slice ca28 (((at_ p0.accessLists g23.toNat).g1).length) cc29] ∧ heldC w' b36 3 [.slice ca30 (((at_ p0.accessLists g23.toNat).g2).length) cc31] ∧ heldC w' b36 4 [.slice ca32 (((at_ p0.accessLists g23.toNat).g3).length) cc33] ∧ True := fun w w' g hD => ⟨heldC_go _ _ _ _ _ g hD.1, heldC_go _ _ _ _ _ g hD.2.1, heldC_go _ _ _ _ _ g hD.2.2.1, heldC_go _ _ _ _ _ g hD.2.2.2.1, heldC_go _ _ _ _ _ g hD.2.2.2.2.1, trivial⟩
      refine evD hgo ⟨⟨h.cell 0 rfl, trivial⟩, ⟨h.cell 1 rfl, trivial⟩, ⟨h.cell 2 rfl, trivial⟩, ⟨h.cell 3 rfl, trivial⟩, ⟨h.cell 4 rfl, trivial⟩, trivial⟩ 16 0 rfl (by kernel_rfl) (wn rfl) hr (.pointer (some ⟨b36, 0, none⟩)) (fun w => by kernel_rfl) ?_; clear hr a; intro a hr
      refine evD hgo ⟨⟨h.cell 0 rfl, trivial⟩, ⟨h.cell 1 rfl, trivial⟩, ⟨h.cell 2 rfl, trivial⟩, ⟨h.cell 3 rfl, trivial⟩, ⟨h.cell 4 rfl, trivial⟩, trivial⟩ 15 2 rfl (by kernel_rfl) (wn rfl) hr (.pointer (some ⟨b36, 1, none⟩)) (fun w => by kernel_rfl) ?_; clear hr a; intro a hr
      refine evD hgo ⟨⟨h.cell 0 rfl, trivial⟩, ⟨h.cell 1 rfl, trivial⟩, ⟨h.cell 2 rfl, trivial⟩, ⟨h.cell 3 rfl, trivial⟩, ⟨h.cell 4 rfl, trivial⟩, trivial⟩ 14 5 rfl (by kernel_rfl) (wn rfl) hr (.pointer (some ⟨b36, 2, none⟩)) (fun w => by kernel_rfl) ?_; clear hr a; intro a hr
      refine evD hgo ⟨⟨h.cell 0 rfl, trivial⟩, ⟨h.cell 1 rfl, trivial⟩, ⟨h.cell 2 rfl, trivial⟩, ⟨h.cell 3 rfl, trivial⟩, ⟨h.cell 4 rfl, trivial⟩, trivial⟩ 13 8 rfl (by kernel_rfl) (wn rfl) hr (.pointer (some ⟨b36, 3, none⟩)) (fun w => by kernel_rfl) ?_; clear hr a; intro a hr
      refine evD hgo ⟨⟨h.cell 0 rfl, trivial⟩, ⟨h.cell 1 rfl, trivial⟩, ⟨h.cell 2 rfl, trivial⟩, ⟨h.cell 3 rfl, trivial⟩, ⟨h.cell 4 rfl, trivial⟩, trivial⟩ 12 11 rfl (by kernel_rfl) (wn rfl) hr (.pointer (some ⟨b36, 4, none⟩)) (fun w => by kernel_rfl) ?_; clear hr a; intro a hr
      refine el [0, 2, 4, 5, 7, 8, 10, 11, 13] (b := b36) (off := 0) (cs := [.int .i64 ((at_ p0.accessLists g23.toNat).m)]) (fun _ hk => ⟨hk, fun w hD => hD.1⟩) 11 1 rfl (by kernel_rfl) (wn rfl) hr (.int .i64 ((at_ p0.accessLists g23.toNat).m)) ⟨h.cell 0 rfl, trivial⟩ (fun w hc => rl rfl (by kernel_rfl) (by kernel_rfl) hc.1) ?_; clear hr a; intro a hr
      refine el [0, 2, 4, 5, 7, 8, 10, 11, 13] (b := b36) (off := 1) (cs := [.slice ca26 (((at_ p0.accessLists g23.toNat).l).length) cc27]) (fun _ hk => ⟨hk, fun w hD => hD.2.1⟩) 10 3 rfl (by kernel_rfl) (wn rfl) hr (.slice ca26 (((at_ p0.accessLists g23.toNat).l).length) cc27) ⟨h.cell 1 rfl, trivial⟩ (fun w hc => rl rfl (by kernel_rfl) (by kernel_rfl) hc.1) ?_; clear hr a; intro a hr
      refine el [0, 2, 4, 5, 7, 8, 10, 11, 13] (b := b36) (off := 2) (cs := [.slice ca28 (((at_ p0.accessLists g23.toNat).g1).length) cc29]) (fun _ hk => ⟨hk, fun w hD => hD.2.2.1⟩) 9 6 rfl (by kernel_rfl) (wn rfl) hr (.slice ca28 (((at_ p0.accessLists g23.toNat).g1).length) cc29) ⟨h.cell 2 rfl, trivial⟩ (fun w hc => rl rfl (by kernel_rfl) (by kernel_rfl) hc.1) ?_; clear hr a; intro a hr
      refine el [0, 2, 4, 5, 7, 8, 10, 11, 13] (b := b36) (off := 3) (cs := [.slice ca30 (((at_ p0.accessLists g23.toNat).g2).length) cc31]) (fun _ hk => ⟨hk, fun w hD => hD.2.2.2.1⟩) 8 9 rfl (by kernel_rfl) (wn rfl) hr (.slice ca30 (((at_ p0.accessLists g23.toNat).g2).length) cc31) ⟨h.cell 3 rfl, trivial⟩ (fun w hc => rl rfl (by kernel_rfl) (by kernel_rfl) hc.1) ?_; clear hr a; intro a hr
      refine el [0, 2, 4, 5, 7, 8, 10, 11, 13] (b := b36) (off := 4) (cs := [.slice ca32 (((at_ p0.accessLists g23.toNat).g3).length) cc33]) (fun _ hk => ⟨hk, fun w hD => hD.2.2.2.2.1⟩) 7 12 rfl (by kernel_rfl) (wn rfl) hr (.slice ca32 (((at_ p0.accessLists g23.toNat).g3).length) cc33) ⟨h.cell 4 rfl, trivial⟩ (fun w hc => rl rfl (by kernel_rfl) (by kernel_rfl) hc.1) ?_; clear hr a; intro a hr
      refine e_one (fuel := 6) (i := 4) (by kernel_rfl) rfl ?_
      have hc := plunderlaw2_plain_ok (va0 := ca26) (vc0 := cc27) (hv0 := (RdRow.of_row enc_T_api_Access_ok (h.pick 1) (fun h => (h.pick 1)))) (H := e38) (h := h)
      refine op_call (wn rfl) rfl rfl hr (f := 93) (args := #[.slice ca26 (((at_ p0.accessLists g23.toNat).l).length) cc27]) (by kernel_rfl) hc ?_; clear hc h
      rintro _ w ⟨car39, ccr40, rfl, h⟩; refine ⟨_, rfl, ?_⟩
      clear hr a; intro a hr
      refine wpList_nil ?_; refine then_normal ?_
      refine ⟨fun _ => ⟨⟨(h.pick 1).cell 0 rfl, trivial⟩, ⟨(h.pick 1).cell 1 rfl, trivial⟩, ⟨(h.pick 1).cell 2 rfl, trivial⟩, ⟨(h.pick 1).cell 3 rfl, trivial⟩, ⟨(h.pick 1).cell 4 rfl, trivial⟩, trivial⟩, ?_⟩
      refine e_one (fuel := 5) (i := 7) (by kernel_rfl) rfl ?_
      have hc := plunderlaw2_plain_ok (va0 := ca28) (vc0 := cc29) (hv0 := (RdRow.of_row enc_T_api_Access_ok (h.pick 3) (fun h => (h.pick 3)))) (H := e42) (h := h)
      refine op_call (wn rfl) rfl rfl hr (f := 93) (args := #[.slice ca28 (((at_ p0.accessLists g23.toNat).g1).length) cc29]) (by kernel_rfl) hc ?_; clear hc h
      rintro _ w ⟨car43, ccr44, rfl, h⟩; refine ⟨_, rfl, ?_⟩
      clear hr a; intro a hr
      refine wpList_nil ?_; refine then_normal ?_
      refine ⟨fun _ => ⟨⟨(h.pick 2).cell 0 rfl, trivial⟩, ⟨(h.pick 2).cell 1 rfl, trivial⟩, ⟨(h.pick 2).cell 2 rfl, trivial⟩, ⟨(h.pick 2).cell 3 rfl, trivial⟩, ⟨(h.pick 2).cell 4 rfl, trivial⟩, trivial⟩, ?_⟩
      refine e_one (fuel := 4) (i := 10) (by kernel_rfl) rfl ?_
      have hc := plunderlaw2_plain_ok (va0 := ca30) (vc0 := cc31) (hv0 := (RdRow.of_row enc_T_api_Access_ok (h.pick 5) (fun h => (h.pick 5)))) (H := e46) (h := h)
      refine op_call (wn rfl) rfl rfl hr (f := 93) (args := #[.slice ca30 (((at_ p0.accessLists g23.toNat).g2).length) cc31]) (by kernel_rfl) hc ?_; clear hc h
      rintro _ w ⟨car47, ccr48, rfl, h⟩; refine ⟨_, rfl, ?_⟩
      clear hr a; intro a hr
      refine wpList_nil ?_; refine then_normal ?_
      refine ⟨fun _ => ⟨⟨(h.pick 3).cell 0 rfl, trivial⟩, ⟨(h.pick 3).cell 1 rfl, trivial⟩, ⟨(h.pick 3).cell 2 rfl, trivial⟩, ⟨(h.pick 3).cell 3 rfl, trivial⟩, ⟨(h.pick 3).cell 4 rfl, trivial⟩, trivial⟩, ?_⟩
      refine e_one (fuel := 3) (i := 13) (by kernel_rfl) rfl ?_
      have hc := plunderlaw2_plain_ok (va0 := ca32) (vc0 := cc33) (hv0 := (RdRow.of_row enc_T_api_Access_ok (h.pick 7) (fun h => (h.pick 7)))) (H := e50) (h := h)
      refine op_call (wn rfl) rfl rfl hr (f := 93) (args := #[.slice ca32 (((at_ p0.accessLists g23.toNat).g3).length) cc33]) (by kernel_rfl) hc ?_; clear hc h
      rintro _ w ⟨car51, ccr52, rfl, h⟩; refine ⟨_, rfl, ?_⟩
      clear hr a; intro a hr
      refine wpList_nil ?_; refine then_normal ?_
      refine ⟨fun _ => ⟨⟨(h.pick 4).cell 0 rfl, trivial⟩, ⟨(h.pick 4).cell 1 rfl, trivial⟩, ⟨(h.pick 4).cell 2 rfl, trivial⟩, ⟨(h.pick 4).cell 3 rfl, trivial⟩, ⟨(h.pick 4).cell 4 rfl, trivial⟩, trivial⟩, ?_⟩
      refine ev 2 14 rfl (by kernel_rfl) (wn rfl) hr (.agg #[.int .i64 ((at_ p0.accessLists g23.toNat).m), .slice car39 r37.length ccr40, .slice car43 r41.length ccr44, .slice car47 r45.length ccr48, .slice car51 r49.length ccr52]) (fun w => by kernel_rfl) ?_; clear hr a; intro a hr
      refine e_one (fuel := 1) (i := 15) (by kernel_rfl) rfl ?_
      replace h : Fit z (sepL (ro2 car39 ccr40 r37 :: ro2 car43 ccr44 r41 :: ro2 car47 ccr48 r45 :: ro2 car51 ccr52 r49 :: pts b36 (.cells #[.int .i64 ((at_ p0.accessLists g23.toNat).m), .slice ca26 (((at_ p0.accessLists g23.toNat).l).length) cc27, .slice ca28 (((at_ p0.accessLists g23.toNat).g1).length) cc29, .slice ca30 (((at_ p0.accessLists g23.toNat).g2).length) cc31, .slice ca32 (((at_ p0.accessLists g23.toNat).g3).length) cc33] 142) :: ro90 ca26 cc27 ((at_ p0.accessLists g23.toNat).l) :: ro90 ca28 cc29 ((at_ p0.accessLists g23.toNat).g1) :: ro90 ca30 cc31 ((at_ p0.accessLists g23.toNat).g2) :: ro90 ca32 cc33 ((at_ p0.accessLists g23.toNat).g3) :: rowH 142 5 own_T_plunderlaw2_noted (.slice ca3 p0.accessLists.length cc4) p0.accessLists g23.toNat [.int .i64 ((at_ p0.accessLists g23.toNat).m), .slice ca26 (((at_ p0.accessLists g23.toNat).l).length) cc27, .slice ca28 (((at_ p0.accessLists g23.toNat).g1).length) cc29, .slice ca30 (((at_ p0.accessLists g23.toNat).g2).length) cc31, .slice ca32 (((at_ p0.accessLists g23.toNat).g3).length) cc33] :: ob78 B0 p0 ca1 cc2 ca3 cc4 :: rn139 ca1 cc2 p0.numberLists :: L)) _ := h.sel 12 [3, 2, 1, 0, 4, 5, 6, 7, 8, 9, 10, 11] (by kernel_rfl) (by kernel_rfl)
      have hc := plunderlaw2_stand_ok (H := e54) (h := h)
      refine op_call (wn rfl) rfl rfl hr (f := 92) (args := #[.agg #[.int .i64 ((at_ p0.accessLists g23.toNat).m), .slice car39 r37.length ccr40, .slice car43 r41.length ccr44, .slice car47 r45.length ccr48, .slice car51 r49.length ccr52]]) (by kernel_rfl) hc ?_; clear hc h
      rintro _ w ⟨rfl, h⟩; refine ⟨_, rfl, ?_⟩
      clear hr a; intro a hr
      refine wpList_nil ?_; refine then_normal ?_
      refine ⟨fun hE => absurd hE (by decide), ?_⟩
      refine ev 0 16 rfl (by kernel_rfl) (wn rfl) hr (.bool (!r53)) (fun w => by kernel_rfl) ?_; clear hr a; intro a hr
      refine e_end (by kernel_rfl) ?_
      refine then_normal ?_
      by_cases c55 : r53 = true
      ·
        replace H := ifT c55 H
        refine cond_ff hr (b := (!r53)) (by rw [show r53 = true from (c55)]; rfl) ?_
        refine wp_skip ?_
        refine blk_normal ?_
        refine then_normal ?_
        refine wp_region_lit ?_
        refine ovs [31, 32, 4] [.int .i64 g23, .int .i64 (wi (g23 + (1 : Int))), .int .i64 (wi (g23 + (1 : Int)))] hr ⟨rfl, rfl⟩ (by kernel_rfl) ?_; clear hr a; intro a hr
        refine wpList_nil ?_
        refine then_normal ?_
        replace h : Fit z (sepL (ro90 ca26 cc27 ((at_ p0.accessLists g23.toNat).l) :: ro90 ca28 cc29 ((at_ p0.accessLists g23.toNat).g1) :: ro90 ca30 cc31 ((at_ p0.accessLists g23.toNat).g2) :: ro90 ca32 cc33 ((at_ p0.accessLists g23.toNat).g3) :: rowH 142 5 own_T_plunderlaw2_noted (.slice ca3 p0.accessLists.length cc4) p0.accessLists g23.toNat [.int .i64 ((at_ p0.accessLists g23.toNat).m), .slice ca26 (((at_ p0.accessLists g23.toNat).l).length) cc27, .slice ca28 (((at_ p0.accessLists g23.toNat).g1).length) cc29, .slice ca30 (((at_ p0.accessLists g23.toNat).g2).length) cc31, .slice ca32 (((at_ p0.accessLists g23.toNat).g3).length) cc33] :: ro2 car39 ccr40 r37 :: ro2 car43 ccr44 r41 :: ro2 car47 ccr48 r45 :: ro2 car51 ccr52 r49 :: pts b36 (.cells #[.int .i64 ((at_ p0.accessLists g23.toNat).m), .slice ca26 (((at_ p0.accessLists g23.toNat).l).length) cc27, .slice ca28 (((at_ p0.accessLists g23.toNat).g1).length) cc29, .slice ca30 (((at_ p0.accessLists g23.toNat).g2).length) cc31, .slice ca32 (((at_ p0.accessLists g23.toNat).g3).length) cc33] 142) :: ob78 B0 p0 ca1 cc2 ca3 cc4 :: rn139 ca1 cc2 p0.numberLists :: L)) _ := h.sel 12 [5, 6, 7, 8, 9, 0, 1, 2, 3, 4, 10, 11] (by kernel_rfl) (by kernel_rfl)
        replace h := own_T_plunderlaw2_noted_sh (x := (at_ p0.accessLists g23.toNat)) h
        replace h : Fit z (sepL (rn142 ca3 cc4 p0.accessLists :: ro2 car39 ccr40 r37 :: ro2 car43 ccr44 r41 :: ro2 car47 ccr48 r45 :: ro2 car51 ccr52 r49 :: pts b36 (.cells #[.int .i64 ((at_ p0.accessLists g23.toNat).m), .slice ca26 (((at_ p0.accessLists g23.toNat).l).length) cc27, .slice ca28 (((at_ p0.accessLists g23.toNat).g1).length) cc29, .slice ca30 (((at_ p0.accessLists g23.toNat).g2).length) cc31, .slice ca32 (((at_ p0.accessLists g23.toNat).g3).length) cc33] 142) :: ob78 B0 p0 ca1 cc2 ca3 cc4 :: rn139 ca1 cc2 p0.numberLists :: L)) _ := Fit.rowH_same (h.pick 1)
        replace hr := hr.fold2 [(0, .pointer (some ⟨B0, 0, none⟩)), (4, .int .i64 (wi (g23 + (1 : Int))))] (by kernel_rfl); obtain ⟨j, hr⟩ := hr
        replace h : Fit z (sepL (ob78 B0 p0 ca1 cc2 ca3 cc4 :: rn139 ca1 cc2 p0.numberLists :: rn142 ca3 cc4 p0.accessLists :: L)) _ := h.sel 8 [6, 7, 0] (by kernel_rfl) (by kernel_rfl)
        exact ⟨_, ⟨(wi (g23 + (1 : Int))), H, j, hr, h⟩, Nat.lt_succ_self _⟩
      ·
        replace H := ifF c55 H
        refine cond_tt hr (b := (!r53)) (by rw [show r53 = false from (bF c55)]; rfl) ?_
        refine wp_seq ?_
        refine wp_region_lit ?_
        refine ov hr (.bool false) (by kernel_rfl) ?_; clear hr a; intro a hr
        refine wpList_nil ?_
        refine then_normal ?_
        refine wp_ret ?_
        refine blk_ret ?_
        refine then_ret ?_
        refine then_ret ?_
        refine blk_ret ?_
        refine then_ret ?_
        refine end_ret1 (v := .bool false) rfl hr (by kernel_rfl) ?_
        replace h : Fit z (sepL (ro90 ca26 cc27 ((at_ p0.accessLists g23.toNat).l) :: ro90 ca28 cc29 ((at_ p0.accessLists g23.toNat).g1) :: ro90 ca30 cc31 ((at_ p0.accessLists g23.toNat).g2) :: ro90 ca32 cc33 ((at_ p0.accessLists g23.toNat).g3) :: rowH 142 5 own_T_plunderlaw2_noted (.slice ca3 p0.accessLists.length cc4) p0.accessLists g23.toNat [.int .i64 ((at_ p0.accessLists g23.toNat).m), .slice ca26 (((at_ p0.accessLists g23.toNat).l).length) cc27, .slice ca28 (((at_ p0.accessLists g23.toNat).g1).length) cc29, .slice ca30 (((at_ p0.accessLists g23.toNat).g2).length) cc31, .slice ca32 (((at_ p0.accessLists g23.toNat).g3).length) cc33] :: ro2 car39 ccr40 r37 :: ro2 car43 ccr44 r41 :: ro2 car47 ccr48 r45 :: ro2 car51 ccr52 r49 :: pts b36 (.cells #[.int .i64 ((at_ p0.accessLists g23.toNat).m), .slice ca26 (((at_ p0.accessLists g23.toNat).l).length) cc27, .slice ca28 (((at_ p0.accessLists g23.toNat).g1).length) cc29, .slice ca30 (((at_ p0.accessLists g23.toNat).g2).length) cc31, .slice ca32 (((at_ p0.accessLists g23.toNat).g3).length) cc33] 142) :: ob78 B0 p0 ca1 cc2 ca3 cc4 :: rn139 ca1 cc2 p0.numberLists :: L)) _ := h.sel 12 [5, 6, 7, 8, 9, 0, 1, 2, 3, 4, 10, 11] (by kernel_rfl) (by kernel_rfl)
        replace h := own_T_plunderlaw2_noted_sh (x := (at_ p0.accessLists g23.toNat)) h
        replace h : Fit z (sepL (rn142 ca3 cc4 p0.accessLists :: ro2 car39 ccr40 r37 :: ro2 car43 ccr44 r41 :: ro2 car47 ccr48 r45 :: ro2 car51 ccr52 r49 :: pts b36 (.cells #[.int .i64 ((at_ p0.accessLists g23.toNat).m), .slice ca26 (((at_ p0.accessLists g23.toNat).l).length) cc27, .slice ca28 (((at_ p0.accessLists g23.toNat).g1).length) cc29, .slice ca30 (((at_ p0.accessLists g23.toNat).g2).length) cc31, .slice ca32 (((at_ p0.accessLists g23.toNat).g3).length) cc33] 142) :: ob78 B0 p0 ca1 cc2 ca3 cc4 :: rn139 ca1 cc2 p0.numberLists :: L)) _ := Fit.rowH_same (h.pick 1)
        replace h : Fit z (sepL (ob78 B0 p0 ca1 cc2 ca3 cc4 :: rn139 ca1 cc2 p0.numberLists :: rn142 ca3 cc4 p0.accessLists :: L)) _ := h.sel 8 [6, 7, 0] (by kernel_rfl) (by kernel_rfl)
        replace H := ej1 H; subst H
        exact ⟨rfl, h⟩
    ·
      replace H := ifF c24 H
      refine cond_ff hr (b := (decide (g23 < ((p0.accessLists.length : Nat) : Int)))) (decide_eq_false c24) ?_
      refine wp_exit ?_
      refine then_exit ?_
      refine then_exit ?_
      refine blk_here ?_
      refine then_normal ?_
      refine wp_seq ?_
      refine wp_region_lit ?_
      refine ov hr (.bool true) (by kernel_rfl) ?_; clear hr a; intro a hr
      refine wpList_nil ?_
      refine then_normal ?_
      refine wp_ret ?_
      refine end_ret1 (v := .bool true) rfl hr (by kernel_rfl) ?_
      replace H := ej1 H; subst H
      exact ⟨rfl, h⟩

def plunderlaw2_turned_l1 (K : Nat) (p0 : List T_api_Act) : Nat → (List T_api_Act) → Int → Option ((List T_api_Act))
  | 0, _, _ => none
  | k1 + 1, l3, g4 => (if g4 ≥ (0 : Int) then if inr_ g4 p0.length then if (l3.length + 1) * 40 ≤ 140737488355328 then (plunderlaw2_turned_l1 K p0 k1 (l3 ++ [{ at_ p0 g4.toNat with A := wi (((at_ p0 g4.toNat).A) + (1 : Int)) }]) (wi (g4 - (1 : Int)))) else none else none else some l3)
/-- plunder/plunderlaw2.turned -/
def plunderlaw2_turned (K : Nat) (p0 : List T_api_Act) : Option ((List T_api_Act)) :=
  (plunderlaw2_turned_l1 K p0 K ([] : List T_api_Act) (wi (((p0.length : Nat) : Int) - (1 : Int))))
set_option maxRecDepth 100000 in
set_option maxHeartbeats 4000000 in
theorem plunderlaw2_turned_ok {z w : World} {L : List HProp} {K : Nat} {p0 : List T_api_Act} {va0 : Option Addr} {vc0 : Nat} {r0 : List T_api_Act} (H : plunderlaw2_turned K p0 = some r0) (h : Fit z (sepL (L)) w) (hv0 : RdRow L 5 enc_T_api_Act va0 p0) :
    Calls Try.prog 94 #[.slice va0 p0.length vc0] w fun e w => ∃ car0_1 : Option Addr, ∃ ccr0_2 : Nat, e = .returned (.slice car0_1 r0.length ccr0_2) ∧ Fit z (sepL (ro57 car0_1 ccr0_2 r0 :: L)) w := by
  unfold plunderlaw2_turned at H
  refine enter Try.func94 rfl 26 rfl rfl [(0, .slice va0 p0.length vc0)] ⟨rfl, trivial⟩ ?_
  intro j a hr
  refine wp_seq ?_
  refine wp_region_lit ?_
  refine ov hr (.slice none 0 0) (by kernel_rfl) ?_; clear hr a; intro a hr
  refine wpList_nil ?_
  refine then_normal ?_
  refine wp_seq ?_
  refine wp_region_lit ?_
  refine ov hr (.slice none 0 0) (by kernel_rfl) ?_; clear hr a; intro a hr
  refine wpList_nil ?_
  refine then_normal ?_
  refine wp_seq ?_
  refine wp_seq ?_
  refine wp_region_lit ?_
  refine ovs [6, 7, 8, 4] [.slice va0 p0.length vc0, .int .i64 ((p0.length : Nat) : Int), .int .i64 (wi (((p0.length : Nat) : Int) - (1 : Int))), .int .i64 (wi (((p0.length : Nat) : Int) - (1 : Int)))] hr ⟨rfl, rfl⟩ (by kernel_rfl) ?_; clear hr a; intro a hr
  refine wpList_nil ?_
  refine then_normal ?_
  refine wp_block ?_
  replace hr := hr.fold2 [(0, .slice va0 p0.length vc0), (3, .slice none (([] : List T_api_Act).length) 0), (4, .int .i64 (wi (((p0.length : Nat) : Int) - (1 : Int))))] (by kernel_rfl); obtain ⟨j, hr⟩ := hr
  replace h : Fit z (sepL (rowOf 57 5 enc_T_api_Act (.slice none 0 0) ([] : List T_api_Act) :: L)) _ := h.row_nil
  replace h : Fit z (sepL (rowOf 57 5 enc_T_api_Act (.slice none (([] : List T_api_Act).length) 0) ([] : List T_api_Act) :: L)) _ := h.sel 1 [0] (by kernel_rfl) (by kernel_rfl)
  refine loop_rule (β := Nat) id (fun m a w => ∃ ca1 : Option Addr, ∃ cc2 : Nat, ∃ l3 : List T_api_Act, ∃ g4 : Int, (plunderlaw2_turned_l1 K p0 m l3 g4) = some r0 ∧ ∃ j, Rep 26 (lk [(0, .slice va0 p0.length vc0), (3, .slice ca1 l3.length cc2), (4, .int .i64 g4)] j) a ∧ Fit z (sepL (ro57 ca1 cc2 l3 :: L)) w) K ⟨none, 0, ([] : List T_api_Act), (wi (((p0.length : Nat) : Int) - (1 : Int))), H, j, hr, h⟩ ?_
  clear h hr a H; rintro k1 a w ⟨ca1, cc2, l3, g4, H, j, hr, h⟩
  cases k1 with
  | zero => exact absurd H (by simp [plunderlaw2_turned_l1])
  | succ k1 =>
    rw [plunderlaw2_turned_l1] at H
    refine wp_seq ?_
    refine wp_seq ?_
    refine wp_region_lit ?_
    refine ovs [9, 10] [.int .i64 g4, .bool (decide (g4 ≥ (0 : Int)))] hr ⟨rfl, rfl⟩ (by kernel_rfl) ?_; clear hr a; intro a hr
    refine wpList_nil ?_
    refine then_normal ?_
    by_cases c5 : g4 ≥ (0 : Int)
    ·
      replace H := ifT c5 H
      refine cond_tt hr (b := (decide (g4 ≥ (0 : Int)))) (decide_eq_true c5) ?_
      refine wp_skip ?_
      refine then_normal ?_
      refine wp_seq ?_
      refine wp_block ?_
      refine wp_seq ?_
      refine wp_region_lit ?_
      replace H := gd H; obtain ⟨c6, H⟩ := H
      refine ovs [13, 14] [.slice va0 p0.length vc0, .int .i64 g4] hr ⟨rfl, rfl⟩ (by kernel_rfl) ?_; clear hr a; intro a hr
      refine op_val (wn rfl) rfl rfl hr (v := .pointer (some ⟨blk va0, offs va0 + g4.toNat * 5, none⟩)) (ri_rd (k := .i64) (E := 57) (cc := vc0) rfl (by kernel_rfl) (by kernel_rfl) rfl (by kernel_rfl) (by kernel_rfl) hv0 c6) ?_; clear hr a; intro a hr
      refine op_val (wn rfl) rfl rfl hr (v := .agg #[.int .i64 ((at_ p0 g4.toNat).Who), .int .i64 ((at_ p0 g4.toNat).Kind), .int .i64 ((at_ p0 g4.toNat).Addr), .int .i64 ((at_ p0 g4.toNat).A), .int .i64 ((at_ p0 g4.toNat).B)]) (rlm (cs := [.int .i64 ((at_ p0 g4.toNat).Who), .int .i64 ((at_ p0 g4.toNat).Kind), .int .i64 ((at_ p0 g4.toNat).Addr), .int .i64 ((at_ p0 g4.toNat).A), .int .i64 ((at_ p0 g4.toNat).B)]) rfl (by kernel_rfl) (by kernel_rfl) (by kernel_rfl) ⟨hv0.cell c6 (h.dn 1) 0 rfl, hv0.cell c6 (h.dn 1) 1 rfl, hv0.cell c6 (h.dn 1) 2 rfl, hv0.cell c6 (h.dn 1) 3 rfl, hv0.cell c6 (h.dn 1) 4 rfl, trivial⟩) ?_; clear hr a; intro a hr
      refine op_new (wn rfl) rfl rfl hr h (vf := fun b => .pointer (some ⟨b, 0, none⟩)) (cs := #[.int .i64 0, .int .i64 0, .int .i64 0, .int .i64 0, .int .i64 0]) (T := 57) (by kernel_rfl) ?_; clear h hr a; intro b7 w a h hr
      refine op_stores (wn rfl) rfl hr rfl (by kernel_rfl) (by kernel_rfl) (vs := [.int .i64 ((at_ p0 g4.toNat).Who), .int .i64 ((at_ p0 g4.toNat).Kind), .int .i64 ((at_ p0 g4.toNat).Addr), .int .i64 ((at_ p0 g4.toNat).A), .int .i64 ((at_ p0 g4.toNat).B)]) rfl rfl (by kernel_rfl) h (i := 0) (cs' := #[.int .i64 ((at_ p0 g4.toNat).Who), .int .i64 ((at_ p0 g4.toNat).Kind), .int .i64 ((at_ p0 g4.toNat).Addr), .int .i64 ((at_ p0 g4.toNat).A), .int .i64 ((at_ p0 g4.toNat).B)]) rfl ?_; clear h; intro w h
      refine wpList_nil ?_
      replace h : Fit z (sepL (ob57 b7 (at_ p0 g4.toNat) :: ro57 ca1 cc2 l3 :: L)) _ := h
      refine then_normal ?_
      refine wp_seq ?_
      refine wp_region_lit ?_
      refine ov hr (.pointer (some ⟨b7, 3, none⟩)) (by kernel_rfl) ?_; clear hr a; intro a hr
      refine op_val (wn rfl) rfl rfl hr (v := .int .i64 ((at_ p0 g4.toNat).A)) (rl rfl (by kernel_rfl) (by kernel_rfl) (h.cell 3 rfl)) ?_; clear hr a; intro a hr
      refine ovs [19, 20] [.int .i64 (wi (((at_ p0 g4.toNat).A) + (1 : Int))), .pointer (some ⟨b7, 3, none⟩)] hr ⟨rfl, rfl⟩ (by kernel_rfl) ?_; clear hr a; intro a hr
      refine op_store (wn rfl) rfl hr rfl (by kernel_rfl) (by kernel_rfl) (v := .int .i64 (wi (((at_ p0 g4.toNat).A) + (1 : Int)))) rfl rfl (by kernel_rfl) h (i := 3) rfl ?_; clear h; intro w h
      refine wpList_nil ?_
      replace h : Fit z (sepL (pts b7 (.cells #[.int .i64 ((at_ p0 g4.toNat).Who), .int .i64 ((at_ p0 g4.toNat).Kind), .int .i64 ((at_ p0 g4.toNat).Addr), .int .i64 (wi (((at_ p0 g4.toNat).A) + (1 : Int))), .int .i64 ((at_ p0 g4.toNat).B)] 57) :: ro57 ca1 cc2 l3 :: L)) _ := h
      refine then_normal ?_
      refine wp_region_lit ?_
      refine ov hr (.slice ca1 l3.length cc2) (by kernel_rfl) ?_; clear hr a; intro a hr
      refine op_val (wn rfl) rfl rfl hr (v := .agg #[.int .i64 ((at_ p0 g4.toNat).Who), .int .i64 ((at_ p0 g4.toNat).Kind), .int .i64 ((at_ p0 g4.toNat).Addr), .int .i64 (wi (((at_ p0 g4.toNat).A) + (1 : Int))), .int .i64 ((at_ p0 g4.toNat).B)]) (rlm (cs := [.int .i64 ((at_ p0 g4.toNat).Who), .int .i64 ((at_ p0 g4.toNat).Kind), .int .i64 ((at_ p0 g4.toNat).Addr), .int .i64 (wi (((at_ p0 g4.toNat).A) + (1 : Int))), .int .i64 ((at_ p0 g4.toNat).B)]) rfl (by kernel_rfl) (by kernel_rfl) (by kernel_rfl) ⟨h.cell 0 rfl, h.cell 1 rfl, h.cell 2 rfl, h.cell 3 rfl, h.cell 4 rfl, trivial⟩) ?_; clear hr a; intro a hr
      refine op_new (wn rfl) rfl rfl hr h (vf := fun b => .slice (some ⟨b, 0, none⟩) 1 1) (cs := #[.int .i64 ((at_ p0 g4.toNat).Who), .int .i64 ((at_ p0 g4.toNat).Kind), .int .i64 ((at_ p0 g4.toNat).Addr), .int .i64 (wi (((at_ p0 g4.toNat).A) + (1 : Int))), .int .i64 ((at_ p0 g4.toNat).B)]) (T := 57) (by kernel_rfl) ?_; clear h hr a; intro b8 w a h hr
      replace h : Fit z (sepL (ro57 ca1 cc2 l3 :: pts b8 (.cells #[.int .i64 ((at_ p0 g4.toNat).Who), .int .i64 ((at_ p0 g4.toNat).Kind), .int .i64 ((at_ p0 g4.toNat).Addr), .int .i64 (wi (((at_ p0 g4.toNat).A) + (1 : Int))), .int .i64 ((at_ p0 g4.toNat).B)] 57) :: pts b7 (.cells #[.int .i64 ((at_ p0 g4.toNat).Who), .int .i64 ((at_ p0 g4.toNat).Kind), .int .i64 ((at_ p0 g4.toNat).Addr), .int .i64 (wi (((at_ p0 g4.toNat).A) + (1 : Int))), .int .i64 ((at_ p0 g4.toNat).B)] 57) :: L)) _ := h.sel 3 [2, 0, 1] (by kernel_rfl) (by kernel_rfl)
      replace H := gd H; obtain ⟨c11, H⟩ := H
      refine op_append (n0 := l3.length) (c := 1) (bytes := 40) (wn rfl) rfl rfl hr rfl (by kernel_rfl) (by kernel_rfl) enc_T_api_Act_ok (E := 57) (xs := l3) (by kernel_rfl) (by kernel_rfl) h (news := [{ at_ p0 g4.toNat with A := wi (((at_ p0 g4.toNat).A) + (1 : Int)) }]) (m := 1) rfl ((h.pick 1).news rfl) c11 rfl ?_; clear h hr a; intro ca9 cc10 w a h hr
      refine ov hr (.slice ca9 ((l3 ++ [{ at_ p0 g4.toNat with A := wi (((at_ p0 g4.toNat).A) + (1 : Int)) }]).length) cc10) (by kernel_rfl) ?_; clear hr a; intro a hr
      refine wpList_nil ?_
      replace h : Fit z (sepL (ro57 ca9 cc10 (l3 ++ [{ at_ p0 g4.toNat with A := wi (((at_ p0 g4.toNat).A) + (1 : Int)) }]) :: pts b8 (.cells #[.int .i64 ((at_ p0 g4.toNat).Who), .int .i64 ((at_ p0 g4.toNat).Kind), .int .i64 ((at_ p0 g4.toNat).Addr), .int .i64 (wi (((at_ p0 g4.toNat).A) + (1 : Int))), .int .i64 ((at_ p0 g4.toNat).B)] 57) :: pts b7 (.cells #[.int .i64 ((at_ p0 g4.toNat).Who), .int .i64 ((at_ p0 g4.toNat).Kind), .int .i64 ((at_ p0 g4.toNat).Addr), .int .i64 (wi (((at_ p0 g4.toNat).A) + (1 : Int))), .int .i64 ((at_ p0 g4.toNat).B)] 57) :: L)) _ := h
      refine blk_normal ?_
      refine then_normal ?_
      refine wp_region_lit ?_
      refine ovs [11, 12, 4] [.int .i64 g4, .int .i64 (wi (g4 - (1 : Int))), .int .i64 (wi (g4 - (1 : Int)))] hr ⟨rfl, rfl⟩ (by kernel_rfl) ?_; clear hr a; intro a hr
      refine wpList_nil ?_
      refine then_normal ?_
      replace hr := hr.fold2 [(0, .slice va0 p0.length vc0), (3, .slice ca9 ((l3 ++ [{ at_ p0 g4.toNat with A := wi (((at_ p0 g4.toNat).A) + (1 : Int)) }]).length) cc10), (4, .int .i64 (wi (g4 - (1 : Int))))] (by kernel_rfl); obtain ⟨j, hr⟩ := hr
      replace h : Fit z (sepL (ro57 ca9 cc10 (l3 ++ [{ at_ p0 g4.toNat with A := wi (((at_ p0 g4.toNat).A) + (1 : Int)) }]) :: L)) _ := h.sel 3 [0] (by kernel_rfl) (by kernel_rfl)
      exact ⟨_, ⟨ca9, cc10, (l3 ++ [{ at_ p0 g4.toNat with A := wi (((at_ p0 g4.toNat).A) + (1 : Int)) }]), (wi (g4 - (1 : Int))), H, j, hr, h⟩, Nat.lt_succ_self _⟩
    ·
      replace H := ifF c5 H
      refine cond_ff hr (b := (decide (g4 ≥ (0 : Int)))) (decide_eq_false c5) ?_
      refine wp_exit ?_
      refine then_exit ?_
      refine then_exit ?_
      refine blk_here ?_
      refine then_normal ?_
      refine wp_seq ?_
      refine wp_region_lit ?_
      refine ovs [25, 2] [.slice ca1 l3.length cc2, .slice ca1 l3.length cc2] hr ⟨rfl, rfl⟩ (by kernel_rfl) ?_; clear hr a; intro a hr
      refine wpList_nil ?_
      refine then_normal ?_
      refine wp_ret ?_
      refine end_ret1 (v := .slice ca1 l3.length cc2) rfl hr (by kernel_rfl) ?_
      replace H := ej1 H; subst H
      exact ⟨ca1, cc2, rfl, h⟩

def plunderlaw2_lay_l1 (K : Nat) (p1 : List T_api_Act) : Nat → (List T_api_Act) → Int → Option ((List T_api_Act))
  | 0, _, _ => none
  | k1 + 1, l3, g4 => (if g4 < ((p1.length : Nat) : Int) then if inr_ g4 p1.length then if inr_ g4 l3.length then (plunderlaw2_lay_l1 K p1 k1 (l3.set g4.toNat (at_ p1 g4.toNat)) (wi (g4 + (1 : Int)))) else none else none else some l3)
/-- plunder/plunderlaw2.lay -/
def plunderlaw2_lay (K : Nat) (p0 : List T_api_Act) (p1 : List T_api_Act) : Option ((List T_api_Act)) :=
  (plunderlaw2_lay_l1 K p1 K p0 0)
set_option maxRecDepth 100000 in
set_option maxHeartbeats 4000000 in
theorem plunderlaw2_lay_ok {z w : World} {L : List HProp} {K : Nat} {p0 : List T_api_Act} {p1 : List T_api_Act} {ca1 : Option Addr} {cc2 : Nat} {va1 : Option Addr} {vc1 : Nat} {q0 : List T_api_Act} (H : plunderlaw2_lay K p0 p1 = some q0) (h : Fit z (sepL (ro57 ca1 cc2 p0 :: L)) w) (hv1 : RdRow L 5 enc_T_api_Act va1 p1) :
    Calls Try.prog 95 #[.slice ca1 p0.length cc2, .slice va1 p1.length vc1] w fun e w => e = .returned (.tuple #[]) ∧ Fit z (sepL (rowOf 57 5 enc_T_api_Act (.slice ca1 p0.length cc2) q0 :: L)) w := by
  unfold plunderlaw2_lay at H
  refine enter Try.func95 rfl 18 rfl rfl [(0, .slice ca1 p0.length cc2), (1, .slice va1 p1.length vc1)] ⟨rfl, rfl, trivial⟩ ?_
  intro j a hr
  refine wp_seq ?_
  refine wp_region_lit ?_
  refine ov hr (.int .i64 0) (by kernel_rfl) ?_; clear hr a; intro a hr
  refine wpList_nil ?_
  refine then_normal ?_
  refine wp_block ?_
  replace hr := hr.fold2 [(0, .slice ca1 p0.length cc2), (1, .slice va1 p1.length vc1), (4, .int .i64 0)] (by kernel_rfl); obtain ⟨j, hr⟩ := hr
  refine loop_rule (β := Nat) id (fun m a w => ∃ l3 : List T_api_Act, ∃ g4 : Int, (plunderlaw2_lay_l1 K p1 m l3 g4) = some q0 ∧ ∃ j, Rep 18 (lk [(0, .slice ca1 p0.length cc2), (1, .slice va1 p1.length vc1), (4, .int .i64 g4)] j) a ∧ Fit z (sepL (rowOf 57 5 enc_T_api_Act (.slice ca1 p0.length cc2) l3 :: L)) w) K ⟨p0, 0, H, j, hr, h⟩ ?_
  clear h hr a H; rintro k1 a w ⟨l3, g4, H, j, hr, h⟩
  cases k1 with
  | zero => exact absurd H (by simp [plunderlaw2_lay_l1])
  | succ k1 =>
    rw [plunderlaw2_lay_l1] at H
    refine wp_seq ?_
    refine wp_seq ?_
    refine wp_region_lit ?_
    refine ovs [5, 6, 7, 8] [.int .i64 g4, .slice va1 p1.length vc1, .int .i64 ((p1.length : Nat) : Int), .bool (decide (g4 < ((p1.length : Nat) : Int)))] hr ⟨rfl, rfl⟩ (by kernel_rfl) ?_; clear hr a; intro a hr
    refine wpList_nil ?_
    refine then_normal ?_
    by_cases c5 : g4 < ((p1.length : Nat) : Int)
    ·
      replace H := ifT c5 H
      refine cond_tt hr (b := (decide (g4 < ((p1.length : Nat) : Int)))) (decide_eq_true c5) ?_
      refine wp_skip ?_
      refine then_normal ?_
      refine wp_seq ?_
      refine wp_block ?_
      refine wp_region_lit ?_
      replace H := gd H; obtain ⟨c6, H⟩ := H
      refine ovs [11, 12, 13, 14] [.slice ca1 p0.length cc2, .int .i64 g4, .slice va1 p1.length vc1, .int .i64 g4] hr ⟨rfl, rfl⟩ (by kernel_rfl) ?_; clear hr a; intro a hr
      refine op_val (wn rfl) rfl rfl hr (v := .pointer (some ⟨blk va1, offs va1 + g4.toNat * 5, none⟩)) (ri_rd (k := .i64) (E := 57) (cc := vc1) rfl (by kernel_rfl) (by kernel_rfl) rfl (by kernel_rfl) (by kernel_rfl) hv1 c6) ?_; clear hr a; intro a hr
      refine op_val (wn rfl) rfl rfl hr (v := .agg #[.int .i64 ((at_ p1 g4.toNat).Who), .int .i64 ((at_ p1 g4.toNat).Kind), .int .i64 ((at_ p1 g4.toNat).Addr), .int .i64 ((at_ p1 g4.toNat).A), .int .i64 ((at_ p1 g4.toNat).B)]) (rlm (cs := [.int .i64 ((at_ p1 g4.toNat).Who), .int .i64 ((at_ p1 g4.toNat).Kind), .int .i64 ((at_ p1 g4.toNat).Addr), .int .i64 ((at_ p1 g4.toNat).A), .int .i64 ((at_ p1 g4.toNat).B)]) rfl (by kernel_rfl) (by kernel_rfl) (by kernel_rfl) ⟨hv1.cell c6 (h.dn 1) 0 rfl, hv1.cell c6 (h.dn 1) 1 rfl, hv1.cell c6 (h.dn 1) 2 rfl, hv1.cell c6 (h.dn 1) 3 rfl, hv1.cell c6 (h.dn 1) 4 rfl, trivial⟩) ?_; clear hr a; intro a hr
      replace H := gd H; obtain ⟨c7, H⟩ := H
      refine op_val (wn rfl) rfl rfl hr (v := .pointer (some ⟨blk ca1, g4.toNat * 5, none⟩)) (ri_row (k := .i64) (E := 57) rfl (by kernel_rfl) (by kernel_rfl) (by kernel_rfl) (by kernel_rfl) h c7) ?_; clear hr a; intro a hr
      refine op_stores_row (wn rfl) rfl hr rfl (by kernel_rfl) (by kernel_rfl) (vs := [.int .i64 ((at_ p1 g4.toNat).Who), .int .i64 ((at_ p1 g4.toNat).Kind), .int .i64 ((at_ p1 g4.toNat).Addr), .int .i64 ((at_ p1 g4.toNat).A), .int .i64 ((at_ p1 g4.toNat).B)]) rfl (by kernel_rfl) enc_T_api_Act_ok h (i := g4.toNat) (q := (at_ p1 g4.toNat)) (at_okL c7) rfl ?_; clear h; intro w h
      replace h : Fit z (sepL (rowOf 57 5 enc_T_api_Act (.slice ca1 p0.length cc2) (l3.set g4.toNat (at_ p1 g4.toNat)) :: L)) _ := h
      refine wpList_nil ?_
      refine blk_normal ?_
      refine then_normal ?_
      refine wp_region_lit ?_
      refine ovs [9, 10, 4] [.int .i64 g4, .int .i64 (wi (g4 + (1 : Int))), .int .i64 (wi (g4 + (1 : Int)))] hr ⟨rfl, rfl⟩ (by kernel_rfl) ?_; clear hr a; intro a hr
      refine wpList_nil ?_
      refine then_normal ?_
      replace hr := hr.fold2 [(0, .slice ca1 p0.length cc2), (1, .slice va1 p1.length vc1), (4, .int .i64 (wi (g4 + (1 : Int))))] (by kernel_rfl); obtain ⟨j, hr⟩ := hr
      exact ⟨_, ⟨(l3.set g4.toNat (at_ p1 g4.toNat)), (wi (g4 + (1 : Int))), H, j, hr, h⟩, Nat.lt_succ_self _⟩
    ·
      replace H := ifF c5 H
      refine cond_ff hr (b := (decide (g4 < ((p1.length : Nat) : Int)))) (decide_eq_false c5) ?_
      refine wp_exit ?_
      refine then_exit ?_
      refine then_exit ?_
      refine blk_here ?_
      refine end_norm0 rfl hr ?_
      replace H := ej1 H; subst H
      exact ⟨rfl, h⟩

/-- plunder/plunderlaw2.playPlaced -/
def plunderlaw2_playPlaced (K : Nat) (p0 : Int) (p1 : List T_api_Act) : Option (Bool) :=
  ob1 (plunderlaw2_turned K p1) (fun r1 => ob1 (plunderlaw2_handed K r1) (fun r5 => if 0 ≤ ((p1.length : Nat) : Int) ∧ ((p1.length : Nat) : Int) ≤ ((r5.length : Nat) : Int) then ob2 (cells_Play K p0 (r5.take (((p1.length : Nat) : Int).toNat))) (fun r10 r11 => ob1 (plunderlaw2_lay K r5 p1) (fun S18 => if 0 ≤ ((p1.length : Nat) : Int) ∧ ((p1.length : Nat) : Int) ≤ ((S18.length : Nat) : Int) then ob2 (cells_Play K p0 (S18.take (((p1.length : Nat) : Int).toNat))) (fun r21 r22 => ob2 (plunderref2_Play K p0 r1) (fun r29 r30 => ob2 (plunderref2_Play K p0 p1) (fun r39 r40 => jn0 ((if r11 = r30 then (if r22 = r40 then ob1 (plunderlaw2_sameEffects K r10.Effects r29.Effects) (fun r53 => (if r53 = true then ob1 (plunderlaw2_sameNumbers K r10.Cells r29.Cells) (fun r56 => (if r56 = true then ob1 (plunderlaw2_sameLog K r10.Log r29.Log) (fun r59 => (if r59 = true then some (.inl ()) else some (.inr false))) else some (.inr false))) else some (.inr false))) else some (.inr false)) else some (.inr false))) (ob1 (plunderlaw2_sameEffects K r21.Effects r39.Effects) (fun r62 => (if r62 = true then ob1 (plunderlaw2_sameNumbers K r21.Cells r39.Cells) (fun r65 => (if r65 = true then ob1 (plunderlaw2_sameLog K r21.Log r39.Log) (fun r68 => (if r68 = true then ob1 (plunderlaw2_untouched K S18 p1) (fun r71 => some r71) else some false)) else some false)) else some false)))))) else none)) else none))
set_option maxRecDepth 100000 in
set_option maxHeartbeats 4000000 in
theorem plunderlaw2_playPlaced_ok {z w : World} {L : List HProp} {K : Nat} {p0 : Int} {p1 : List T_api_Act} {va1 : Option Addr} {vc1 : Nat} {r0 : Bool} (H : plunderlaw2_playPlaced K p0 p1 = some r0) (h : Fit z (sepL (L)) w) (hv1 : RdRow L 5 enc_T_api_Act va1 p1) :
    Calls Try.prog 46 #[.int .i64 p0, .slice va1 p1.length vc1] w fun e w => e = .returned (.bool r0) ∧ Fit z (sepL (L)) w := by
  unfold plunderlaw2_playPlaced at H
  refine enter Try.func46 rfl 109 rfl rfl [(0, .int .i64 p0), (1, .slice va1 p1.length vc1)] ⟨rfl, rfl, trivial⟩ ?_
  intro j a hr
  refine wp_seq ?_
  refine wp_region_lit ?_
  refine ov hr (.bool false) (by kernel_rfl) ?_; clear hr a; intro a hr
  refine wpList_nil ?_
  refine then_normal ?_
  refine wp_seq ?_
  refine wp_region_lit ?_
  refine ovs [16, 17, 5] [.slice va1 p1.length vc1, .int .i64 ((p1.length : Nat) : Int), .int .i64 ((p1.length : Nat) : Int)] hr ⟨rfl, rfl⟩ (by kernel_rfl) ?_; clear hr a; intro a hr
  refine wpList_nil ?_
  refine then_normal ?_
  refine wp_seq ?_
  refine wp_region_lit ?_
  replace H := bd1 H; obtain ⟨r1, e2, H⟩ := H
  refine ov hr (.slice va1 p1.length vc1) (by kernel_rfl) ?_; clear hr a; intro a hr
  have hc := plunderlaw2_turned_ok (va0 := va1) (vc0 := vc1) (hv0 := (RdRow.up 0 hv1)) (H := e2) (h := h)
  refine op_call (wn rfl) rfl rfl hr (f := 94) (args := #[.slice va1 p1.length vc1]) (by kernel_rfl) hc ?_; clear hc h
  rintro _ w ⟨car3, ccr4, rfl, h⟩; refine ⟨_, rfl, ?_⟩
  clear hr a; intro a hr
  refine ov hr (.slice car3 r1.length ccr4) (by kernel_rfl) ?_; clear hr a; intro a hr
  refine wpList_nil ?_
  refine then_normal ?_
  refine wp_seq ?_
  refine wp_region_lit ?_
  replace H := bd1 H; obtain ⟨r5, e6, H⟩ := H
  refine ov hr (.slice car3 r1.length ccr4) (by kernel_rfl) ?_; clear hr a; intro a hr
  have hc := plunderlaw2_handed_ok (va0 := car3) (vc0 := ccr4) (hv0 := (RdRow.of_row enc_T_api_Act_ok h (fun h => h))) (H := e6) (h := h)
  refine op_call (wn rfl) rfl rfl hr (f := 37) (args := #[.slice car3 r1.length ccr4]) (by kernel_rfl) hc ?_; clear hc h
  rintro _ w ⟨car7, ccr8, rfl, h⟩; refine ⟨_, rfl, ?_⟩
  clear hr a; intro a hr
  refine ov hr (.slice car7 r5.length ccr8) (by kernel_rfl) ?_; clear hr a; intro a hr
  refine wpList_nil ?_
  refine then_normal ?_
  refine wp_seq ?_
  refine wp_region_lit ?_
  replace H := gd H; obtain ⟨c9, H⟩ := H
  refine ovs [23, 24, 25] [.int .i64 p0, .slice car7 r5.length ccr8, .int .i64 ((p1.length : Nat) : Int)] hr ⟨rfl, rfl⟩ (by kernel_rfl) ?_; clear hr a; intro a hr
  refine op_val (wn rfl) rfl rfl hr (v := .slice car7 ((r5.take (((p1.length : Nat) : Int).toNat)).length) ccr8) (rsl (k := .i64) rfl (by kernel_rfl) (by kernel_rfl) (by kernel_rfl) (by kernel_rfl) h c9) ?_; clear hr a; intro a hr
  replace H := bd2 H; obtain ⟨r10, r11, e12, H⟩ := H
  have hc := cells_Play_ok (va1 := car7) (vc1 := ccr8) (hv1 := (RdRow.of_row_take enc_T_api_Act_ok h (fun h => h))) (H := e12) (h := h)
  refine op_call (wn rfl) rfl rfl hr (f := 38) (args := #[.int .i64 p0, .slice car7 ((r5.take (((p1.length : Nat) : Int).toNat)).length) ccr8]) (by kernel_rfl) hc ?_; clear hc h
  rintro _ w ⟨car13, ccr14, car15, car16, rfl, h⟩; refine ⟨_, rfl, ?_⟩
  clear hr a; intro a hr
  refine ovs [22, 28, 29] [.tuple #[.agg #[.slice car13 r10.Effects.length ccr14, .slice car15 r10.Cells.length r10.Cells.length, .slice car16 r10.Log.length r10.Log.length], .int .i64 r11], .agg #[.slice car13 r10.Effects.length ccr14, .slice car15 r10.Cells.length r10.Cells.length, .slice car16 r10.Log.length r10.Log.length], .int .i64 r11] hr ⟨rfl, rfl⟩ (by kernel_rfl) ?_; clear hr a; intro a hr
  refine op_new (wn rfl) rfl rfl hr h (vf := fun b => .pointer (some ⟨b, 0, none⟩)) (cs := #[.slice none 0 0, .slice none 0 0, .slice none 0 0]) (T := 70) (by kernel_rfl) ?_; clear h hr a; intro b17 w a h hr
  refine op_stores (wn rfl) rfl hr rfl (by kernel_rfl) (by kernel_rfl) (vs := [.slice car13 r10.Effects.length ccr14, .slice car15 r10.Cells.length r10.Cells.length, .slice car16 r10.Log.length r10.Log.length]) rfl rfl (by kernel_rfl) h (i := 0) (cs' := #[.slice car13 r10.Effects.length ccr14, .slice car15 r10.Cells.length r10.Cells.length, .slice car16 r10.Log.length r10.Log.length]) rfl ?_; clear h; intro w h
  refine ov hr (.int .i64 r11) (by kernel_rfl) ?_; clear hr a; intro a hr
  refine wpList_nil ?_
  replace h : Fit z (sepL (ob70 b17 r10 car13 ccr14 car15 r10.Cells.length car16 r10.Log.length :: ro39 car13 ccr14 r10.Effects :: ro2 car15 r10.Cells.length r10.Cells :: ro90 car16 r10.Log.length r10.Log :: ro57 car7 ccr8 r5 :: ro57 car3 ccr4 r1 :: L)) _ := h
  refine then_normal ?_
  refine wp_seq ?_
  refine wp_region_lit ?_
  replace H := bd1 H; obtain ⟨S18, e19, H⟩ := H
  refine ovs [30, 31] [.slice car7 r5.length ccr8, .slice va1 p1.length vc1] hr ⟨rfl, rfl⟩ (by kernel_rfl) ?_; clear hr a; intro a hr
  replace h : Fit z (sepL (ro57 car7 ccr8 r5 :: ob70 b17 r10 car13 ccr14 car15 r10.Cells.length car16 r10.Log.length :: ro39 car13 ccr14 r10.Effects :: ro2 car15 r10.Cells.length r10.Cells :: ro90 car16 r10.Log.length r10.Log :: ro57 car3 ccr4 r1 :: L)) _ := h.sel 6 [4, 0, 1, 2, 3, 5] (by kernel_rfl) (by kernel_rfl)
  have hc := plunderlaw2_lay_ok (va1 := va1) (vc1 := vc1) (hv1 := (RdRow.up 5 hv1)) (H := e19) (h := h)
  refine op_call (wn rfl) rfl rfl hr (f := 95) (args := #[.slice car7 r5.length ccr8, .slice va1 p1.length vc1]) (by kernel_rfl) hc ?_; clear hc h
  rintro _ w ⟨rfl, h⟩; refine ⟨_, rfl, ?_⟩
  clear hr a; intro a hr
  refine wpList_nil ?_
  refine then_normal ?_
  refine wp_seq ?_
  refine wp_region_lit ?_
  replace H := gd H; obtain ⟨c20, H⟩ := H
  refine ovs [34, 35, 36] [.int .i64 p0, .slice car7 r5.length ccr8, .int .i64 ((p1.length : Nat) : Int)] hr ⟨rfl, rfl⟩ (by kernel_rfl) ?_; clear hr a; intro a hr
  refine op_val (wn rfl) rfl rfl hr (v := .slice car7 ((S18.take (((p1.length : Nat) : Int).toNat)).length) ccr8) (rsl (k := .i64) rfl (by kernel_rfl) (by kernel_rfl) (by kernel_rfl) (by kernel_rfl) h c20) ?_; clear hr a; intro a hr
  replace H := bd2 H; obtain ⟨r21, r22, e23, H⟩ := H
  have hc := cells_Play_ok (va1 := car7) (vc1 := ccr8) (hv1 := (RdRow.of_row_take enc_T_api_Act_ok h (fun h => h))) (H := e23) (h := h)
  refine op_call (wn rfl) rfl rfl hr (f := 38) (args := #[.int .i64 p0, .slice car7 ((S18.take (((p1.length : Nat) : Int).toNat)).length) ccr8]) (by kernel_rfl) hc ?_; clear hc h
  rintro _ w ⟨car24, ccr25, car26, car27, rfl, h⟩; refine ⟨_, rfl, ?_⟩
  clear hr a; intro a hr
  refine ovs [33, 39, 40] [.tuple #[.agg #[.slice car24 r21.Effects.length ccr25, .slice car26 r21.Cells.length r21.Cells.length, .slice car27 r21.Log.length r21.Log.length], .int .i64 r22], .agg #[.slice car24 r21.Effects.length ccr25, .slice car26 r21.Cells.length r21.Cells.length, .slice car27 r21.Log.length r21.Log.length], .int .i64 r22] hr ⟨rfl, rfl⟩ (by kernel_rfl) ?_; clear hr a; intro a hr
  refine op_new (wn rfl) rfl rfl hr h (vf := fun b => .pointer (some ⟨b, 0, none⟩)) (cs := #[.slice none 0 0, .slice none 0 0, .slice none 0 0]) (T := 70) (by kernel_rfl) ?_; clear h hr a; intro b28 w a h hr
  refine op_stores (wn rfl) rfl hr rfl (by kernel_rfl) (by kernel_rfl) (vs := [.slice car24 r21.Effects.length ccr25, .slice car26 r21.Cells.length r21.Cells.length, .slice car27 r21.Log.length r21.Log.length]) rfl rfl (by kernel_rfl) h (i := 0) (cs' := #[.slice car24 r21.Effects.length ccr25, .slice car26 r21.Cells.length r21.Cells.length, .slice car27 r21.Log.length r21.Log.length]) rfl ?_; clear h; intro w h
  refine ov hr (.int .i64 r22) (by kernel_rfl) ?_; clear hr a; intro a hr
  refine wpList_nil ?_
  replace h : Fit z (sepL (ob70 b28 r21 car24 ccr25 car26 r21.Cells.length car27 r21.Log.length :: ro39 car24 ccr25 r21.Effects :: ro2 car26 r21.Cells.length r21.Cells :: ro90 car27 r21.Log.length r21.Log :: rowOf 57 5 enc_T_api_Act (.slice car7 r5.length ccr8) S18 :: ob70 b17 r10 car13 ccr14 car15 r10.Cells.length car16 r10.Log.length :: ro39 car13 ccr14 r10.Effects :: ro2 car15 r10.Cells.length r10.Cells :: ro90 car16 r10.Log.length r10.Log :: ro57 car3 ccr4 r1 :: L)) _ := h
  refine then_normal ?_
  refine wp_seq ?_
  refine wp_region_lit ?_
  replace H := bd2 H; obtain ⟨r29, r30, e31, H⟩ := H
  refine ovs [42, 43] [.int .i64 p0, .slice car3 r1.length ccr4] hr ⟨rfl, rfl⟩ (by kernel_rfl) ?_; clear hr a; intro a hr
  have hc := plunderref2_Play_ok (va1 := car3) (vc1 := ccr4) (hv1 := (RdRow.of_row enc_T_api_Act_ok (h.pick 9) (fun h => (h.pick 9)))) (H := e31) (h := h)
  refine op_call (wn rfl) rfl rfl hr (f := 36) (args := #[.int .i64 p0, .slice car3 r1.length ccr4]) (by kernel_rfl) hc ?_; clear hc h
  rintro _ w ⟨car32, ccr33, car34, ccr35, car36, ccr37, rfl, h⟩; refine ⟨_, rfl, ?_⟩
  clear hr a; intro a hr
  refine ovs [41, 45, 46] [.tuple #[.agg #[.slice car32 r29.Effects.length ccr33, .slice car34 r29.Cells.length ccr35, .slice car36 r29.Log.length ccr37], .int .i64 r30], .agg #[.slice car32 r29.Effects.length ccr33, .slice car34 r29.Cells.length ccr35, .slice car36 r29.Log.length ccr37], .int .i64 r30] hr ⟨rfl, rfl⟩ (by kernel_rfl) ?_; clear hr a; intro a hr
  refine op_new (wn rfl) rfl rfl hr h (vf := fun b => .pointer (some ⟨b, 0, none⟩)) (cs := #[.slice none 0 0, .slice none 0 0, .slice none 0 0]) (T := 70) (by kernel_rfl) ?_; clear h hr a; intro b38 w a h hr
  refine op_stores (wn rfl) rfl hr rfl (by kernel_rfl) (by kernel_rfl) (vs := [.slice car32 r29.Effects.length ccr33, .slice car34 r29.Cells.length ccr35, .slice car36 r29.Log.length ccr37]) rfl rfl (by kernel_rfl) h (i := 0) (cs' := #[.slice car32 r29.Effects.length ccr33, .slice car34 r29.Cells.length ccr35, .slice car36 r29.Log.length ccr37]) rfl ?_; clear h; intro w h
  refine ov hr (.int .i64 r30) (by kernel_rfl) ?_; clear hr a; intro a hr
  refine wpList_nil ?_
  replace h : Fit z (sepL (ob70 b38 r29 car32 ccr33 car34 ccr35 car36 ccr37 :: ro39 car32 ccr33 r29.Effects :: ro2 car34 ccr35 r29.Cells :: ro90 car36 ccr37 r29.Log :: ob70 b28 r21 car24 ccr25 car26 r21.Cells.length car27 r21.Log.length :: ro39 car24 ccr25 r21.Effects :: ro2 car26 r21.Cells.length r21.Cells :: ro90 car27 r21.Log.length r21.Log :: rowOf 57 5 enc_T_api_Act (.slice car7 r5.length ccr8) S18 :: ob70 b17 r10 car13 ccr14 car15 r10.Cells.length car16 r10.Log.length :: ro39 car13 ccr14 r10.Effects :: ro2 car15 r10.Cells.length r10.Cells :: ro90 car16 r10.Log.length r10.Log :: ro57 car3 ccr4 r1 :: L)) _ := h
  refine then_normal ?_
  refine wp_seq ?_
  refine wp_region_lit ?_
  replace H := bd2 H; obtain ⟨r39, r40, e41, H⟩ := H
  refine ovs [48, 49] [.int .i64 p0, .slice va1 p1.length vc1] hr ⟨rfl, rfl⟩ (by kernel_rfl) ?_; clear hr a; intro a hr
  have hc := plunderref2_Play_ok (va1 := va1) (vc1 := vc1) (hv1 := (RdRow.up 14 hv1)) (H := e41) (h := h)
  refine op_call (wn rfl) rfl rfl hr (f := 36) (args := #[.int .i64 p0, .slice va1 p1.length vc1]) (by kernel_rfl) hc ?_; clear hc h
  rintro _ w ⟨car42, ccr43, car44, ccr45, car46, ccr47, rfl, h⟩; refine ⟨_, rfl, ?_⟩
  clear hr a; intro a hr
  refine ovs [47, 51, 52] [.tuple #[.agg #[.slice car42 r39.Effects.length ccr43, .slice car44 r39.Cells.length ccr45, .slice car46 r39.Log.length ccr47], .int .i64 r40], .agg #[.slice car42 r39.Effects.length ccr43, .slice car44 r39.Cells.length ccr45, .slice car46 r39.Log.length ccr47], .int .i64 r40] hr ⟨rfl, rfl⟩ (by kernel_rfl) ?_; clear hr a; intro a hr
  refine op_new (wn rfl) rfl rfl hr h (vf := fun b => .pointer (some ⟨b, 0, none⟩)) (cs := #[.slice none 0 0, .slice none 0 0, .slice none 0 0]) (T := 70) (by kernel_rfl) ?_; clear h hr a; intro b48 w a h hr
  refine op_stores (wn rfl) rfl hr rfl (by kernel_rfl) (by kernel_rfl) (vs := [.slice car42 r39.Effects.length ccr43, .slice car44 r39.Cells.length ccr45, .slice car46 r39.Log.length ccr47]) rfl rfl (by kernel_rfl) h (i := 0) (cs' := #[.slice car42 r39.Effects.length ccr43, .slice car44 r39.Cells.length ccr45, .slice car46 r39.Log.length ccr47]) rfl ?_; clear h; intro w h
  refine ov hr (.int .i64 r40) (by kernel_rfl) ?_; clear hr a; intro a hr
  refine wpList_nil ?_
  replace h : Fit z (sepL (ob70 b48 r39 car42 ccr43 car44 ccr45 car46 ccr47 :: ro39 car42 ccr43 r39.Effects :: ro2 car44 ccr45 r39.Cells :: ro90 car46 ccr47 r39.Log :: ob70 b38 r29 car32 ccr33 car34 ccr35 car36 ccr37 :: ro39 car32 ccr33 r29.Effects :: ro2 car34 ccr35 r29.Cells :: ro90 car36 ccr37 r29.Log :: ob70 b28 r21 car24 ccr25 car26 r21.Cells.length car27 r21.Log.length :: ro39 car24 ccr25 r21.Effects :: ro2 car26 r21.Cells.length r21.Cells :: ro90 car27 r21.Log.length r21.Log :: rowOf 57 5 enc_T_api_Act (.slice car7 r5.length ccr8) S18 :: ob70 b17 r10 car13 ccr14 car15 r10.Cells.length car16 r10.Log.length :: ro39 car13 ccr14 r10.Effects :: ro2 car15 r10.Cells.length r10.Cells :: ro90 car16 r10.Log.length r10.Log :: ro57 car3 ccr4 r1 :: L)) _ := h
  refine then_normal ?_
  replace H := jd0 H; obtain ⟨o50, H, hK49⟩ := H
  refine cut_rule (β := Unit) (fun _ a w => .inl () = o50 ∧ ∃ j, Rep 109 (lk [(1, .slice va1 p1.length vc1), (7, .slice car7 r5.length ccr8), (10, .pointer (some ⟨b28, 0, none⟩)), (14, .pointer (some ⟨b48, 0, none⟩))] j) a ∧ Fit z (sepL (rowOf 57 5 enc_T_api_Act (.slice car7 r5.length ccr8) S18 :: ob70 b28 r21 car24 ccr25 car26 r21.Cells.length car27 r21.Log.length :: ro39 car24 ccr25 r21.Effects :: ro2 car26 r21.Cells.length r21.Cells :: ro90 car27 r21.Log.length r21.Log :: ob70 b48 r39 car42 ccr43 car44 ccr45 car46 ccr47 :: ro39 car42 ccr43 r39.Effects :: ro2 car44 ccr45 r39.Cells :: ro90 car46 ccr47 r39.Log :: L)) w) ?_ ?_
  ·
    refine wp_seq ?_
    refine wp_region_lit ?_
    refine ovs [53, 54, 55, 56] [.int .i64 r11, .int .i64 r30, .bool (r11 != r30), .bool (r11 != r30)] hr ⟨rfl, rfl⟩ (by kernel_rfl) ?_; clear hr a; intro a hr
    by_cases c51 : r11 = r30
    ·
      replace H := ifT c51 H
      refine op_val ((wg hr rfl rfl rfl (b' := (r11 != r30)) (by kernel_rfl)).trans (by rw [show (r11 != r30) = false from (bne_eq_false_iff_eq.mpr c51)]; rfl)) rfl rfl hr (v := .int .i64 r22) (by kernel_rfl) ?_; clear hr a; intro a hr
      refine op_val ((wg hr rfl rfl rfl (b' := (r11 != r30)) (by kernel_rfl)).trans (by rw [show (r11 != r30) = false from (bne_eq_false_iff_eq.mpr c51)]; rfl)) rfl rfl hr (v := .int .i64 r40) (by kernel_rfl) ?_; clear hr a; intro a hr
      refine op_val ((wg hr rfl rfl rfl (b' := (r11 != r30)) (by kernel_rfl)).trans (by rw [show (r11 != r30) = false from (bne_eq_false_iff_eq.mpr c51)]; rfl)) rfl rfl hr (v := .bool (r22 != r40)) (by kernel_rfl) ?_; clear hr a; intro a hr
      refine op_val (wn rfl) rfl rfl hr (v := .bool (r22 != r40)) (rp_f (b := (r11 != r30)) rfl (by kernel_rfl) (bne_eq_false_iff_eq.mpr c51) (by kernel_rfl)) ?_; clear hr a; intro a hr
      refine ov hr (.bool (r22 != r40)) (by kernel_rfl) ?_; clear hr a; intro a hr
      by_cases c52 : r22 = r40
      ·
        replace H := ifT c52 H
        refine op_val ((wg hr rfl rfl rfl (b' := (r22 != r40)) (by kernel_rfl)).trans (by rw [show (r22 != r40) = false from (bne_eq_false_iff_eq.mpr c52)]; rfl)) rfl rfl hr (v := .pointer (some ⟨b17, 0, none⟩)) (by kernel_rfl) ?_; clear hr a; intro a hr
        refine op_val ((wg hr rfl rfl rfl (b' := (r22 != r40)) (by kernel_rfl)).trans (by rw [show (r22 != r40) = false from (bne_eq_false_iff_eq.mpr c52)]; rfl)) rfl rfl hr (v := .slice car13 r10.Effects.length ccr14) (rl rfl (by kernel_rfl) (by kernel_rfl) ((h.pick 13).cell 0 rfl)) ?_; clear hr a; intro a hr
        refine op_val ((wg hr rfl rfl rfl (b' := (r22 != r40)) (by kernel_rfl)).trans (by rw [show (r22 != r40) = false from (bne_eq_false_iff_eq.mpr c52)]; rfl)) rfl rfl hr (v := .pointer (some ⟨b38, 0, none⟩)) (by kernel_rfl) ?_; clear hr a; intro a hr
        refine op_val ((wg hr rfl rfl rfl (b' := (r22 != r40)) (by kernel_rfl)).trans (by rw [show (r22 != r40) = false from (bne_eq_false_iff_eq.mpr c52)]; rfl)) rfl rfl hr (v := .slice car32 r29.Effects.length ccr33) (rl rfl (by kernel_rfl) (by kernel_rfl) ((h.pick 4).cell 0 rfl)) ?_; clear hr a; intro a hr
        replace H := bd1 H; obtain ⟨r53, e54, H⟩ := H
        have hc := plunderlaw2_sameEffects_ok (va0 := car13) (vc0 := ccr14) (va1 := car32) (vc1 := ccr33) (hv0 := (RdRow.of_row enc_T_api_Effect_ok (h.pick 14) (fun h => (h.pick 14)))) (hv1 := (RdRow.of_row enc_T_api_Effect_ok (h.pick 5) (fun h => (h.pick 5)))) (H := e54) (h := h)
        refine op_call ((wg hr rfl rfl rfl (b' := (r22 != r40)) (by kernel_rfl)).trans (by rw [show (r22 != r40) = false from (bne_eq_false_iff_eq.mpr c52)]; rfl)) rfl rfl hr (f := 39) (args := #[.slice car13 r10.Effects.length ccr14, .slice car32 r29.Effects.length ccr33]) (by kernel_rfl) hc ?_; clear hc h
        rintro _ w ⟨rfl, h⟩; refine ⟨_, rfl, ?_⟩
        clear hr a; intro a hr
        refine op_val ((wg hr rfl rfl rfl (b' := (r22 != r40)) (by kernel_rfl)).trans (by rw [show (r22 != r40) = false from (bne_eq_false_iff_eq.mpr c52)]; rfl)) rfl rfl hr (v := .bool (!r53)) (by kernel_rfl) ?_; clear hr a; intro a hr
        refine op_val (wn rfl) rfl rfl hr (v := .bool (!r53)) (rp_f (b := (r22 != r40)) rfl (by kernel_rfl) (bne_eq_false_iff_eq.mpr c52) (by kernel_rfl)) ?_; clear hr a; intro a hr
        refine ov hr (.bool (!r53)) (by kernel_rfl) ?_; clear hr a; intro a hr
        by_cases c55 : r53 = true
        ·
          replace H := ifT c55 H
          refine op_val ((wg hr rfl rfl rfl (b' := (!r53)) (by kernel_rfl)).trans (by rw [show (!r53) = false from (by rw [show r53 = true from (c55)]; rfl)]; rfl)) rfl rfl hr (v := .pointer (some ⟨b17, 1, none⟩)) (by kernel_rfl) ?_; clear hr a; intro a hr
          refine op_val ((wg hr rfl rfl rfl (b' := (!r53)) (by kernel_rfl)).trans (by rw [show (!r53) = false from (by rw [show r53 = true from (c55)]; rfl)]; rfl)) rfl rfl hr (v := .slice car15 r10.Cells.length r10.Cells.length) (rl rfl (by kernel_rfl) (by kernel_rfl) ((h.pick 13).cell 1 rfl)) ?_; clear hr a; intro a hr
          refine op_val ((wg hr rfl rfl rfl (b' := (!r53)) (by kernel_rfl)).trans (by rw [show (!r53) = false from (by rw [show r53 = true from (c55)]; rfl)]; rfl)) rfl rfl hr (v := .pointer (some ⟨b38, 1, none⟩)) (by kernel_rfl) ?_; clear hr a; intro a hr
          refine op_val ((wg hr rfl rfl rfl (b' := (!r53)) (by kernel_rfl)).trans (by rw [show (!r53) = false from (by rw [show r53 = true from (c55)]; rfl)]; rfl)) rfl rfl hr (v := .slice car34 r29.Cells.length ccr35) (rl rfl (by kernel_rfl) (by kernel_rfl) ((h.pick 4).cell 1 rfl)) ?_; clear hr a; intro a hr
          replace H := bd1 H; obtain ⟨r56, e57, H⟩ := H
          have hc := plunderlaw2_sameNumbers_ok (va0 := car15) (vc0 := r10.Cells.length) (va1 := car34) (vc1 := ccr35) (hv0 := (RdRow.of_row encZ_i64_ok (h.pick 15) (fun h => (h.pick 15)))) (hv1 := (RdRow.of_row encZ_i64_ok (h.pick 6) (fun h => (h.pick 6)))) (H := e57) (h := h)
          refine op_call ((wg hr rfl rfl rfl (b' := (!r53)) (by kernel_rfl)).trans (by rw [show (!r53) = false from (by rw [show r53 = true from (c55)]; rfl)]; rfl)) rfl rfl hr (f := 40) (args := #[.slice car15 r10.Cells.length r10.Cells.length, .slice car34 r29.Cells.length ccr35]) (by kernel_rfl) hc ?_; clear hc h
          rintro _ w ⟨rfl, h⟩; refine ⟨_, rfl, ?_⟩
          clear hr a; intro a hr
          refine op_val ((wg hr rfl rfl rfl (b' := (!r53)) (by kernel_rfl)).trans (by rw [show (!r53) = false from (by rw [show r53 = true from (c55)]; rfl)]; rfl)) rfl rfl hr (v := .bool (!r56)) (by kernel_rfl) ?_; clear hr a; intro a hr
          refine op_val (wn rfl) rfl rfl hr (v := .bool (!r56)) (rp_f (b := (!r53)) rfl (by kernel_rfl) (by rw [show r53 = true from (c55)]; rfl) (by kernel_rfl)) ?_; clear hr a; intro a hr
          refine ov hr (.bool (!r56)) (by kernel_rfl) ?_; clear hr a; intro a hr
          by_cases c58 : r56 = true
          ·
            replace H := ifT c58 H
            refine op_val ((wg hr rfl rfl rfl (b' := (!r56)) (by kernel_rfl)).trans (by rw [show (!r56) = false from (by rw [show r56 = true from (c58)]; rfl)]; rfl)) rfl rfl hr (v := .pointer (some ⟨b17, 2, none⟩)) (by kernel_rfl) ?_; clear hr a; intro a hr
            refine op_val ((wg hr rfl rfl rfl (b' := (!r56)) (by kernel_rfl)).trans (by rw [show (!r56) = false from (by rw [show r56 = true from (c58)]; rfl)]; rfl)) rfl rfl hr (v := .slice car16 r10.Log.length r10.Log.length) (rl rfl (by kernel_rfl) (by kernel_rfl) ((h.pick 13).cell 2 rfl)) ?_; clear hr a; intro a hr
            refine op_val ((wg hr rfl rfl rfl (b' := (!r56)) (by kernel_rfl)).trans (by rw [show (!r56) = false from (by rw [show r56 = true from (c58)]; rfl)]; rfl)) rfl rfl hr (v := .pointer (some ⟨b38, 2, none⟩)) (by kernel_rfl) ?_; clear hr a; intro a hr
            refine op_val ((wg hr rfl rfl rfl (b' := (!r56)) (by kernel_rfl)).trans (by rw [show (!r56) = false from (by rw [show r56 = true from (c58)]; rfl)]; rfl)) rfl rfl hr (v := .slice car36 r29.Log.length ccr37) (rl rfl (by kernel_rfl) (by kernel_rfl) ((h.pick 4).cell 2 rfl)) ?_; clear hr a; intro a hr
            replace H := bd1 H; obtain ⟨r59, e60, H⟩ := H
            have hc := plunderlaw2_sameLog_ok (va0 := car16) (vc0 := r10.Log.length) (va1 := car36) (vc1 := ccr37) (hv0 := (RdRow.of_row enc_T_api_Access_ok (h.pick 16) (fun h => (h.pick 16)))) (hv1 := (RdRow.of_row enc_T_api_Access_ok (h.pick 7) (fun h => (h.pick 7)))) (H := e60) (h := h)
            refine op_call ((wg hr rfl rfl rfl (b' := (!r56)) (by kernel_rfl)).trans (by rw [show (!r56) = false from (by rw [show r56 = true from (c58)]; rfl)]; rfl)) rfl rfl hr (f := 41) (args := #[.slice car16 r10.Log.length r10.Log.length, .slice car36 r29.Log.length ccr37]) (by kernel_rfl) hc ?_; clear hc h
            rintro _ w ⟨rfl, h⟩; refine ⟨_, rfl, ?_⟩
            clear hr a; intro a hr
            refine op_val ((wg hr rfl rfl rfl (b' := (!r56)) (by kernel_rfl)).trans (by rw [show (!r56) = false from (by rw [show r56 = true from (c58)]; rfl)]; rfl)) rfl rfl hr (v := .bool (!r59)) (by kernel_rfl) ?_; clear hr a; intro a hr
            refine op_val (wn rfl) rfl rfl hr (v := .bool (!r59)) (rp_f (b := (!r56)) rfl (by kernel_rfl) (by rw [show r56 = true from (c58)]; rfl) (by kernel_rfl)) ?_; clear hr a; intro a hr
            refine wpList_nil ?_
            refine then_normal ?_
            by_cases c61 : r59 = true
            ·
              replace H := ifT c61 H
              refine cond_ff hr (b := (!r59)) (by rw [show r59 = true from (c61)]; rfl) ?_
              refine wp_skip ?_
              refine then_normal ?_
              replace hr := hr.fold2 [(1, .slice va1 p1.length vc1), (7, .slice car7 r5.length ccr8), (10, .pointer (some ⟨b28, 0, none⟩)), (14, .pointer (some ⟨b48, 0, none⟩))] (by kernel_rfl); obtain ⟨j, hr⟩ := hr
              replace h : Fit z (sepL (rowOf 57 5 enc_T_api_Act (.slice car7 r5.length ccr8) S18 :: ob70 b28 r21 car24 ccr25 car26 r21.Cells.length car27 r21.Log.length :: ro39 car24 ccr25 r21.Effects :: ro2 car26 r21.Cells.length r21.Cells :: ro90 car27 r21.Log.length r21.Log :: ob70 b48 r39 car42 ccr43 car44 ccr45 car46 ccr47 :: ro39 car42 ccr43 r39.Effects :: ro2 car44 ccr45 r39.Cells :: ro90 car46 ccr47 r39.Log :: L)) _ := h.sel 18 [12, 8, 9, 10, 11, 0, 1, 2, 3] (by kernel_rfl) (by kernel_rfl)
              exact ⟨(), sinj H, j, hr, h⟩
            ·
              replace H := ifF c61 H
              refine cond_tt hr (b := (!r59)) (by rw [show r59 = false from (bF c61)]; rfl) ?_
              refine wp_seq ?_
              refine wp_region_lit ?_
              refine ov hr (.bool false) (by kernel_rfl) ?_; clear hr a; intro a hr
              refine wpList_nil ?_
              refine then_normal ?_
              refine wp_ret ?_
              refine then_ret ?_
              refine end_ret1 (v := .bool false) rfl hr (by kernel_rfl) ?_
              replace H := jx0 H hK49
              replace h : Fit z (sepL (L)) _ := h.sel 18 [] (by kernel_rfl) (by kernel_rfl)
              replace H := ej1 H; subst H
              exact ⟨rfl, h⟩
          ·
            replace H := ifF c58 H
            refine op_off ((wg hr rfl rfl rfl (b' := (!r56)) (by kernel_rfl)).trans (by rw [show (!r56) = true from (by rw [show r56 = false from (bF c58)]; rfl)]; rfl)) rfl rfl hr ?_; clear hr a; intro a hr
            refine op_off ((wg hr rfl rfl rfl (b' := (!r56)) (by kernel_rfl)).trans (by rw [show (!r56) = true from (by rw [show r56 = false from (bF c58)]; rfl)]; rfl)) rfl rfl hr ?_; clear hr a; intro a hr
            refine op_off ((wg hr rfl rfl rfl (b' := (!r56)) (by kernel_rfl)).trans (by rw [show (!r56) = true from (by rw [show r56 = false from (bF c58)]; rfl)]; rfl)) rfl rfl hr ?_; clear hr a; intro a hr
            refine op_off ((wg hr rfl rfl rfl (b' := (!r56)) (by kernel_rfl)).trans (by rw [show (!r56) = true from (by rw [show r56 = false from (bF c58)]; rfl)]; rfl)) rfl rfl hr ?_; clear hr a; intro a hr
            refine op_off ((wg hr rfl rfl rfl (b' := (!r56)) (by kernel_rfl)).trans (by rw [show (!r56) = true from (by rw [show r56 = false from (bF c58)]; rfl)]; rfl)) rfl rfl hr ?_; clear hr a; intro a hr
            refine op_off ((wg hr rfl rfl rfl (b' := (!r56)) (by kernel_rfl)).trans (by rw [show (!r56) = true from (by rw [show r56 = false from (bF c58)]; rfl)]; rfl)) rfl rfl hr ?_; clear hr a; intro a hr
            refine op_val (wn rfl) rfl rfl hr (v := .bool true) (rp_t (b := (!r56)) rfl (by kernel_rfl) (by rw [show r56 = false from (bF c58)]; rfl) (by kernel_rfl)) ?_; clear hr a; intro a hr
            refine wpList_nil ?_
            refine then_normal ?_
            refine cond_tt hr (b := true) rfl ?_
            refine wp_seq ?_
            refine wp_region_lit ?_
            refine ov hr (.bool false) (by kernel_rfl) ?_; clear hr a; intro a hr
            refine wpList_nil ?_
            refine then_normal ?_
            refine wp_ret ?_
            refine then_ret ?_
            refine end_ret1 (v := .bool false) rfl hr (by kernel_rfl) ?_
            replace H := jx0 H hK49
            replace h : Fit z (sepL (L)) _ := h.sel 18 [] (by kernel_rfl) (by kernel_rfl)
            replace H := ej1 H; subst H
            exact ⟨rfl, h⟩
        ·
          replace H := ifF c55 H
          refine op_off ((wg hr rfl rfl rfl (b' := (!r53)) (by kernel_rfl)).trans (by rw [show (!r53) = true from (by rw [show r53 = false from (bF c55)]; rfl)]; rfl)) rfl rfl hr ?_; clear hr a; intro a hr
          refine op_off ((wg hr rfl rfl rfl (b' := (!r53)) (by kernel_rfl)).trans (by rw [show (!r53) = true from (by rw [show r53 = false from (bF c55)]; rfl)]; rfl)) rfl rfl hr ?_; clear hr a; intro a hr
          refine op_off ((wg hr rfl rfl rfl (b' := (!r53)) (by kernel_rfl)).trans (by rw [show (!r53) = true from (by rw [show r53 = false from (bF c55)]; rfl)]; rfl)) rfl rfl hr ?_; clear hr a; intro a hr
          refine op_off ((wg hr rfl rfl rfl (b' := (!r53)) (by kernel_rfl)).trans (by rw [show (!r53) = true from (by rw [show r53 = false from (bF c55)]; rfl)]; rfl)) rfl rfl hr ?_; clear hr a; intro a hr
          refine op_off ((wg hr rfl rfl rfl (b' := (!r53)) (by kernel_rfl)).trans (by rw [show (!r53) = true from (by rw [show r53 = false from (bF c55)]; rfl)]; rfl)) rfl rfl hr ?_; clear hr a; intro a hr
          refine op_off ((wg hr rfl rfl rfl (b' := (!r53)) (by kernel_rfl)).trans (by rw [show (!r53) = true from (by rw [show r53 = false from (bF c55)]; rfl)]; rfl)) rfl rfl hr ?_; clear hr a; intro a hr
          refine op_val (wn rfl) rfl rfl hr (v := .bool true) (rp_t (b := (!r53)) rfl (by kernel_rfl) (by rw [show r53 = false from (bF c55)]; rfl) (by kernel_rfl)) ?_; clear hr a; intro a hr
          refine ov hr (.bool true) (by kernel_rfl) ?_; clear hr a; intro a hr
          refine op_off ((wg hr rfl rfl rfl (b' := true) (by kernel_rfl)).trans rfl) rfl rfl hr ?_; clear hr a; intro a hr
          refine op_off ((wg hr rfl rfl rfl (b' := true) (by kernel_rfl)).trans rfl) rfl rfl hr ?_; clear hr a; intro a hr
          refine op_off ((wg hr rfl rfl rfl (b' := true) (by kernel_rfl)).trans rfl) rfl rfl hr ?_; clear hr a; intro a hr
          refine op_off ((wg hr rfl rfl rfl (b' := true) (by kernel_rfl)).trans rfl) rfl rfl hr ?_; clear hr a; intro a hr
          refine op_off ((wg hr rfl rfl rfl (b' := true) (by kernel_rfl)).trans rfl) rfl rfl hr ?_; clear hr a; intro a hr
          refine op_off ((wg hr rfl rfl rfl (b' := true) (by kernel_rfl)).trans rfl) rfl rfl hr ?_; clear hr a; intro a hr
          refine ov hr (.bool true) (by kernel_rfl) ?_; clear hr a; intro a hr
          refine wpList_nil ?_
          refine then_normal ?_
          refine cond_tt hr (b := true) rfl ?_
          refine wp_seq ?_
          refine wp_region_lit ?_
          refine ov hr (.bool false) (by kernel_rfl) ?_; clear hr a; intro a hr
          refine wpList_nil ?_
          refine then_normal ?_
          refine wp_ret ?_
          refine then_ret ?_
          refine end_ret1 (v := .bool false) rfl hr (by kernel_rfl) ?_
          replace H := jx0 H hK49
          replace h : Fit z (sepL (L)) _ := h.sel 18 [] (by kernel_rfl) (by kernel_rfl)
          replace H := ej1 H; subst H
          exact ⟨rfl, h⟩
      ·
        replace H := ifF c52 H
        refine op_off ((wg hr rfl rfl rfl (b' := (r22 != r40)) (by kernel_rfl)).trans (by rw [show (r22 != r40) = true from (bne_iff_ne.mpr c52)]; rfl)) rfl rfl hr ?_; clear hr a; intro a hr
        refine op_off ((wg hr rfl rfl rfl (b' := (r22 != r40)) (by kernel_rfl)).trans (by rw [show (r22 != r40) = true from (bne_iff_ne.mpr c52)]; rfl)) rfl rfl hr ?_; clear hr a; intro a hr
        refine op_off ((wg hr rfl rfl rfl (b' := (r22 != r40)) (by kernel_rfl)).trans (by rw [show (r22 != r40) = true from (bne_iff_ne.mpr c52)]; rfl)) rfl rfl hr ?_; clear hr a; intro a hr
        refine op_off ((wg hr rfl rfl rfl (b' := (r22 != r40)) (by kernel_rfl)).trans (by rw [show (r22 != r40) = true from (bne_iff_ne.mpr c52)]; rfl)) rfl rfl hr ?_; clear hr a; intro a hr
        refine op_off ((wg hr rfl rfl rfl (b' := (r22 != r40)) (by kernel_rfl)).trans (by rw [show (r22 != r40) = true from (bne_iff_ne.mpr c52)]; rfl)) rfl rfl hr ?_; clear hr a; intro a hr
        refine op_off ((wg hr rfl rfl rfl (b' := (r22 != r40)) (by kernel_rfl)).trans (by rw [show (r22 != r40) = true from (bne_iff_ne.mpr c52)]; rfl)) rfl rfl hr ?_; clear hr a; intro a hr
        refine op_val (wn rfl) rfl rfl hr (v := .bool true) (rp_t (b := (r22 != r40)) rfl (by kernel_rfl) (bne_iff_ne.mpr c52) (by kernel_rfl)) ?_; clear hr a; intro a hr
        refine ov hr (.bool true) (by kernel_rfl) ?_; clear hr a; intro a hr
        refine op_off ((wg hr rfl rfl rfl (b' := true) (by kernel_rfl)).trans rfl) rfl rfl hr ?_; clear hr a; intro a hr
        refine op_off ((wg hr rfl rfl rfl (b' := true) (by kernel_rfl)).trans rfl) rfl rfl hr ?_; clear hr a; intro a hr
        refine op_off ((wg hr rfl rfl rfl (b' := true) (by kernel_rfl)).trans rfl) rfl rfl hr ?_; clear hr a; intro a hr
        refine op_off ((wg hr rfl rfl rfl (b' := true) (by kernel_rfl)).trans rfl) rfl rfl hr ?_; clear hr a; intro a hr
        refine op_off ((wg hr rfl rfl rfl (b' := true) (by kernel_rfl)).trans rfl) rfl rfl hr ?_; clear hr a; intro a hr
        refine op_off ((wg hr rfl rfl rfl (b' := true) (by kernel_rfl)).trans rfl) rfl rfl hr ?_; clear hr a; intro a hr
        refine ovs [76, 77] [.bool true, .bool true] hr ⟨rfl, rfl⟩ (by kernel_rfl) ?_; clear hr a; intro a hr
        refine op_off ((wg hr rfl rfl rfl (b' := true) (by kernel_rfl)).trans rfl) rfl rfl hr ?_; clear hr a; intro a hr
        refine op_off ((wg hr rfl rfl rfl (b' := true) (by kernel_rfl)).trans rfl) rfl rfl hr ?_; clear hr a; intro a hr
        refine op_off ((wg hr rfl rfl rfl (b' := true) (by kernel_rfl)).trans rfl) rfl rfl hr ?_; clear hr a; intro a hr
        refine op_off ((wg hr rfl rfl rfl (b' := true) (by kernel_rfl)).trans rfl) rfl rfl hr ?_; clear hr a; intro a hr
        refine op_off ((wg hr rfl rfl rfl (b' := true) (by kernel_rfl)).trans rfl) rfl rfl hr ?_; clear hr a; intro a hr
        refine op_off ((wg hr rfl rfl rfl (b' := true) (by kernel_rfl)).trans rfl) rfl rfl hr ?_; clear hr a; intro a hr
        refine ov hr (.bool true) (by kernel_rfl) ?_; clear hr a; intro a hr
        refine wpList_nil ?_
        refine then_normal ?_
        refine cond_tt hr (b := true) rfl ?_
        refine wp_seq ?_
        refine wp_region_lit ?_
        refine ov hr (.bool false) (by kernel_rfl) ?_; clear hr a; intro a hr
        refine wpList_nil ?_
        refine then_normal ?_
        refine wp_ret ?_
        refine then_ret ?_
        refine end_ret1 (v := .bool false) rfl hr (by kernel_rfl) ?_
        replace H := jx0 H hK49
        replace h : Fit z (sepL (L)) _ := h.sel 18 [] (by kernel_rfl) (by kernel_rfl)
        replace H := ej1 H; subst H
        exact ⟨rfl, h⟩
    ·
      replace H := ifF c51 H
      refine op_off ((wg hr rfl rfl rfl (b' := (r11 != r30)) (by kernel_rfl)).trans (by rw [show (r11 != r30) = true from (bne_iff_ne.mpr c51)]; rfl)) rfl rfl hr ?_; clear hr a; intro a hr
      refine op_off ((wg hr rfl rfl rfl (b' := (r11 != r30)) (by kernel_rfl)).trans (by rw [show (r11 != r30) = true from (bne_iff_ne.mpr c51)]; rfl)) rfl rfl hr ?_; clear hr a; intro a hr
      refine op_off ((wg hr rfl rfl rfl (b' := (r11 != r30)) (by kernel_rfl)).trans (by rw [show (r11 != r30) = true from (bne_iff_ne.mpr c51)]; rfl)) rfl rfl hr ?_; clear hr a; intro a hr
      refine op_val (wn rfl) rfl rfl hr (v := .bool true) (rp_t (b := (r11 != r30)) rfl (by kernel_rfl) (bne_iff_ne.mpr c51) (by kernel_rfl)) ?_; clear hr a; intro a hr
      refine ov hr (.bool true) (by kernel_rfl) ?_; clear hr a; intro a hr
      refine op_off ((wg hr rfl rfl rfl (b' := true) (by kernel_rfl)).trans rfl) rfl rfl hr ?_; clear hr a; intro a hr
      refine op_off ((wg hr rfl rfl rfl (b' := true) (by kernel_rfl)).trans rfl) rfl rfl hr ?_; clear hr a; intro a hr
      refine op_off ((wg hr rfl rfl rfl (b' := true) (by kernel_rfl)).trans rfl) rfl rfl hr ?_; clear hr a; intro a hr
      refine op_off ((wg hr rfl rfl rfl (b' := true) (by kernel_rfl)).trans rfl) rfl rfl hr ?_; clear hr a; intro a hr
      refine op_off ((wg hr rfl rfl rfl (b' := true) (by kernel_rfl)).trans rfl) rfl rfl hr ?_; clear hr a; intro a hr
      refine op_off ((wg hr rfl rfl rfl (b' := true) (by kernel_rfl)).trans rfl) rfl rfl hr ?_; clear hr a; intro a hr
      refine ovs [68, 69] [.bool true, .bool true] hr ⟨rfl, rfl⟩ (by kernel_rfl) ?_; clear hr a; intro a hr
      refine op_off ((wg hr rfl rfl rfl (b' := true) (by kernel_rfl)).trans rfl) rfl rfl hr ?_; clear hr a; intro a hr
      refine op_off ((wg hr rfl rfl rfl (b' := true) (by kernel_rfl)).trans rfl) rfl rfl hr ?_; clear hr a; intro a hr
      refine op_off ((wg hr rfl rfl rfl (b' := true) (by kernel_rfl)).trans rfl) rfl rfl hr ?_; clear hr a; intro a hr
      refine op_off ((wg hr rfl rfl rfl (b' := true) (by kernel_rfl)).trans rfl) rfl rfl hr ?_; clear hr a; intro a hr
      refine op_off ((wg hr rfl rfl rfl (b' := true) (by kernel_rfl)).trans rfl) rfl rfl hr ?_; clear hr a; intro a hr
      refine op_off ((wg hr rfl rfl rfl (b' := true) (by kernel_rfl)).trans rfl) rfl rfl hr ?_; clear hr a; intro a hr
      refine ovs [76, 77] [.bool true, .bool true] hr ⟨rfl, rfl⟩ (by kernel_rfl) ?_; clear hr a; intro a hr
      refine op_off ((wg hr rfl rfl rfl (b' := true) (by kernel_rfl)).trans rfl) rfl rfl hr ?_; clear hr a; intro a hr
      refine op_off ((wg hr rfl rfl rfl (b' := true) (by kernel_rfl)).trans rfl) rfl rfl hr ?_; clear hr a; intro a hr
      refine op_off ((wg hr rfl rfl rfl (b' := true) (by kernel_rfl)).trans rfl) rfl rfl hr ?_; clear hr a; intro a hr
      refine op_off ((wg hr rfl rfl rfl (b' := true) (by kernel_rfl)).trans rfl) rfl rfl hr ?_; clear hr a; intro a hr
      refine op_off ((wg hr rfl rfl rfl (b' := true) (by kernel_rfl)).trans rfl) rfl rfl hr ?_; clear hr a; intro a hr
      refine op_off ((wg hr rfl rfl rfl (b' := true) (by kernel_rfl)).trans rfl) rfl rfl hr ?_; clear hr a; intro a hr
      refine ov hr (.bool true) (by kernel_rfl) ?_; clear hr a; intro a hr
      refine wpList_nil ?_
      refine then_normal ?_
      refine cond_tt hr (b := true) rfl ?_
      refine wp_seq ?_
      refine wp_region_lit ?_
      refine ov hr (.bool false) (by kernel_rfl) ?_; clear hr a; intro a hr
      refine wpList_nil ?_
      refine then_normal ?_
      refine wp_ret ?_
      refine then_ret ?_
      refine end_ret1 (v := .bool false) rfl hr (by kernel_rfl) ?_
      replace H := jx0 H hK49
      replace h : Fit z (sepL (L)) _ := h.sel 18 [] (by kernel_rfl) (by kernel_rfl)
      replace H := ej1 H; subst H
      exact ⟨rfl, h⟩
  clear h hr a; rintro _ a w ⟨rfl, j, hr, h⟩
  replace H := jk0 hK49
  refine wp_seq ?_
  refine wp_region_lit ?_
  refine ov hr (.pointer (some ⟨b28, 0, none⟩)) (by kernel_rfl) ?_; clear hr a; intro a hr
  refine op_val (wn rfl) rfl rfl hr (v := .slice car24 r21.Effects.length ccr25) (rl rfl (by kernel_rfl) (by kernel_rfl) ((h.pick 1).cell 0 rfl)) ?_; clear hr a; intro a hr
  refine ov hr (.pointer (some ⟨b48, 0, none⟩)) (by kernel_rfl) ?_; clear hr a; intro a hr
  refine op_val (wn rfl) rfl rfl hr (v := .slice car42 r39.Effects.length ccr43) (rl rfl (by kernel_rfl) (by kernel_rfl) ((h.pick 5).cell 0 rfl)) ?_; clear hr a; intro a hr
  replace H := bd1 H; obtain ⟨r62, e63, H⟩ := H
  have hc := plunderlaw2_sameEffects_ok (va0 := car24) (vc0 := ccr25) (va1 := car42) (vc1 := ccr43) (hv0 := (RdRow.of_row enc_T_api_Effect_ok (h.pick 2) (fun h => (h.pick 2)))) (hv1 := (RdRow.of_row enc_T_api_Effect_ok (h.pick 6) (fun h => (h.pick 6)))) (H := e63) (h := h)
  refine op_call (wn rfl) rfl rfl hr (f := 39) (args := #[.slice car24 r21.Effects.length ccr25, .slice car42 r39.Effects.length ccr43]) (by kernel_rfl) hc ?_; clear hc h
  rintro _ w ⟨rfl, h⟩; refine ⟨_, rfl, ?_⟩
  clear hr a; intro a hr
  refine ov hr (.bool r62) (by kernel_rfl) ?_; clear hr a; intro a hr
  by_cases c64 : r62 = true
  ·
    replace H := ifT c64 H
    refine op_val ((wg hr rfl rfl rfl (b' := r62) (by kernel_rfl)).trans (by rw [show r62 = true from (c64)]; rfl)) rfl rfl hr (v := .pointer (some ⟨b28, 1, none⟩)) (by kernel_rfl) ?_; clear hr a; intro a hr
    refine op_val ((wg hr rfl rfl rfl (b' := r62) (by kernel_rfl)).trans (by rw [show r62 = true from (c64)]; rfl)) rfl rfl hr (v := .slice car26 r21.Cells.length r21.Cells.length) (rl rfl (by kernel_rfl) (by kernel_rfl) ((h.pick 1).cell 1 rfl)) ?_; clear hr a; intro a hr
    refine op_val ((wg hr rfl rfl rfl (b' := r62) (by kernel_rfl)).trans (by rw [show r62 = true from (c64)]; rfl)) rfl rfl hr (v := .pointer (some ⟨b48, 1, none⟩)) (by kernel_rfl) ?_; clear hr a; intro a hr
    refine op_val ((wg hr rfl rfl rfl (b' := r62) (by kernel_rfl)).trans (by rw [show r62 = true from (c64)]; rfl)) rfl rfl hr (v := .slice car44 r39.Cells.length ccr45) (rl rfl (by kernel_rfl) (by kernel_rfl) ((h.pick 5).cell 1 rfl)) ?_; clear hr a; intro a hr
    replace H := bd1 H; obtain ⟨r65, e66, H⟩ := H
    have hc := plunderlaw2_sameNumbers_ok (va0 := car26) (vc0 := r21.Cells.length) (va1 := car44) (vc1 := ccr45) (hv0 := (RdRow.of_row encZ_i64_ok (h.pick 3) (fun h => (h.pick 3)))) (hv1 := (RdRow.of_row encZ_i64_ok (h.pick 7) (fun h => (h.pick 7)))) (H := e66) (h := h)
    refine op_call ((wg hr rfl rfl rfl (b' := r62) (by kernel_rfl)).trans (by rw [show r62 = true from (c64)]; rfl)) rfl rfl hr (f := 40) (args := #[.slice car26 r21.Cells.length r21.Cells.length, .slice car44 r39.Cells.length ccr45]) (by kernel_rfl) hc ?_; clear hc h
    rintro _ w ⟨rfl, h⟩; refine ⟨_, rfl, ?_⟩
    clear hr a; intro a hr
    refine op_val (wn rfl) rfl rfl hr (v := .bool r65) (rp_t (b := r62) rfl (by kernel_rfl) (c64) (by kernel_rfl)) ?_; clear hr a; intro a hr
    refine ov hr (.bool r65) (by kernel_rfl) ?_; clear hr a; intro a hr
    by_cases c67 : r65 = true
    ·
      replace H := ifT c67 H
      refine op_val ((wg hr rfl rfl rfl (b' := r65) (by kernel_rfl)).trans (by rw [show r65 = true from (c67)]; rfl)) rfl rfl hr (v := .pointer (some ⟨b28, 2, none⟩)) (by kernel_rfl) ?_; clear hr a; intro a hr
      refine op_val ((wg hr rfl rfl rfl (b' := r65) (by kernel_rfl)).trans (by rw [show r65 = true from (c67)]; rfl)) rfl rfl hr (v := .slice car27 r21.Log.length r21.Log.length) (rl rfl (by kernel_rfl) (by kernel_rfl) ((h.pick 1).cell 2 rfl)) ?_; clear hr a; intro a hr
      refine op_val ((wg hr rfl rfl rfl (b' := r65) (by kernel_rfl)).trans (by rw [show r65 = true from (c67)]; rfl)) rfl rfl hr (v := .pointer (some ⟨b48, 2, none⟩)) (by kernel_rfl) ?_; clear hr a; intro a hr
      refine op_val ((wg hr rfl rfl rfl (b' := r65) (by kernel_rfl)).trans (by rw [show r65 = true from (c67)]; rfl)) rfl rfl hr (v := .slice car46 r39.Log.length ccr47) (rl rfl (by kernel_rfl) (by kernel_rfl) ((h.pick 5).cell 2 rfl)) ?_; clear hr a; intro a hr
      replace H := bd1 H; obtain ⟨r68, e69, H⟩ := H
      have hc := plunderlaw2_sameLog_ok (va0 := car27) (vc0 := r21.Log.length) (va1 := car46) (vc1 := ccr47) (hv0 := (RdRow.of_row enc_T_api_Access_ok (h.pick 4) (fun h => (h.pick 4)))) (hv1 := (RdRow.of_row enc_T_api_Access_ok (h.pick 8) (fun h => (h.pick 8)))) (H := e69) (h := h)
      refine op_call ((wg hr rfl rfl rfl (b' := r65) (by kernel_rfl)).trans (by rw [show r65 = true from (c67)]; rfl)) rfl rfl hr (f := 41) (args := #[.slice car27 r21.Log.length r21.Log.length, .slice car46 r39.Log.length ccr47]) (by kernel_rfl) hc ?_; clear hc h
      rintro _ w ⟨rfl, h⟩; refine ⟨_, rfl, ?_⟩
      clear hr a; intro a hr
      refine op_val (wn rfl) rfl rfl hr (v := .bool r68) (rp_t (b := r65) rfl (by kernel_rfl) (c67) (by kernel_rfl)) ?_; clear hr a; intro a hr
      refine ov hr (.bool r68) (by kernel_rfl) ?_; clear hr a; intro a hr
      by_cases c70 : r68 = true
      ·
        replace H := ifT c70 H
        refine op_val ((wg hr rfl rfl rfl (b' := r68) (by kernel_rfl)).trans (by rw [show r68 = true from (c70)]; rfl)) rfl rfl hr (v := .slice car7 r5.length ccr8) (by kernel_rfl) ?_; clear hr a; intro a hr
        refine op_val ((wg hr rfl rfl rfl (b' := r68) (by kernel_rfl)).trans (by rw [show r68 = true from (c70)]; rfl)) rfl rfl hr (v := .slice va1 p1.length vc1) (by kernel_rfl) ?_; clear hr a; intro a hr
        replace H := bd1 H; obtain ⟨r71, e72, H⟩ := H
        have hc := plunderlaw2_untouched_ok (va0 := car7) (vc0 := ccr8) (va1 := va1) (vc1 := vc1) (hv0 := (RdRow.of_row enc_T_api_Act_ok h (fun h => h))) (hv1 := (RdRow.up 9 hv1)) (H := e72) (h := h)
        refine op_call ((wg hr rfl rfl rfl (b' := r68) (by kernel_rfl)).trans (by rw [show r68 = true from (c70)]; rfl)) rfl rfl hr (f := 44) (args := #[.slice car7 S18.length ccr8, .slice va1 p1.length vc1]) (Eq.trans (b := .ok (.enter 44 #[.slice car7 r5.length ccr8, .slice va1 p1.length vc1]) w) (by kernel_rfl) (by rw [show r5.length = S18.length from h.row_n])) hc ?_; clear hc h
        rintro _ w ⟨rfl, h⟩; refine ⟨_, rfl, ?_⟩
        clear hr a; intro a hr
        refine op_val (wn rfl) rfl rfl hr (v := .bool r71) (rp_t (b := r68) rfl (by kernel_rfl) (c70) (by kernel_rfl)) ?_; clear hr a; intro a hr
        refine ov hr (.bool r71) (by kernel_rfl) ?_; clear hr a; intro a hr
        refine wpList_nil ?_
        refine then_normal ?_
        refine wp_ret ?_
        refine end_ret1 (v := .bool r71) rfl hr (by kernel_rfl) ?_
        replace h : Fit z (sepL (L)) _ := h.sel 9 [] (by kernel_rfl) (by kernel_rfl)
        replace H := ej1 H; subst H
        exact ⟨rfl, h⟩
      ·
        replace H := ifF c70 H
        refine op_off ((wg hr rfl rfl rfl (b' := r68) (by kernel_rfl)).trans (by rw [show r68 = false from (bF c70)]; rfl)) rfl rfl hr ?_; clear hr a; intro a hr
        refine op_off ((wg hr rfl rfl rfl (b' := r68) (by kernel_rfl)).trans (by rw [show r68 = false from (bF c70)]; rfl)) rfl rfl hr ?_; clear hr a; intro a hr
        refine op_off ((wg hr rfl rfl rfl (b' := r68) (by kernel_rfl)).trans (by rw [show r68 = false from (bF c70)]; rfl)) rfl rfl hr ?_; clear hr a; intro a hr
        refine op_val (wn rfl) rfl rfl hr (v := .bool false) (rp_f (b := r68) rfl (by kernel_rfl) (bF c70) (by kernel_rfl)) ?_; clear hr a; intro a hr
        refine ov hr (.bool false) (by kernel_rfl) ?_; clear hr a; intro a hr
        refine wpList_nil ?_
        refine then_normal ?_
        refine wp_ret ?_
        refine end_ret1 (v := .bool false) rfl hr (by kernel_rfl) ?_
        replace h : Fit z (sepL (L)) _ := h.sel 9 [] (by kernel_rfl) (by kernel_rfl)
        replace H := ej1 H; subst H
        exact ⟨rfl, h⟩
    ·
      replace H := ifF c67 H
      refine op_off ((wg hr rfl rfl rfl (b' := r65) (by kernel_rfl)).trans (by rw [show r65 = false from (bF c67)]; rfl)) rfl rfl hr ?_; clear hr a; intro a hr
      refine op_off ((wg hr rfl rfl rfl (b' := r65) (by kernel_rfl)).trans (by rw [show r65 = false from (bF c67)]; rfl)) rfl rfl hr ?_; clear hr a; intro a hr
      refine op_off ((wg hr rfl rfl rfl (b' := r65) (by kernel_rfl)).trans (by rw [show r65 = false from (bF c67)]; rfl)) rfl rfl hr ?_; clear hr a; intro a hr
      refine op_off ((wg hr rfl rfl rfl (b' := r65) (by kernel_rfl)).trans (by rw [show r65 = false from (bF c67)]; rfl)) rfl rfl hr ?_; clear hr a; intro a hr
      refine op_off ((wg hr rfl rfl rfl (b' := r65) (by kernel_rfl)).trans (by rw [show r65 = false from (bF c67)]; rfl)) rfl rfl hr ?_; clear hr a; intro a hr
      refine op_val (wn rfl) rfl rfl hr (v := .bool false) (rp_f (b := r65) rfl (by kernel_rfl) (bF c67) (by kernel_rfl)) ?_; clear hr a; intro a hr
      refine ov hr (.bool false) (by kernel_rfl) ?_; clear hr a; intro a hr
      refine op_off ((wg hr rfl rfl rfl (b' := false) (by kernel_rfl)).trans rfl) rfl rfl hr ?_; clear hr a; intro a hr
      refine op_off ((wg hr rfl rfl rfl (b' := false) (by kernel_rfl)).trans rfl) rfl rfl hr ?_; clear hr a; intro a hr
      refine op_off ((wg hr rfl rfl rfl (b' := false) (by kernel_rfl)).trans rfl) rfl rfl hr ?_; clear hr a; intro a hr
      refine ovs [108, 4] [.bool false, .bool false] hr ⟨rfl, rfl⟩ (by kernel_rfl) ?_; clear hr a; intro a hr
      refine wpList_nil ?_
      refine then_normal ?_
      refine wp_ret ?_
      refine end_ret1 (v := .bool false) rfl hr (by kernel_rfl) ?_
      replace h : Fit z (sepL (L)) _ := h.sel 9 [] (by kernel_rfl) (by kernel_rfl)
      replace H := ej1 H; subst H
      exact ⟨rfl, h⟩
  ·
    replace H := ifF c64 H
    refine op_off ((wg hr rfl rfl rfl (b' := r62) (by kernel_rfl)).trans (by rw [show r62 = false from (bF c64)]; rfl)) rfl rfl hr ?_; clear hr a; intro a hr
    refine op_off ((wg hr rfl rfl rfl (b' := r62) (by kernel_rfl)).trans (by rw [show r62 = false from (bF c64)]; rfl)) rfl rfl hr ?_; clear hr a; intro a hr
    refine op_off ((wg hr rfl rfl rfl (b' := r62) (by kernel_rfl)).trans (by rw [show r62 = false from (bF c64)]; rfl)) rfl rfl hr ?_; clear hr a; intro a hr
    refine op_off ((wg hr rfl rfl rfl (b' := r62) (by kernel_rfl)).trans (by rw [show r62 = false from (bF c64)]; rfl)) rfl rfl hr ?_; clear hr a; intro a hr
    refine op_off ((wg hr rfl rfl rfl (b' := r62) (by kernel_rfl)).trans (by rw [show r62 = false from (bF c64)]; rfl)) rfl rfl hr ?_; clear hr a; intro a hr
    refine op_val (wn rfl) rfl rfl hr (v := .bool false) (rp_f (b := r62) rfl (by kernel_rfl) (bF c64) (by kernel_rfl)) ?_; clear hr a; intro a hr
    refine ov hr (.bool false) (by kernel_rfl) ?_; clear hr a; intro a hr
    refine op_off ((wg hr rfl rfl rfl (b' := false) (by kernel_rfl)).trans rfl) rfl rfl hr ?_; clear hr a; intro a hr
    refine op_off ((wg hr rfl rfl rfl (b' := false) (by kernel_rfl)).trans rfl) rfl rfl hr ?_; clear hr a; intro a hr
    refine op_off ((wg hr rfl rfl rfl (b' := false) (by kernel_rfl)).trans rfl) rfl rfl hr ?_; clear hr a; intro a hr
    refine op_off ((wg hr rfl rfl rfl (b' := false) (by kernel_rfl)).trans rfl) rfl rfl hr ?_; clear hr a; intro a hr
    refine op_off ((wg hr rfl rfl rfl (b' := false) (by kernel_rfl)).trans rfl) rfl rfl hr ?_; clear hr a; intro a hr
    refine ovs [103, 104] [.bool false, .bool false] hr ⟨rfl, rfl⟩ (by kernel_rfl) ?_; clear hr a; intro a hr
    refine op_off ((wg hr rfl rfl rfl (b' := false) (by kernel_rfl)).trans rfl) rfl rfl hr ?_; clear hr a; intro a hr
    refine op_off ((wg hr rfl rfl rfl (b' := false) (by kernel_rfl)).trans rfl) rfl rfl hr ?_; clear hr a; intro a hr
    refine op_off ((wg hr rfl rfl rfl (b' := false) (by kernel_rfl)).trans rfl) rfl rfl hr ?_; clear hr a; intro a hr
    refine ovs [108, 4] [.bool false, .bool false] hr ⟨rfl, rfl⟩ (by kernel_rfl) ?_; clear hr a; intro a hr
    refine wpList_nil ?_
    refine then_normal ?_
    refine wp_ret ?_
    refine end_ret1 (v := .bool false) rfl hr (by kernel_rfl) ?_
    replace h : Fit z (sepL (L)) _ := h.sel 9 [] (by kernel_rfl) (by kernel_rfl)
    replace H := ej1 H; subst H
    exact ⟨rfl, h⟩

def plunderlaw2_CellsPlay_l1 (K : Nat) (r17 : T_api_CellRun) : Nat → (List T_api_Effect) → Int → Option ((List T_api_Effect))
  | 0, _, _ => none
  | k1 + 1, l49, g50 => (if g50 < ((r17.Effects.length : Nat) : Int) then if inr_ g50 l49.length then (plunderlaw2_CellsPlay_l1 K r17 k1 (l49.set g50.toNat (⟨-5, false, 99⟩ : T_api_Effect)) (wi (g50 + (1 : Int)))) else none else some l49)
def plunderlaw2_CellsPlay_l2 (K : Nat) : Nat → (List T_api_Effect) → Int → Option ((List T_api_Effect))
  | 0, _, _ => none
  | k2 + 1, l60, g61 => (if g61 < (64 : Int) then if (l60.length + 1) * 24 ≤ 140737488355328 then (plunderlaw2_CellsPlay_l2 K k2 (l60 ++ [(⟨-6, false, 0⟩ : T_api_Effect)]) (wi (g61 + (1 : Int)))) else none else some l60)
/-- plunder/plunderlaw2.CellsPlay -/
def plunderlaw2_CellsPlay (K : Nat) (p0 : Int) (p1 : List T_api_Act) : Option (Bool) :=
  ob2 (plunderref2_Play K p0 p1) (fun r1 r2 => ob1 (plunderlaw2_handed K p1) (fun r11 => if 0 ≤ ((p1.length : Nat) : Int) ∧ ((p1.length : Nat) : Int) ≤ ((r11.length : Nat) : Int) then ob2 (cells_Play K p0 (r11.take (((p1.length : Nat) : Int).toNat))) (fun r17 r18 => ob2 (cells_Play K p0 (r11.take (((p1.length : Nat) : Int).toNat))) (fun r25 r26 => jn0 ((if r18 = r2 then (if r26 = r2 then ob1 (plunderlaw2_sameEffects K r17.Effects r1.Effects) (fun r37 => (if r37 = true then ob1 (plunderlaw2_sameNumbers K r17.Cells r1.Cells) (fun r40 => (if r40 = true then ob1 (plunderlaw2_sameLog K r17.Log r1.Log) (fun r43 => (if r43 = true then some (.inl ()) else some (.inr false))) else some (.inr false))) else some (.inr false))) else some (.inr false)) else some (.inr false))) (ob1 ((plunderlaw2_CellsPlay_l1 K r17 K r17.Effects 0)) (fun l46 => ob1 ((plunderlaw2_CellsPlay_l2 K K l46 0)) (fun l55 => ob1 (plunderlaw2_book_numbers K (⟨([] : List T_plunderlaw2_kept), ([] : List T_plunderlaw2_noted), 0⟩ : T_plunderlaw2_book) r17.Cells) (fun S68 => ob1 (plunderlaw2_book_accesses K S68 r17.Log) (fun S74 => jn0 (ob1 (plunderlaw2_sameEffects K r25.Effects r1.Effects) (fun r82 => (if r82 = true then ob1 (plunderlaw2_sameNumbers K r25.Cells r1.Cells) (fun r85 => (if r85 = true then ob1 (plunderlaw2_sameLog K r25.Log r1.Log) (fun r88 => (if r88 = true then some (.inl ()) else some (.inr false))) else some (.inr false))) else some (.inr false)))) (ob1 (plunderlaw2_book_numbers K S74 r25.Cells) (fun S91 => ob1 (plunderlaw2_book_accesses K S91 r25.Log) (fun S97 => ob1 (plunderlaw2_untouched K r11 p1) (fun r103 => (if r103 = true then ob1 (plunderlaw2_book_stands K S97) (fun r106 => (if r106 = true then ob1 (plunderlaw2_playPlaced K p0 p1) (fun r109 => some r109) else some false)) else some false)))))))))))) else none))
set_option maxRecDepth 100000 in
set_option maxHeartbeats 4000000 in
theorem plunderlaw2_CellsPlay_ok {z w : World} {L : List HProp} {K : Nat} {p0 : Int} {p1 : List T_api_Act} {va1 : Option Addr} {vc1 : Nat} {r0 : Bool} (H : plunderlaw2_CellsPlay K p0 p1 = some r0) (h : Fit z (sepL (L)) w) (hv1 : RdRow L 5 enc_T_api_Act va1 p1) :
    Calls Try.prog 11 #[.int .i64 p0, .slice va1 p1.length vc1] w fun e w => e = .returned (.bool r0) ∧ Fit z (sepL (L)) w := by
  unfold plunderlaw2_CellsPlay at H
  refine enter Try.func11 rfl 147 rfl rfl [(0, .int .i64 p0), (1, .slice va1 p1.length vc1)] ⟨rfl, rfl, trivial⟩ ?_
  intro j a hr
  refine wp_seq ?_
  refine wp_region_lit ?_
  refine ov hr (.bool false) (by kernel_rfl) ?_; clear hr a; intro a hr
  refine wpList_nil ?_
  refine then_normal ?_
  refine wp_seq ?_
  refine wp_region_lit ?_
  replace H := bd2 H; obtain ⟨r1, r2, e3, H⟩ := H
  refine ovs [16, 17] [.int .i64 p0, .slice va1 p1.length vc1] hr ⟨rfl, rfl⟩ (by kernel_rfl) ?_; clear hr a; intro a hr
  have hc := plunderref2_Play_ok (va1 := va1) (vc1 := vc1) (hv1 := (RdRow.up 0 hv1)) (H := e3) (h := h)
  refine op_call (wn rfl) rfl rfl hr (f := 36) (args := #[.int .i64 p0, .slice va1 p1.length vc1]) (by kernel_rfl) hc ?_; clear hc h
  rintro _ w ⟨car4, ccr5, car6, ccr7, car8, ccr9, rfl, h⟩; refine ⟨_, rfl, ?_⟩
  clear hr a; intro a hr
  refine ovs [15, 19, 20] [.tuple #[.agg #[.slice car4 r1.Effects.length ccr5, .slice car6 r1.Cells.length ccr7, .slice car8 r1.Log.length ccr9], .int .i64 r2], .agg #[.slice car4 r1.Effects.length ccr5, .slice car6 r1.Cells.length ccr7, .slice car8 r1.Log.length ccr9], .int .i64 r2] hr ⟨rfl, rfl⟩ (by kernel_rfl) ?_; clear hr a; intro a hr
  refine op_new (wn rfl) rfl rfl hr h (vf := fun b => .pointer (some ⟨b, 0, none⟩)) (cs := #[.slice none 0 0, .slice none 0 0, .slice none 0 0]) (T := 70) (by kernel_rfl) ?_; clear h hr a; intro b10 w a h hr
  refine op_stores (wn rfl) rfl hr rfl (by kernel_rfl) (by kernel_rfl) (vs := [.slice car4 r1.Effects.length ccr5, .slice car6 r1.Cells.length ccr7, .slice car8 r1.Log.length ccr9]) rfl rfl (by kernel_rfl) h (i := 0) (cs' := #[.slice car4 r1.Effects.length ccr5, .slice car6 r1.Cells.length ccr7, .slice car8 r1.Log.length ccr9]) rfl ?_; clear h; intro w h
  refine ov hr (.int .i64 r2) (by kernel_rfl) ?_; clear hr a; intro a hr
  refine wpList_nil ?_
  replace h : Fit z (sepL (ob70 b10 r1 car4 ccr5 car6 ccr7 car8 ccr9 :: ro39 car4 ccr5 r1.Effects :: ro2 car6 ccr7 r1.Cells :: ro90 car8 ccr9 r1.Log :: L)) _ := h
  refine then_normal ?_
  refine wp_seq ?_
  refine wp_region_lit ?_
  replace H := bd1 H; obtain ⟨r11, e12, H⟩ := H
  refine ov hr (.slice va1 p1.length vc1) (by kernel_rfl) ?_; clear hr a; intro a hr
  have hc := plunderlaw2_handed_ok (va0 := va1) (vc0 := vc1) (hv0 := (RdRow.up 4 hv1)) (H := e12) (h := h)
  refine op_call (wn rfl) rfl rfl hr (f := 37) (args := #[.slice va1 p1.length vc1]) (by kernel_rfl) hc ?_; clear hc h
  rintro _ w ⟨car13, ccr14, rfl, h⟩; refine ⟨_, rfl, ?_⟩
  clear hr a; intro a hr
  refine ov hr (.slice car13 r11.length ccr14) (by kernel_rfl) ?_; clear hr a; intro a hr
  refine wpList_nil ?_
  refine then_normal ?_
  refine wp_seq ?_
  refine wp_region_lit ?_
  refine ov hr (.agg #[.slice none 0 0, .slice none 0 0, .int .i64 0]) (by kernel_rfl) ?_; clear hr a; intro a hr
  refine op_new (wn rfl) rfl rfl hr h (vf := fun b => .pointer (some ⟨b, 0, none⟩)) (cs := #[.slice none 0 0, .slice none 0 0, .int .i64 0]) (T := 78) (by kernel_rfl) ?_; clear h hr a; intro b15 w a h hr
  refine ov hr (.pointer (some ⟨b15, 0, none⟩)) (by kernel_rfl) ?_; clear hr a; intro a hr
  refine wpList_nil ?_
  refine then_normal ?_
  refine wp_seq ?_
  refine wp_region_lit ?_
  replace H := gd H; obtain ⟨c16, H⟩ := H
  refine ovs [26, 27, 28, 29] [.int .i64 p0, .slice car13 r11.length ccr14, .slice va1 p1.length vc1, .int .i64 ((p1.length : Nat) : Int)] hr ⟨rfl, rfl⟩ (by kernel_rfl) ?_; clear hr a; intro a hr
  refine op_val (wn rfl) rfl rfl hr (v := .slice car13 ((r11.take (((p1.length : Nat) : Int).toNat)).length) ccr14) (rsl (k := .i64) rfl (by kernel_rfl) (by kernel_rfl) (by kernel_rfl) (by kernel_rfl) (h.pick 1) c16) ?_; clear hr a; intro a hr
  replace H := bd2 H; obtain ⟨r17, r18, e19, H⟩ := H
  have hc := cells_Play_ok (va1 := car13) (vc1 := ccr14) (hv1 := (RdRow.of_row_take enc_T_api_Act_ok (h.pick 1) (fun h => (h.pick 1)))) (H := e19) (h := h)
  refine op_call (wn rfl) rfl rfl hr (f := 38) (args := #[.int .i64 p0, .slice car13 ((r11.take (((p1.length : Nat) : Int).toNat)).length) ccr14]) (by kernel_rfl) hc ?_; clear hc h
  rintro _ w ⟨car20, ccr21, car22, car23, rfl, h⟩; refine ⟨_, rfl, ?_⟩
  clear hr a; intro a hr
  refine ovs [25, 32, 33] [.tuple #[.agg #[.slice car20 r17.Effects.length ccr21, .slice car22 r17.Cells.length r17.Cells.length, .slice car23 r17.Log.length r17.Log.length], .int .i64 r18], .agg #[.slice car20 r17.Effects.length ccr21, .slice car22 r17.Cells.length r17.Cells.length, .slice car23 r17.Log.length r17.Log.length], .int .i64 r18] hr ⟨rfl, rfl⟩ (by kernel_rfl) ?_; clear hr a; intro a hr
  refine op_new (wn rfl) rfl rfl hr h (vf := fun b => .pointer (some ⟨b, 0, none⟩)) (cs := #[.slice none 0 0, .slice none 0 0, .slice none 0 0]) (T := 70) (by kernel_rfl) ?_; clear h hr a; intro b24 w a h hr
  refine op_stores (wn rfl) rfl hr rfl (by kernel_rfl) (by kernel_rfl) (vs := [.slice car20 r17.Effects.length ccr21, .slice car22 r17.Cells.length r17.Cells.length, .slice car23 r17.Log.length r17.Log.length]) rfl rfl (by kernel_rfl) h (i := 0) (cs' := #[.slice car20 r17.Effects.length ccr21, .slice car22 r17.Cells.length r17.Cells.length, .slice car23 r17.Log.length r17.Log.length]) rfl ?_; clear h; intro w h
  refine ov hr (.int .i64 r18) (by kernel_rfl) ?_; clear hr a; intro a hr
  refine wpList_nil ?_
  replace h : Fit z (sepL (ob70 b24 r17 car20 ccr21 car22 r17.Cells.length car23 r17.Log.length :: ro39 car20 ccr21 r17.Effects :: ro2 car22 r17.Cells.length r17.Cells :: ro90 car23 r17.Log.length r17.Log :: pts b15 (.cells #[.slice none 0 0, .slice none 0 0, .int .i64 0] 78) :: ro57 car13 ccr14 r11 :: ob70 b10 r1 car4 ccr5 car6 ccr7 car8 ccr9 :: ro39 car4 ccr5 r1.Effects :: ro2 car6 ccr7 r1.Cells :: ro90 car8 ccr9 r1.Log :: L)) _ := h
  refine then_normal ?_
  refine wp_seq ?_
  refine wp_region_lit ?_
  refine ovs [35, 36, 37, 38] [.int .i64 p0, .slice car13 r11.length ccr14, .slice va1 p1.length vc1, .int .i64 ((p1.length : Nat) : Int)] hr ⟨rfl, rfl⟩ (by kernel_rfl) ?_; clear hr a; intro a hr
  refine op_val (wn rfl) rfl rfl hr (v := .slice car13 ((r11.take (((p1.length : Nat) : Int).toNat)).length) ccr14) (rsl (k := .i64) rfl (by kernel_rfl) (by kernel_rfl) (by kernel_rfl) (by kernel_rfl) (h.pick 5) c16) ?_; clear hr a; intro a hr
  replace H := bd2 H; obtain ⟨r25, r26, e27, H⟩ := H
  have hc := cells_Play_ok (va1 := car13) (vc1 := ccr14) (hv1 := (RdRow.of_row_take enc_T_api_Act_ok (h.pick 5) (fun h => (h.pick 5)))) (H := e27) (h := h)
  refine op_call (wn rfl) rfl rfl hr (f := 38) (args := #[.int .i64 p0, .slice car13 ((r11.take (((p1.length : Nat) : Int).toNat)).length) ccr14]) (by kernel_rfl) hc ?_; clear hc h
  rintro _ w ⟨car28, ccr29, car30, car31, rfl, h⟩; refine ⟨_, rfl, ?_⟩
  clear hr a; intro a hr
  refine ovs [34, 41, 42] [.tuple #[.agg #[.slice car28 r25.Effects.length ccr29, .slice car30 r25.Cells.length r25.Cells.length, .slice car31 r25.Log.length r25.Log.length], .int .i64 r26], .agg #[.slice car28 r25.Effects.length ccr29, .slice car30 r25.Cells.length r25.Cells.length, .slice car31 r25.Log.length r25.Log.length], .int .i64 r26] hr ⟨rfl, rfl⟩ (by kernel_rfl) ?_; clear hr a; intro a hr
  refine op_new (wn rfl) rfl rfl hr h (vf := fun b => .pointer (some ⟨b, 0, none⟩)) (cs := #[.slice none 0 0, .slice none 0 0, .slice none 0 0]) (T := 70) (by kernel_rfl) ?_; clear h hr a; intro b32 w a h hr
  refine op_stores (wn rfl) rfl hr rfl (by kernel_rfl) (by kernel_rfl) (vs := [.slice car28 r25.Effects.length ccr29, .slice car30 r25.Cells.length r25.Cells.length, .slice car31 r25.Log.length r25.Log.length]) rfl rfl (by kernel_rfl) h (i := 0) (cs' := #[.slice car28 r25.Effects.length ccr29, .slice car30 r25.Cells.length r25.Cells.length, .slice car31 r25.Log.length r25.Log.length]) rfl ?_; clear h; intro w h
  refine ov hr (.int .i64 r26) (by kernel_rfl) ?_; clear hr a; intro a hr
  refine wpList_nil ?_
  replace h : Fit z (sepL (ob70 b32 r25 car28 ccr29 car30 r25.Cells.length car31 r25.Log.length :: ro39 car28 ccr29 r25.Effects :: ro2 car30 r25.Cells.length r25.Cells :: ro90 car31 r25.Log.length r25.Log :: ob70 b24 r17 car20 ccr21 car22 r17.Cells.length car23 r17.Log.length :: ro39 car20 ccr21 r17.Effects :: ro2 car22 r17.Cells.length r17.Cells :: ro90 car23 r17.Log.length r17.Log :: pts b15 (.cells #[.slice none 0 0, .slice none 0 0, .int .i64 0] 78) :: ro57 car13 ccr14 r11 :: ob70 b10 r1 car4 ccr5 car6 ccr7 car8 ccr9 :: ro39 car4 ccr5 r1.Effects :: ro2 car6 ccr7 r1.Cells :: ro90 car8 ccr9 r1.Log :: L)) _ := h
  refine then_normal ?_
  replace H := jd0 H; obtain ⟨o34, H, hK33⟩ := H
  refine cut_rule (β := Unit) (fun _ a w => .inl () = o34 ∧ ∃ j, Rep 147 (lk [(0, .int .i64 p0), (1, .slice va1 p1.length vc1), (5, .pointer (some ⟨b10, 0, none⟩)), (7, .slice car13 r11.length ccr14), (8, .pointer (some ⟨b15, 0, none⟩)), (9, .pointer (some ⟨b24, 0, none⟩)), (11, .pointer (some ⟨b32, 0, none⟩))] j) a ∧ Fit z (sepL (ob70 b10 r1 car4 ccr5 car6 ccr7 car8 ccr9 :: ro39 car4 ccr5 r1.Effects :: ro2 car6 ccr7 r1.Cells :: ro90 car8 ccr9 r1.Log :: ro57 car13 ccr14 r11 :: pts b15 (.cells #[.slice none 0 0, .slice none 0 0, .int .i64 0] 78) :: ob70 b24 r17 car20 ccr21 car22 r17.Cells.length car23 r17.Log.length :: ro39 car20 ccr21 r17.Effects :: ro2 car22 r17.Cells.length r17.Cells :: ro90 car23 r17.Log.length r17.Log :: ob70 b32 r25 car28 ccr29 car30 r25.Cells.length car31 r25.Log.length :: ro39 car28 ccr29 r25.Effects :: ro2 car30 r25.Cells.length r25.Cells :: ro90 car31 r25.Log.length r25.Log :: L)) w) ?_ ?_
  ·
    refine wp_seq ?_
    refine wp_region_lit ?_
    refine ovs [43, 44, 45, 46] [.int .i64 r18, .int .i64 r2, .bool (r18 != r2), .bool (r18 != r2)] hr ⟨rfl, rfl⟩ (by kernel_rfl) ?_; clear hr a; intro a hr
    by_cases c35 : r18 = r2
    ·
      replace H := ifT c35 H
      refine op_val ((wg hr rfl rfl rfl (b' := (r18 != r2)) (by kernel_rfl)).trans (by rw [show (r18 != r2) = false from (bne_eq_false_iff_eq.mpr c35)]; rfl)) rfl rfl hr (v := .int .i64 r26) (by kernel_rfl) ?_; clear hr a; intro a hr
      refine op_val ((wg hr rfl rfl rfl (b' := (r18 != r2)) (by kernel_rfl)).trans (by rw [show (r18 != r2) = false from (bne_eq_false_iff_eq.mpr c35)]; rfl)) rfl rfl hr (v := .int .i64 r2) (by kernel_rfl) ?_; clear hr a; intro a hr
      refine op_val ((wg hr rfl rfl rfl (b' := (r18 != r2)) (by kernel_rfl)).trans (by rw [show (r18 != r2) = false from (bne_eq_false_iff_eq.mpr c35)]; rfl)) rfl rfl hr (v := .bool (r26 != r2)) (by kernel_rfl) ?_; clear hr a; intro a hr
      refine op_val (wn rfl) rfl rfl hr (v := .bool (r26 != r2)) (rp_f (b := (r18 != r2)) rfl (by kernel_rfl) (bne_eq_false_iff_eq.mpr c35) (by kernel_rfl)) ?_; clear hr a; intro a hr
      refine ov hr (.bool (r26 != r2)) (by kernel_rfl) ?_; clear hr a; intro a hr
      by_cases c36 : r26 = r2
      ·
        replace H := ifT c36 H
        refine op_val ((wg hr rfl rfl rfl (b' := (r26 != r2)) (by kernel_rfl)).trans (by rw [show (r26 != r2) = false from (bne_eq_false_iff_eq.mpr c36)]; rfl)) rfl rfl hr (v := .pointer (some ⟨b24, 0, none⟩)) (by kernel_rfl) ?_; clear hr a; intro a hr
        refine op_val ((wg hr rfl rfl rfl (b' := (r26 != r2)) (by kernel_rfl)).trans (by rw [show (r26 != r2) = false from (bne_eq_false_iff_eq.mpr c36)]; rfl)) rfl rfl hr (v := .slice car20 r17.Effects.length ccr21) (rl rfl (by kernel_rfl) (by kernel_rfl) ((h.pick 4).cell 0 rfl)) ?_; clear hr a; intro a hr
        refine op_val ((wg hr rfl rfl rfl (b' := (r26 != r2)) (by kernel_rfl)).trans (by rw [show (r26 != r2) = false from (bne_eq_false_iff_eq.mpr c36)]; rfl)) rfl rfl hr (v := .pointer (some ⟨b10, 0, none⟩)) (by kernel_rfl) ?_; clear hr a; intro a hr
        refine op_val ((wg hr rfl rfl rfl (b' := (r26 != r2)) (by kernel_rfl)).trans (by rw [show (r26 != r2) = false from (bne_eq_false_iff_eq.mpr c36)]; rfl)) rfl rfl hr (v := .slice car4 r1.Effects.length ccr5) (rl rfl (by kernel_rfl) (by kernel_rfl) ((h.pick 10).cell 0 rfl)) ?_; clear hr a; intro a hr
        replace H := bd1 H; obtain ⟨r37, e38, H⟩ := H
        have hc := plunderlaw2_sameEffects_ok (va0 := car20) (vc0 := ccr21) (va1 := car4) (vc1 := ccr5) (hv0 := (RdRow.of_row enc_T_api_Effect_ok (h.pick 5) (fun h => (h.pick 5)))) (hv1 := (RdRow.of_row enc_T_api_Effect_ok (h.pick 11) (fun h => (h.pick 11)))) (H := e38) (h := h)
        refine op_call ((wg hr rfl rfl rfl (b' := (r26 != r2)) (by kernel_rfl)).trans (by rw [show (r26 != r2) = false from (bne_eq_false_iff_eq.mpr c36)]; rfl)) rfl rfl hr (f := 39) (args := #[.slice car20 r17.Effects.length ccr21, .slice car4 r1.Effects.length ccr5]) (by kernel_rfl) hc ?_; clear hc h
        rintro _ w ⟨rfl, h⟩; refine ⟨_, rfl, ?_⟩
        clear hr a; intro a hr
        refine op_val ((wg hr rfl rfl rfl (b' := (r26 != r2)) (by kernel_rfl)).trans (by rw [show (r26 != r2) = false from (bne_eq_false_iff_eq.mpr c36)]; rfl)) rfl rfl hr (v := .bool (!r37)) (by kernel_rfl) ?_; clear hr a; intro a hr
        refine op_val (wn rfl) rfl rfl hr (v := .bool (!r37)) (rp_f (b := (r26 != r2)) rfl (by kernel_rfl) (bne_eq_false_iff_eq.mpr c36) (by kernel_rfl)) ?_; clear hr a; intro a hr
        refine ov hr (.bool (!r37)) (by kernel_rfl) ?_; clear hr a; intro a hr
        by_cases c39 : r37 = true
        ·
          replace H := ifT c39 H
          refine op_val ((wg hr rfl rfl rfl (b' := (!r37)) (by kernel_rfl)).trans (by rw [show (!r37) = false from (by rw [show r37 = true from (c39)]; rfl)]; rfl)) rfl rfl hr (v := .pointer (some ⟨b24, 1, none⟩)) (by kernel_rfl) ?_; clear hr a; intro a hr
          refine op_val ((wg hr rfl rfl rfl (b' := (!r37)) (by kernel_rfl)).trans (by rw [show (!r37) = false from (by rw [show r37 = true from (c39)]; rfl)]; rfl)) rfl rfl hr (v := .slice car22 r17.Cells.length r17.Cells.length) (rl rfl (by kernel_rfl) (by kernel_rfl) ((h.pick 4).cell 1 rfl)) ?_; clear hr a; intro a hr
          refine op_val ((wg hr rfl rfl rfl (b' := (!r37)) (by kernel_rfl)).trans (by rw [show (!r37) = false from (by rw [show r37 = true from (c39)]; rfl)]; rfl)) rfl rfl hr (v := .pointer (some ⟨b10, 1, none⟩)) (by kernel_rfl) ?_; clear hr a; intro a hr
          refine op_val ((wg hr rfl rfl rfl (b' := (!r37)) (by kernel_rfl)).trans (by rw [show (!r37) = false from (by rw [show r37 = true from (c39)]; rfl)]; rfl)) rfl rfl hr (v := .slice car6 r1.Cells.length ccr7) (rl rfl (by kernel_rfl) (by kernel_rfl) ((h.pick 10).cell 1 rfl)) ?_; clear hr a; intro a hr
          replace H := bd1 H; obtain ⟨r40, e41, H⟩ := H
          have hc := plunderlaw2_sameNumbers_ok (va0 := car22) (vc0 := r17.Cells.length) (va1 := car6) (vc1 := ccr7) (hv0 := (RdRow.of_row encZ_i64_ok (h.pick 6) (fun h => (h.pick 6)))) (hv1 := (RdRow.of_row encZ_i64_ok (h.pick 12) (fun h => (h.pick 12)))) (H := e41) (h := h)
          refine op_call ((wg hr rfl rfl rfl (b' := (!r37)) (by kernel_rfl)).trans (by rw [show (!r37) = false from (by rw [show r37 = true from (c39)]; rfl)]; rfl)) rfl rfl hr (f := 40) (args := #[.slice car22 r17.Cells.length r17.Cells.length, .slice car6 r1.Cells.length ccr7]) (by kernel_rfl) hc ?_; clear hc h
          rintro _ w ⟨rfl, h⟩; refine ⟨_, rfl, ?_⟩
          clear hr a; intro a hr
          refine op_val ((wg hr rfl rfl rfl (b' := (!r37)) (by kernel_rfl)).trans (by rw [show (!r37) = false from (by rw [show r37 = true from (c39)]; rfl)]; rfl)) rfl rfl hr (v := .bool (!r40)) (by kernel_rfl) ?_; clear hr a; intro a hr
          refine op_val (wn rfl) rfl rfl hr (v := .bool (!r40)) (rp_f (b := (!r37)) rfl (by kernel_rfl) (by rw [show r37 = true from (c39)]; rfl) (by kernel_rfl)) ?_; clear hr a; intro a hr
          refine ov hr (.bool (!r40)) (by kernel_rfl) ?_; clear hr a; intro a hr
          by_cases c42 : r40 = true
          ·
            replace H := ifT c42 H
            refine op_val ((wg hr rfl rfl rfl (b' := (!r40)) (by kernel_rfl)).trans (by rw [show (!r40) = false from (by rw [show r40 = true from (c42)]; rfl)]; rfl)) rfl rfl hr (v := .pointer (some ⟨b24, 2, none⟩)) (by kernel_rfl) ?_; clear hr a; intro a hr
            refine op_val ((wg hr rfl rfl rfl (b' := (!r40)) (by kernel_rfl)).trans (by rw [show (!r40) = false from (by rw [show r40 = true from (c42)]; rfl)]; rfl)) rfl rfl hr (v := .slice car23 r17.Log.length r17.Log.length) (rl rfl (by kernel_rfl) (by kernel_rfl) ((h.pick 4).cell 2 rfl)) ?_; clear hr a; intro a hr
            refine op_val ((wg hr rfl rfl rfl (b' := (!r40)) (by kernel_rfl)).trans (by rw [show (!r40) = false from (by rw [show r40 = true from (c42)]; rfl)]; rfl)) rfl rfl hr (v := .pointer (some ⟨b10, 2, none⟩)) (by kernel_rfl) ?_; clear hr a; intro a hr
            refine op_val ((wg hr rfl rfl rfl (b' := (!r40)) (by kernel_rfl)).trans (by rw [show (!r40) = false from (by rw [show r40 = true from (c42)]; rfl)]; rfl)) rfl rfl hr (v := .slice car8 r1.Log.length ccr9) (rl rfl (by kernel_rfl) (by kernel_rfl) ((h.pick 10).cell 2 rfl)) ?_; clear hr a; intro a hr
            replace H := bd1 H; obtain ⟨r43, e44, H⟩ := H
            have hc := plunderlaw2_sameLog_ok (va0 := car23) (vc0 := r17.Log.length) (va1 := car8) (vc1 := ccr9) (hv0 := (RdRow.of_row enc_T_api_Access_ok (h.pick 7) (fun h => (h.pick 7)))) (hv1 := (RdRow.of_row enc_T_api_Access_ok (h.pick 13) (fun h => (h.pick 13)))) (H := e44) (h := h)
            refine op_call ((wg hr rfl rfl rfl (b' := (!r40)) (by kernel_rfl)).trans (by rw [show (!r40) = false from (by rw [show r40 = true from (c42)]; rfl)]; rfl)) rfl rfl hr (f := 41) (args := #[.slice car23 r17.Log.length r17.Log.length, .slice car8 r1.Log.length ccr9]) (by kernel_rfl) hc ?_; clear hc h
            rintro _ w ⟨rfl, h⟩; refine ⟨_, rfl, ?_⟩
            clear hr a; intro a hr
            refine op_val ((wg hr rfl rfl rfl (b' := (!r40)) (by kernel_rfl)).trans (by rw [show (!r40) = false from (by rw [show r40 = true from (c42)]; rfl)]; rfl)) rfl rfl hr (v := .bool (!r43)) (by kernel_rfl) ?_; clear hr a; intro a hr
            refine op_val (wn rfl) rfl rfl hr (v := .bool (!r43)) (rp_f (b := (!r40)) rfl (by kernel_rfl) (by rw [show r40 = true from (c42)]; rfl) (by kernel_rfl)) ?_; clear hr a; intro a hr
            refine wpList_nil ?_
            refine then_normal ?_
            by_cases c45 : r43 = true
            ·
              replace H := ifT c45 H
              refine cond_ff hr (b := (!r43)) (by rw [show r43 = true from (c45)]; rfl) ?_
              refine wp_skip ?_
              refine then_normal ?_
              replace hr := hr.fold2 [(0, .int .i64 p0), (1, .slice va1 p1.length vc1), (5, .pointer (some ⟨b10, 0, none⟩)), (7, .slice car13 r11.length ccr14), (8, .pointer (some ⟨b15, 0, none⟩)), (9, .pointer (some ⟨b24, 0, none⟩)), (11, .pointer (some ⟨b32, 0, none⟩))] (by kernel_rfl); obtain ⟨j, hr⟩ := hr
              replace h : Fit z (sepL (ob70 b10 r1 car4 ccr5 car6 ccr7 car8 ccr9 :: ro39 car4 ccr5 r1.Effects :: ro2 car6 ccr7 r1.Cells :: ro90 car8 ccr9 r1.Log :: ro57 car13 ccr14 r11 :: pts b15 (.cells #[.slice none 0 0, .slice none 0 0, .int .i64 0] 78) :: ob70 b24 r17 car20 ccr21 car22 r17.Cells.length car23 r17.Log.length :: ro39 car20 ccr21 r17.Effects :: ro2 car22 r17.Cells.length r17.Cells :: ro90 car23 r17.Log.length r17.Log :: ob70 b32 r25 car28 ccr29 car30 r25.Cells.length car31 r25.Log.length :: ro39 car28 ccr29 r25.Effects :: ro2 car30 r25.Cells.length r25.Cells :: ro90 car31 r25.Log.length r25.Log :: L)) _ := h.sel 14 [10, 11, 12, 13, 9, 8, 4, 5, 6, 7, 0, 1, 2, 3] (by kernel_rfl) (by kernel_rfl)
              exact ⟨(), sinj H, j, hr, h⟩
            ·
              replace H := ifF c45 H
              refine cond_tt hr (b := (!r43)) (by rw [show r43 = false from (bF c45)]; rfl) ?_
              refine wp_seq ?_
              refine wp_region_lit ?_
              refine ov hr (.bool false) (by kernel_rfl) ?_; clear hr a; intro a hr
              refine wpList_nil ?_
              refine then_normal ?_
              refine wp_ret ?_
              refine then_ret ?_
              refine end_ret1 (v := .bool false) rfl hr (by kernel_rfl) ?_
              replace H := jx0 H hK33
              replace h : Fit z (sepL (L)) _ := h.sel 14 [] (by kernel_rfl) (by kernel_rfl)
              replace H := ej1 H; subst H
              exact ⟨rfl, h⟩
          ·
            replace H := ifF c42 H
            refine op_off ((wg hr rfl rfl rfl (b' := (!r40)) (by kernel_rfl)).trans (by rw [show (!r40) = true from (by rw [show r40 = false from (bF c42)]; rfl)]; rfl)) rfl rfl hr ?_; clear hr a; intro a hr
            refine op_off ((wg hr rfl rfl rfl (b' := (!r40)) (by kernel_rfl)).trans (by rw [show (!r40) = true from (by rw [show r40 = false from (bF c42)]; rfl)]; rfl)) rfl rfl hr ?_; clear hr a; intro a hr
            refine op_off ((wg hr rfl rfl rfl (b' := (!r40)) (by kernel_rfl)).trans (by rw [show (!r40) = true from (by rw [show r40 = false from (bF c42)]; rfl)]; rfl)) rfl rfl hr ?_; clear hr a; intro a hr
            refine op_off ((wg hr rfl rfl rfl (b' := (!r40)) (by kernel_rfl)).trans (by rw [show (!r40) = true from (by rw [show r40 = false from (bF c42)]; rfl)]; rfl)) rfl rfl hr ?_; clear hr a; intro a hr
            refine op_off ((wg hr rfl rfl rfl (b' := (!r40)) (by kernel_rfl)).trans (by rw [show (!r40) = true from (by rw [show r40 = false from (bF c42)]; rfl)]; rfl)) rfl rfl hr ?_; clear hr a; intro a hr
            refine op_off ((wg hr rfl rfl rfl (b' := (!r40)) (by kernel_rfl)).trans (by rw [show (!r40) = true from (by rw [show r40 = false from (bF c42)]; rfl)]; rfl)) rfl rfl hr ?_; clear hr a; intro a hr
            refine op_val (wn rfl) rfl rfl hr (v := .bool true) (rp_t (b := (!r40)) rfl (by kernel_rfl) (by rw [show r40 = false from (bF c42)]; rfl) (by kernel_rfl)) ?_; clear hr a; intro a hr
            refine wpList_nil ?_
            refine then_normal ?_
            refine cond_tt hr (b := true) rfl ?_
            refine wp_seq ?_
            refine wp_region_lit ?_
            refine ov hr (.bool false) (by kernel_rfl) ?_; clear hr a; intro a hr
            refine wpList_nil ?_
            refine then_normal ?_
            refine wp_ret ?_
            refine then_ret ?_
            refine end_ret1 (v := .bool false) rfl hr (by kernel_rfl) ?_
            replace H := jx0 H hK33
            replace h : Fit z (sepL (L)) _ := h.sel 14 [] (by kernel_rfl) (by kernel_rfl)
            replace H := ej1 H; subst H
            exact ⟨rfl, h⟩
        ·
          replace H := ifF c39 H
          refine op_off ((wg hr rfl rfl rfl (b' := (!r37)) (by kernel_rfl)).trans (by rw [show (!r37) = true from (by rw [show r37 = false from (bF c39)]; rfl)]; rfl)) rfl rfl hr ?_; clear hr a; intro a hr
          refine op_off ((wg hr rfl rfl rfl (b' := (!r37)) (by kernel_rfl)).trans (by rw [show (!r37) = true from (by rw [show r37 = false from (bF c39)]; rfl)]; rfl)) rfl rfl hr ?_; clear hr a; intro a hr
          refine op_off ((wg hr rfl rfl rfl (b' := (!r37)) (by kernel_rfl)).trans (by rw [show (!r37) = true from (by rw [show r37 = false from (bF c39)]; rfl)]; rfl)) rfl rfl hr ?_; clear hr a; intro a hr
          refine op_off ((wg hr rfl rfl rfl (b' := (!r37)) (by kernel_rfl)).trans (by rw [show (!r37) = true from (by rw [show r37 = false from (bF c39)]; rfl)]; rfl)) rfl rfl hr ?_; clear hr a; intro a hr
          refine op_off ((wg hr rfl rfl rfl (b' := (!r37)) (by kernel_rfl)).trans (by rw [show (!r37) = true from (by rw [show r37 = false from (bF c39)]; rfl)]; rfl)) rfl rfl hr ?_; clear hr a; intro a hr
          refine op_off ((wg hr rfl rfl rfl (b' := (!r37)) (by kernel_rfl)).trans (by rw [show (!r37) = true from (by rw [show r37 = false from (bF c39)]; rfl)]; rfl)) rfl rfl hr ?_; clear hr a; intro a hr
          refine op_val (wn rfl) rfl rfl hr (v := .bool true) (rp_t (b := (!r37)) rfl (by kernel_rfl) (by rw [show r37 = false from (bF c39)]; rfl) (by kernel_rfl)) ?_; clear hr a; intro a hr
          refine ov hr (.bool true) (by kernel_rfl) ?_; clear hr a; intro a hr
          refine op_off ((wg hr rfl rfl rfl (b' := true) (by kernel_rfl)).trans rfl) rfl rfl hr ?_; clear hr a; intro a hr
          refine op_off ((wg hr rfl rfl rfl (b' := true) (by kernel_rfl)).trans rfl) rfl rfl hr ?_; clear hr a; intro a hr
          refine op_off ((wg hr rfl rfl rfl (b' := true) (by kernel_rfl)).trans rfl) rfl rfl hr ?_; clear hr a; intro a hr
          refine op_off ((wg hr rfl rfl rfl (b' := true) (by kernel_rfl)).trans rfl) rfl rfl hr ?_; clear hr a; intro a hr
          refine op_off ((wg hr rfl rfl rfl (b' := true) (by kernel_rfl)).trans rfl) rfl rfl hr ?_; clear hr a; intro a hr
          refine op_off ((wg hr rfl rfl rfl (b' := true) (by kernel_rfl)).trans rfl) rfl rfl hr ?_; clear hr a; intro a hr
          refine ov hr (.bool true) (by kernel_rfl) ?_; clear hr a; intro a hr
          refine wpList_nil ?_
          refine then_normal ?_
          refine cond_tt hr (b := true) rfl ?_
          refine wp_seq ?_
          refine wp_region_lit ?_
          refine ov hr (.bool false) (by kernel_rfl) ?_; clear hr a; intro a hr
          refine wpList_nil ?_
          refine then_normal ?_
          refine wp_ret ?_
          refine then_ret ?_
          refine end_ret1 (v := .bool false) rfl hr (by kernel_rfl) ?_
          replace H := jx0 H hK33
          replace h : Fit z (sepL (L)) _ := h.sel 14 [] (by kernel_rfl) (by kernel_rfl)
          replace H := ej1 H; subst H
          exact ⟨rfl, h⟩
      ·
        replace H := ifF c36 H
        refine op_off ((wg hr rfl rfl rfl (b' := (r26 != r2)) (by kernel_rfl)).trans (by rw [show (r26 != r2) = true from (bne_iff_ne.mpr c36)]; rfl)) rfl rfl hr ?_; clear hr a; intro a hr
        refine op_off ((wg hr rfl rfl rfl (b' := (r26 != r2)) (by kernel_rfl)).trans (by rw [show (r26 != r2) = true from (bne_iff_ne.mpr c36)]; rfl)) rfl rfl hr ?_; clear hr a; intro a hr
        refine op_off ((wg hr rfl rfl rfl (b' := (r26 != r2)) (by kernel_rfl)).trans (by rw [show (r26 != r2) = true from (bne_iff_ne.mpr c36)]; rfl)) rfl rfl hr ?_; clear hr a; intro a hr
        refine op_off ((wg hr rfl rfl rfl (b' := (r26 != r2)) (by kernel_rfl)).trans (by rw [show (r26 != r2) = true from (bne_iff_ne.mpr c36)]; rfl)) rfl rfl hr ?_; clear hr a; intro a hr
        refine op_off ((wg hr rfl rfl rfl (b' := (r26 != r2)) (by kernel_rfl)).trans (by rw [show (r26 != r2) = true from (bne_iff_ne.mpr c36)]; rfl)) rfl rfl hr ?_; clear hr a; intro a hr
        refine op_off ((wg hr rfl rfl rfl (b' := (r26 != r2)) (by kernel_rfl)).trans (by rw [show (r26 != r2) = true from (bne_iff_ne.mpr c36)]; rfl)) rfl rfl hr ?_; clear hr a; intro a hr
        refine op_val (wn rfl) rfl rfl hr (v := .bool true) (rp_t (b := (r26 != r2)) rfl (by kernel_rfl) (bne_iff_ne.mpr c36) (by kernel_rfl)) ?_; clear hr a; intro a hr
        refine ov hr (.bool true) (by kernel_rfl) ?_; clear hr a; intro a hr
        refine op_off ((wg hr rfl rfl rfl (b' := true) (by kernel_rfl)).trans rfl) rfl rfl hr ?_; clear hr a; intro a hr
        refine op_off ((wg hr rfl rfl rfl (b' := true) (by kernel_rfl)).trans rfl) rfl rfl hr ?_; clear hr a; intro a hr
        refine op_off ((wg hr rfl rfl rfl (b' := true) (by kernel_rfl)).trans rfl) rfl rfl hr ?_; clear hr a; intro a hr
        refine op_off ((wg hr rfl rfl rfl (b' := true) (by kernel_rfl)).trans rfl) rfl rfl hr ?_; clear hr a; intro a hr
        refine op_off ((wg hr rfl rfl rfl (b' := true) (by kernel_rfl)).trans rfl) rfl rfl hr ?_; clear hr a; intro a hr
        refine op_off ((wg hr rfl rfl rfl (b' := true) (by kernel_rfl)).trans rfl) rfl rfl hr ?_; clear hr a; intro a hr
        refine ovs [66, 67] [.bool true, .bool true] hr ⟨rfl, rfl⟩ (by kernel_rfl) ?_; clear hr a; intro a hr
        refine op_off ((wg hr rfl rfl rfl (b' := true) (by kernel_rfl)).trans rfl) rfl rfl hr ?_; clear hr a; intro a hr
        refine op_off ((wg hr rfl rfl rfl (b' := true) (by kernel_rfl)).trans rfl) rfl rfl hr ?_; clear hr a; intro a hr
        refine op_off ((wg hr rfl rfl rfl (b' := true) (by kernel_rfl)).trans rfl) rfl rfl hr ?_; clear hr a; intro a hr
        refine op_off ((wg hr rfl rfl rfl (b' := true) (by kernel_rfl)).trans rfl) rfl rfl hr ?_; clear hr a; intro a hr
        refine op_off ((wg hr rfl rfl rfl (b' := true) (by kernel_rfl)).trans rfl) rfl rfl hr ?_; clear hr a; intro a hr
        refine op_off ((wg hr rfl rfl rfl (b' := true) (by kernel_rfl)).trans rfl) rfl rfl hr ?_; clear hr a; intro a hr
        refine ov hr (.bool true) (by kernel_rfl) ?_; clear hr a; intro a hr
        refine wpList_nil ?_
        refine then_normal ?_
        refine cond_tt hr (b := true) rfl ?_
        refine wp_seq ?_
        refine wp_region_lit ?_
        refine ov hr (.bool false) (by kernel_rfl) ?_; clear hr a; intro a hr
        refine wpList_nil ?_
        refine then_normal ?_
        refine wp_ret ?_
        refine then_ret ?_
        refine end_ret1 (v := .bool false) rfl hr (by kernel_rfl) ?_
        replace H := jx0 H hK33
        replace h : Fit z (sepL (L)) _ := h.sel 14 [] (by kernel_rfl) (by kernel_rfl)
        replace H := ej1 H; subst H
        exact ⟨rfl, h⟩
    ·
      replace H := ifF c35 H
      refine op_off ((wg hr rfl rfl rfl (b' := (r18 != r2)) (by kernel_rfl)).trans (by rw [show (r18 != r2) = true from (bne_iff_ne.mpr c35)]; rfl)) rfl rfl hr ?_; clear hr a; intro a hr
      refine op_off ((wg hr rfl rfl rfl (b' := (r18 != r2)) (by kernel_rfl)).trans (by rw [show (r18 != r2) = true from (bne_iff_ne.mpr c35)]; rfl)) rfl rfl hr ?_; clear hr a; intro a hr
      refine op_off ((wg hr rfl rfl rfl (b' := (r18 != r2)) (by kernel_rfl)).trans (by rw [show (r18 != r2) = true from (bne_iff_ne.mpr c35)]; rfl)) rfl rfl hr ?_; clear hr a; intro a hr
      refine op_val (wn rfl) rfl rfl hr (v := .bool true) (rp_t (b := (r18 != r2)) rfl (by kernel_rfl) (bne_iff_ne.mpr c35) (by kernel_rfl)) ?_; clear hr a; intro a hr
      refine ov hr (.bool true) (by kernel_rfl) ?_; clear hr a; intro a hr
      refine op_off ((wg hr rfl rfl rfl (b' := true) (by kernel_rfl)).trans rfl) rfl rfl hr ?_; clear hr a; intro a hr
      refine op_off ((wg hr rfl rfl rfl (b' := true) (by kernel_rfl)).trans rfl) rfl rfl hr ?_; clear hr a; intro a hr
      refine op_off ((wg hr rfl rfl rfl (b' := true) (by kernel_rfl)).trans rfl) rfl rfl hr ?_; clear hr a; intro a hr
      refine op_off ((wg hr rfl rfl rfl (b' := true) (by kernel_rfl)).trans rfl) rfl rfl hr ?_; clear hr a; intro a hr
      refine op_off ((wg hr rfl rfl rfl (b' := true) (by kernel_rfl)).trans rfl) rfl rfl hr ?_; clear hr a; intro a hr
      refine op_off ((wg hr rfl rfl rfl (b' := true) (by kernel_rfl)).trans rfl) rfl rfl hr ?_; clear hr a; intro a hr
      refine ovs [58, 59] [.bool true, .bool true] hr ⟨rfl, rfl⟩ (by kernel_rfl) ?_; clear hr a; intro a hr
      refine op_off ((wg hr rfl rfl rfl (b' := true) (by kernel_rfl)).trans rfl) rfl rfl hr ?_; clear hr a; intro a hr
      refine op_off ((wg hr rfl rfl rfl (b' := true) (by kernel_rfl)).trans rfl) rfl rfl hr ?_; clear hr a; intro a hr
      refine op_off ((wg hr rfl rfl rfl (b' := true) (by kernel_rfl)).trans rfl) rfl rfl hr ?_; clear hr a; intro a hr
      refine op_off ((wg hr rfl rfl rfl (b' := true) (by kernel_rfl)).trans rfl) rfl rfl hr ?_; clear hr a; intro a hr
      refine op_off ((wg hr rfl rfl rfl (b' := true) (by kernel_rfl)).trans rfl) rfl rfl hr ?_; clear hr a; intro a hr
      refine op_off ((wg hr rfl rfl rfl (b' := true) (by kernel_rfl)).trans rfl) rfl rfl hr ?_; clear hr a; intro a hr
      refine ovs [66, 67] [.bool true, .bool true] hr ⟨rfl, rfl⟩ (by kernel_rfl) ?_; clear hr a; intro a hr
      refine op_off ((wg hr rfl rfl rfl (b' := true) (by kernel_rfl)).trans rfl) rfl rfl hr ?_; clear hr a; intro a hr
      refine op_off ((wg hr rfl rfl rfl (b' := true) (by kernel_rfl)).trans rfl) rfl rfl hr ?_; clear hr a; intro a hr
      refine op_off ((wg hr rfl rfl rfl (b' := true) (by kernel_rfl)).trans rfl) rfl rfl hr ?_; clear hr a; intro a hr
      refine op_off ((wg hr rfl rfl rfl (b' := true) (by kernel_rfl)).trans rfl) rfl rfl hr ?_; clear hr a; intro a hr
      refine op_off ((wg hr rfl rfl rfl (b' := true) (by kernel_rfl)).trans rfl) rfl rfl hr ?_; clear hr a; intro a hr
      refine op_off ((wg hr rfl rfl rfl (b' := true) (by kernel_rfl)).trans rfl) rfl rfl hr ?_; clear hr a; intro a hr
      refine ov hr (.bool true) (by kernel_rfl) ?_; clear hr a; intro a hr
      refine wpList_nil ?_
      refine then_normal ?_
      refine cond_tt hr (b := true) rfl ?_
      refine wp_seq ?_
      refine wp_region_lit ?_
      refine ov hr (.bool false) (by kernel_rfl) ?_; clear hr a; intro a hr
      refine wpList_nil ?_
      refine then_normal ?_
      refine wp_ret ?_
      refine then_ret ?_
      refine end_ret1 (v := .bool false) rfl hr (by kernel_rfl) ?_
      replace H := jx0 H hK33
      replace h : Fit z (sepL (L)) _ := h.sel 14 [] (by kernel_rfl) (by kernel_rfl)
      replace H := ej1 H; subst H
      exact ⟨rfl, h⟩
  clear h hr a; rintro _ a w ⟨rfl, j, hr, h⟩
  replace H := jk0 hK33
  replace H := kd1 H; obtain ⟨o48, H, hK47⟩ := H
  refine cut_rule (β := Unit) (fun _ a w => ∃ l46 : List T_api_Effect, l46 = o48 ∧ ∃ j, Rep 147 (lk [(0, .int .i64 p0), (1, .slice va1 p1.length vc1), (5, .pointer (some ⟨b10, 0, none⟩)), (7, .slice car13 r11.length ccr14), (8, .pointer (some ⟨b15, 0, none⟩)), (9, .pointer (some ⟨b24, 0, none⟩)), (11, .pointer (some ⟨b32, 0, none⟩))] j) a ∧ Fit z (sepL (ob70 b10 r1 car4 ccr5 car6 ccr7 car8 ccr9 :: ro39 car4 ccr5 r1.Effects :: ro2 car6 ccr7 r1.Cells :: ro90 car8 ccr9 r1.Log :: ro57 car13 ccr14 r11 :: pts b15 (.cells #[.slice none 0 0, .slice none 0 0, .int .i64 0] 78) :: ob70 b24 r17 car20 ccr21 car22 r17.Cells.length car23 r17.Log.length :: rowOf 39 3 enc_T_api_Effect (.slice car20 r17.Effects.length ccr21) l46 :: ro2 car22 r17.Cells.length r17.Cells :: ro90 car23 r17.Log.length r17.Log :: ob70 b32 r25 car28 ccr29 car30 r25.Cells.length car31 r25.Log.length :: ro39 car28 ccr29 r25.Effects :: ro2 car30 r25.Cells.length r25.Cells :: ro90 car31 r25.Log.length r25.Log :: L)) w) ?_ ?_
  ·
    refine wp_seq ?_
    refine wp_region_lit ?_
    refine ov hr (.int .i64 0) (by kernel_rfl) ?_; clear hr a; intro a hr
    refine wpList_nil ?_
    refine then_normal ?_
    refine wp_block ?_
    replace hr := hr.fold2 [(0, .int .i64 p0), (1, .slice va1 p1.length vc1), (5, .pointer (some ⟨b10, 0, none⟩)), (7, .slice car13 r11.length ccr14), (8, .pointer (some ⟨b15, 0, none⟩)), (9, .pointer (some ⟨b24, 0, none⟩)), (11, .pointer (some ⟨b32, 0, none⟩)), (13, .int .i64 0)] (by kernel_rfl); obtain ⟨j, hr⟩ := hr
    refine loop_rule (β := Nat) id (fun m a w => ∃ l49 : List T_api_Effect, ∃ g50 : Int, (plunderlaw2_CellsPlay_l1 K r17 m l49 g50) = some o48 ∧ ∃ j, Rep 147 (lk [(0, .int .i64 p0), (1, .slice va1 p1.length vc1), (5, .pointer (some ⟨b10, 0, none⟩)), (7, .slice car13 r11.length ccr14), (8, .pointer (some ⟨b15, 0, none⟩)), (9, .pointer (some ⟨b24, 0, none⟩)), (11, .pointer (some ⟨b32, 0, none⟩)), (13, .int .i64 g50)] j) a ∧ Fit z (sepL (ob70 b10 r1 car4 ccr5 car6 ccr7 car8 ccr9 :: ro39 car4 ccr5 r1.Effects :: ro2 car6 ccr7 r1.Cells :: ro90 car8 ccr9 r1.Log :: ro57 car13 ccr14 r11 :: pts b15 (.cells #[.slice none 0 0, .slice none 0 0, .int .i64 0] 78) :: ob70 b24 r17 car20 ccr21 car22 r17.Cells.length car23 r17.Log.length :: rowOf 39 3 enc_T_api_Effect (.slice car20 r17.Effects.length ccr21) l49 :: ro2 car22 r17.Cells.length r17.Cells :: ro90 car23 r17.Log.length r17.Log :: ob70 b32 r25 car28 ccr29 car30 r25.Cells.length car31 r25.Log.length :: ro39 car28 ccr29 r25.Effects :: ro2 car30 r25.Cells.length r25.Cells :: ro90 car31 r25.Log.length r25.Log :: L)) w) K ⟨r17.Effects, 0, H, j, hr, h⟩ ?_
    clear h hr a H; rintro k1 a w ⟨l49, g50, H, j, hr, h⟩
    cases k1 with
    | zero => exact absurd H (by simp [plunderlaw2_CellsPlay_l1])
    | succ k1 =>
      rw [plunderlaw2_CellsPlay_l1] at H
      refine wp_seq ?_
      refine wp_seq ?_
      refine wp_region_lit ?_
      refine ovs [75, 76] [.int .i64 g50, .pointer (some ⟨b24, 0, none⟩)] hr ⟨rfl, rfl⟩ (by kernel_rfl) ?_; clear hr a; intro a hr
      refine op_val (wn rfl) rfl rfl hr (v := .slice car20 r17.Effects.length ccr21) (rl rfl (by kernel_rfl) (by kernel_rfl) ((h.pick 6).cell 0 rfl)) ?_; clear hr a; intro a hr
      refine ovs [78, 79] [.int .i64 ((r17.Effects.length : Nat) : Int), .bool (decide (g50 < ((r17.Effects.length : Nat) : Int)))] hr ⟨rfl, rfl⟩ (by kernel_rfl) ?_; clear hr a; intro a hr
      refine wpList_nil ?_
      refine then_normal ?_
      by_cases c51 : g50 < ((r17.Effects.length : Nat) : Int)
      ·
        replace H := ifT c51 H
        refine cond_tt hr (b := (decide (g50 < ((r17.Effects.length : Nat) : Int)))) (decide_eq_true c51) ?_
        refine wp_skip ?_
        refine then_normal ?_
        refine wp_seq ?_
        refine wp_block ?_
        refine wp_region_lit ?_
        refine ov hr (.pointer (some ⟨b24, 0, none⟩)) (by kernel_rfl) ?_; clear hr a; intro a hr
        refine op_val (wn rfl) rfl rfl hr (v := .slice car20 r17.Effects.length ccr21) (rl rfl (by kernel_rfl) (by kernel_rfl) ((h.pick 6).cell 0 rfl)) ?_; clear hr a; intro a hr
        replace H := gd H; obtain ⟨c52, H⟩ := H
        refine ovs [84, 85] [.int .i64 g50, .agg #[.int .i64 (-5), .bool false, .int .i64 99]] hr ⟨rfl, rfl⟩ (by kernel_rfl) ?_; clear hr a; intro a hr
        refine op_val (wn rfl) rfl rfl hr (v := .pointer (some ⟨blk car20, g50.toNat * 3, none⟩)) (ri_row (k := .i64) (E := 39) rfl (by kernel_rfl) (by kernel_rfl) (by kernel_rfl) (by kernel_rfl) (h.pick 7) c52) ?_; clear hr a; intro a hr
        replace h : Fit z (sepL (rowOf 39 3 enc_T_api_Effect (.slice car20 r17.Effects.length ccr21) l49 :: ob70 b10 r1 car4 ccr5 car6 ccr7 car8 ccr9 :: ro39 car4 ccr5 r1.Effects :: ro2 car6 ccr7 r1.Cells :: ro90 car8 ccr9 r1.Log :: ro57 car13 ccr14 r11 :: pts b15 (.cells #[.slice none 0 0, .slice none 0 0, .int .i64 0] 78) :: ob70 b24 r17 car20 ccr21 car22 r17.Cells.length car23 r17.Log.length :: ro2 car22 r17.Cells.length r17.Cells :: ro90 car23 r17.Log.length r17.Log :: ob70 b32 r25 car28 ccr29 car30 r25.Cells.length car31 r25.Log.length :: ro39 car28 ccr29 r25.Effects :: ro2 car30 r25.Cells.length r25.Cells :: ro90 car31 r25.Log.length r25.Log :: L)) _ := h.sel 14 [7, 0, 1, 2, 3, 4, 5, 6, 8, 9, 10, 11, 12, 13] (by kernel_rfl) (by kernel_rfl)
        refine op_stores_row (wn rfl) rfl hr rfl (by kernel_rfl) (by kernel_rfl) (vs := [.int .i64 (-5), .bool false, .int .i64 99]) rfl (by kernel_rfl) enc_T_api_Effect_ok h (i := g50.toNat) (q := (⟨-5, false, 99⟩ : T_api_Effect)) (at_okL c52) rfl ?_; clear h; intro w h
        replace h : Fit z (sepL (rowOf 39 3 enc_T_api_Effect (.slice car20 r17.Effects.length ccr21) (l49.set g50.toNat (⟨-5, false, 99⟩ : T_api_Effect)) :: ob70 b10 r1 car4 ccr5 car6 ccr7 car8 ccr9 :: ro39 car4 ccr5 r1.Effects :: ro2 car6 ccr7 r1.Cells :: ro90 car8 ccr9 r1.Log :: ro57 car13 ccr14 r11 :: pts b15 (.cells #[.slice none 0 0, .slice none 0 0, .int .i64 0] 78) :: ob70 b24 r17 car20 ccr21 car22 r17.Cells.length car23 r17.Log.length :: ro2 car22 r17.Cells.length r17.Cells :: ro90 car23 r17.Log.length r17.Log :: ob70 b32 r25 car28 ccr29 car30 r25.Cells.length car31 r25.Log.length :: ro39 car28 ccr29 r25.Effects :: ro2 car30 r25.Cells.length r25.Cells :: ro90 car31 r25.Log.length r25.Log :: L)) _ := h
        refine wpList_nil ?_
        refine blk_normal ?_
        refine then_normal ?_
        refine wp_region_lit ?_
        refine ovs [80, 81, 13] [.int .i64 g50, .int .i64 (wi (g50 + (1 : Int))), .int .i64 (wi (g50 + (1 : Int)))] hr ⟨rfl, rfl⟩ (by kernel_rfl) ?_; clear hr a; intro a hr
        refine wpList_nil ?_
        refine then_normal ?_
        replace hr := hr.fold2 [(0, .int .i64 p0), (1, .slice va1 p1.length vc1), (5, .pointer (some ⟨b10, 0, none⟩)), (7, .slice car13 r11.length ccr14), (8, .pointer (some ⟨b15, 0, none⟩)), (9, .pointer (some ⟨b24, 0, none⟩)), (11, .pointer (some ⟨b32, 0, none⟩)), (13, .int .i64 (wi (g50 + (1 : Int))))] (by kernel_rfl); obtain ⟨j, hr⟩ := hr
        replace h : Fit z (sepL (ob70 b10 r1 car4 ccr5 car6 ccr7 car8 ccr9 :: ro39 car4 ccr5 r1.Effects :: ro2 car6 ccr7 r1.Cells :: ro90 car8 ccr9 r1.Log :: ro57 car13 ccr14 r11 :: pts b15 (.cells #[.slice none 0 0, .slice none 0 0, .int .i64 0] 78) :: ob70 b24 r17 car20 ccr21 car22 r17.Cells.length car23 r17.Log.length :: rowOf 39 3 enc_T_api_Effect (.slice car20 r17.Effects.length ccr21) (l49.set g50.toNat (⟨-5, false, 99⟩ : T_api_Effect)) :: ro2 car22 r17.Cells.length r17.Cells :: ro90 car23 r17.Log.length r17.Log :: ob70 b32 r25 car28 ccr29 car30 r25.Cells.length car31 r25.Log.length :: ro39 car28 ccr29 r25.Effects :: ro2 car30 r25.Cells.length r25.Cells :: ro90 car31 r25.Log.length r25.Log :: L)) _ := h.sel 14 [1, 2, 3, 4, 5, 6, 7, 0, 8, 9, 10, 11, 12, 13] (by kernel_rfl) (by kernel_rfl)
        exact ⟨_, ⟨(l49.set g50.toNat (⟨-5, false, 99⟩ : T_api_Effect)), (wi (g50 + (1 : Int))), H, j, hr, h⟩, Nat.lt_succ_self _⟩
      ·
        replace H := ifF c51 H
        refine cond_ff hr (b := (decide (g50 < ((r17.Effects.length : Nat) : Int)))) (decide_eq_false c51) ?_
        refine wp_exit ?_
        refine then_exit ?_
        refine then_exit ?_
        refine blk_here ?_
        refine then_normal ?_
        replace hr := hr.fold2 [(0, .int .i64 p0), (1, .slice va1 p1.length vc1), (5, .pointer (some ⟨b10, 0, none⟩)), (7, .slice car13 r11.length ccr14), (8, .pointer (some ⟨b15, 0, none⟩)), (9, .pointer (some ⟨b24, 0, none⟩)), (11, .pointer (some ⟨b32, 0, none⟩))] (by kernel_rfl); obtain ⟨j, hr⟩ := hr
        exact ⟨(), l49, sinj H, j, hr, h⟩
  clear h hr a; rintro _ a w ⟨l46, rfl, j, hr, h⟩
  replace H := kk1 hK47
  replace H := kd1 H; obtain ⟨o57, H, hK56⟩ := H
  refine cut_rule (β := Unit) (fun _ a w => ∃ ca53 : Option Addr, ∃ cc54 : Nat, ∃ l55 : List T_api_Effect, l55 = o57 ∧ ∃ j, Rep 147 (lk [(0, .int .i64 p0), (1, .slice va1 p1.length vc1), (5, .pointer (some ⟨b10, 0, none⟩)), (7, .slice car13 r11.length ccr14), (8, .pointer (some ⟨b15, 0, none⟩)), (9, .pointer (some ⟨b24, 0, none⟩)), (11, .pointer (some ⟨b32, 0, none⟩))] j) a ∧ Fit z (sepL (ob70 b10 r1 car4 ccr5 car6 ccr7 car8 ccr9 :: ro39 car4 ccr5 r1.Effects :: ro2 car6 ccr7 r1.Cells :: ro90 car8 ccr9 r1.Log :: ro57 car13 ccr14 r11 :: pts b15 (.cells #[.slice none 0 0, .slice none 0 0, .int .i64 0] 78) :: pts b24 (.cells #[.slice ca53 l55.length cc54, .slice car22 r17.Cells.length r17.Cells.length, .slice car23 r17.Log.length r17.Log.length] 70) :: ro39 ca53 cc54 l55 :: ro2 car22 r17.Cells.length r17.Cells :: ro90 car23 r17.Log.length r17.Log :: ob70 b32 r25 car28 ccr29 car30 r25.Cells.length car31 r25.Log.length :: ro39 car28 ccr29 r25.Effects :: ro2 car30 r25.Cells.length r25.Cells :: ro90 car31 r25.Log.length r25.Log :: L)) w) ?_ ?_
  ·
    refine wp_seq ?_
    refine wp_region_lit ?_
    refine ov hr (.int .i64 0) (by kernel_rfl) ?_; clear hr a; intro a hr
    refine wpList_nil ?_
    refine then_normal ?_
    refine wp_block ?_
    have hn61 := (h.pick 7).row_n
    replace h : Fit z (sepL (ob70 b10 r1 car4 ccr5 car6 ccr7 car8 ccr9 :: ro39 car4 ccr5 r1.Effects :: ro2 car6 ccr7 r1.Cells :: ro90 car8 ccr9 r1.Log :: ro57 car13 ccr14 r11 :: pts b15 (.cells #[.slice none 0 0, .slice none 0 0, .int .i64 0] 78) :: pts b24 (.cells #[.slice car20 l46.length ccr21, .slice car22 r17.Cells.length r17.Cells.length, .slice car23 r17.Log.length r17.Log.length] 70) :: ro39 car20 ccr21 l46 :: ro2 car22 r17.Cells.length r17.Cells :: ro90 car23 r17.Log.length r17.Log :: ob70 b32 r25 car28 ccr29 car30 r25.Cells.length car31 r25.Log.length :: ro39 car28 ccr29 r25.Effects :: ro2 car30 r25.Cells.length r25.Cells :: ro90 car31 r25.Log.length r25.Log :: L)) w := (congrArg (fun q_ : Nat => Fit z (sepL (ob70 b10 r1 car4 ccr5 car6 ccr7 car8 ccr9 :: ro39 car4 ccr5 r1.Effects :: ro2 car6 ccr7 r1.Cells :: ro90 car8 ccr9 r1.Log :: ro57 car13 ccr14 r11 :: pts b15 (.cells #[.slice none 0 0, .slice none 0 0, .int .i64 0] 78) :: pts b24 (.cells #[.slice car20 q_ ccr21, .slice car22 r17.Cells.length r17.Cells.length, .slice car23 r17.Log.length r17.Log.length] 70) :: rowOf 39 3 enc_T_api_Effect (.slice car20 q_ ccr21) l46 :: ro2 car22 r17.Cells.length r17.Cells :: ro90 car23 r17.Log.length r17.Log :: ob70 b32 r25 car28 ccr29 car30 r25.Cells.length car31 r25.Log.length :: ro39 car28 ccr29 r25.Effects :: ro2 car30 r25.Cells.length r25.Cells :: ro90 car31 r25.Log.length r25.Log :: L)) w) (h.pick 7).row_n).mp h
    replace hr := hr.fold2 [(0, .int .i64 p0), (1, .slice va1 p1.length vc1), (5, .pointer (some ⟨b10, 0, none⟩)), (7, .slice car13 r11.length ccr14), (8, .pointer (some ⟨b15, 0, none⟩)), (9, .pointer (some ⟨b24, 0, none⟩)), (11, .pointer (some ⟨b32, 0, none⟩)), (14, .int .i64 0)] (by kernel_rfl); obtain ⟨j, hr⟩ := hr
    refine loop_rule (β := Nat) id (fun m a w => ∃ ca58 : Option Addr, ∃ cc59 : Nat, ∃ l60 : List T_api_Effect, ∃ g61 : Int, (plunderlaw2_CellsPlay_l2 K m l60 g61) = some o57 ∧ ∃ j, Rep 147 (lk [(0, .int .i64 p0), (1, .slice va1 p1.length vc1), (5, .pointer (some ⟨b10, 0, none⟩)), (7, .slice car13 r11.length ccr14), (8, .pointer (some ⟨b15, 0, none⟩)), (9, .pointer (some ⟨b24, 0, none⟩)), (11, .pointer (some ⟨b32, 0, none⟩)), (14, .int .i64 g61)] j) a ∧ Fit z (sepL (ob70 b10 r1 car4 ccr5 car6 ccr7 car8 ccr9 :: ro39 car4 ccr5 r1.Effects :: ro2 car6 ccr7 r1.Cells :: ro90 car8 ccr9 r1.Log :: ro57 car13 ccr14 r11 :: pts b15 (.cells #[.slice none 0 0, .slice none 0 0, .int .i64 0] 78) :: pts b24 (.cells #[.slice ca58 l60.length cc59, .slice car22 r17.Cells.length r17.Cells.length, .slice car23 r17.Log.length r17.Log.length] 70) :: ro39 ca58 cc59 l60 :: ro2 car22 r17.Cells.length r17.Cells :: ro90 car23 r17.Log.length r17.Log :: ob70 b32 r25 car28 ccr29 car30 r25.Cells.length car31 r25.Log.length :: ro39 car28 ccr29 r25.Effects :: ro2 car30 r25.Cells.length r25.Cells :: ro90 car31 r25.Log.length r25.Log :: L)) w) K ⟨car20, ccr21, l46, 0, H, j, hr, h⟩ ?_
    clear h hr a H; rintro k2 a w ⟨ca58, cc59, l60, g61, H, j, hr, h⟩
    cases k2 with
    | zero => exact absurd H (by simp [plunderlaw2_CellsPlay_l2])
    | succ k2 =>
      rw [plunderlaw2_CellsPlay_l2] at H
      refine wp_seq ?_
      refine wp_seq ?_
      refine wp_region_lit ?_
      refine ovs [87, 88] [.int .i64 g61, .bool (decide (g61 < (64 : Int)))] hr ⟨rfl, rfl⟩ (by kernel_rfl) ?_; clear hr a; intro a hr
      refine wpList_nil ?_
      refine then_normal ?_
      by_cases c63 : g61 < (64 : Int)
      ·
        replace H := ifT c63 H
        refine cond_tt hr (b := (decide (g61 < (64 : Int)))) (decide_eq_true c63) ?_
        refine wp_skip ?_
        refine then_normal ?_
        refine wp_seq ?_
        refine wp_block ?_
        refine wp_region_lit ?_
        refine ov hr (.pointer (some ⟨b24, 0, none⟩)) (by kernel_rfl) ?_; clear hr a; intro a hr
        refine op_val (wn rfl) rfl rfl hr (v := .slice ca58 l60.length cc59) (rl rfl (by kernel_rfl) (by kernel_rfl) ((h.pick 6).cell 0 rfl)) ?_; clear hr a; intro a hr
        refine ov hr (.agg #[.int .i64 (-6), .bool false, .int .i64 0]) (by kernel_rfl) ?_; clear hr a; intro a hr
        refine op_new (wn rfl) rfl rfl hr h (vf := fun b => .slice (some ⟨b, 0, none⟩) 1 1) (cs := #[.int .i64 (-6), .bool false, .int .i64 0]) (T := 39) (by kernel_rfl) ?_; clear h hr a; intro b64 w a h hr
        replace h : Fit z (sepL (ro39 ca58 cc59 l60 :: pts b64 (.cells #[.int .i64 (-6), .bool false, .int .i64 0] 39) :: ob70 b10 r1 car4 ccr5 car6 ccr7 car8 ccr9 :: ro39 car4 ccr5 r1.Effects :: ro2 car6 ccr7 r1.Cells :: ro90 car8 ccr9 r1.Log :: ro57 car13 ccr14 r11 :: pts b15 (.cells #[.slice none 0 0, .slice none 0 0, .int .i64 0] 78) :: pts b24 (.cells #[.slice ca58 l60.length cc59, .slice car22 r17.Cells.length r17.Cells.length, .slice car23 r17.Log.length r17.Log.length] 70) :: ro2 car22 r17.Cells.length r17.Cells :: ro90 car23 r17.Log.length r17.Log :: ob70 b32 r25 car28 ccr29 car30 r25.Cells.length car31 r25.Log.length :: ro39 car28 ccr29 r25.Effects :: ro2 car30 r25.Cells.length r25.Cells :: ro90 car31 r25.Log.length r25.Log :: L)) _ := h.sel 15 [8, 0, 1, 2, 3, 4, 5, 6, 7, 9, 10, 11, 12, 13, 14] (by kernel_rfl) (by kernel_rfl)
        replace H := gd H; obtain ⟨c67, H⟩ := H
        refine op_append (n0 := l60.length) (c := 1) (bytes := 24) (wn rfl) rfl rfl hr rfl (by kernel_rfl) (by kernel_rfl) enc_T_api_Effect_ok (E := 39) (xs := l60) (by kernel_rfl) (by kernel_rfl) h (news := [(⟨-6, false, 0⟩ : T_api_Effect)]) (m := 1) rfl ((h.pick 1).news rfl) c67 rfl ?_; clear h hr a; intro ca65 cc66 w a h hr
        refine ov hr (.pointer (some ⟨b24, 0, none⟩)) (by kernel_rfl) ?_; clear hr a; intro a hr
        replace h : Fit z (sepL (pts b24 (.cells #[.slice ca58 l60.length cc59, .slice car22 r17.Cells.length r17.Cells.length, .slice car23 r17.Log.length r17.Log.length] 70) :: ro39 ca65 cc66 (l60 ++ [(⟨-6, false, 0⟩ : T_api_Effect)]) :: pts b64 (.cells #[.int .i64 (-6), .bool false, .int .i64 0] 39) :: ob70 b10 r1 car4 ccr5 car6 ccr7 car8 ccr9 :: ro39 car4 ccr5 r1.Effects :: ro2 car6 ccr7 r1.Cells :: ro90 car8 ccr9 r1.Log :: ro57 car13 ccr14 r11 :: pts b15 (.cells #[.slice none 0 0, .slice none 0 0, .int .i64 0] 78) :: ro2 car22 r17.Cells.length r17.Cells :: ro90 car23 r17.Log.length r17.Log :: ob70 b32 r25 car28 ccr29 car30 r25.Cells.length car31 r25.Log.length :: ro39 car28 ccr29 r25.Effects :: ro2 car30 r25.Cells.length r25.Cells :: ro90 car31 r25.Log.length r25.Log :: L)) _ := h.sel 15 [8, 0, 1, 2, 3, 4, 5, 6, 7, 9, 10, 11, 12, 13, 14] (by kernel_rfl) (by kernel_rfl)
        refine op_store (wn rfl) rfl hr rfl (by kernel_rfl) (by kernel_rfl) (v := .slice ca65 ((l60 ++ [(⟨-6, false, 0⟩ : T_api_Effect)]).length) cc66) rfl rfl (by kernel_rfl) h (i := 0) rfl ?_; clear h; intro w h
        refine wpList_nil ?_
        replace h : Fit z (sepL (pts b24 (.cells #[.slice ca65 ((l60 ++ [(⟨-6, false, 0⟩ : T_api_Effect)]).length) cc66, .slice car22 r17.Cells.length r17.Cells.length, .slice car23 r17.Log.length r17.Log.length] 70) :: ro39 ca65 cc66 (l60 ++ [(⟨-6, false, 0⟩ : T_api_Effect)]) :: pts b64 (.cells #[.int .i64 (-6), .bool false, .int .i64 0] 39) :: ob70 b10 r1 car4 ccr5 car6 ccr7 car8 ccr9 :: ro39 car4 ccr5 r1.Effects :: ro2 car6 ccr7 r1.Cells :: ro90 car8 ccr9 r1.Log :: ro57 car13 ccr14 r11 :: pts b15 (.cells #[.slice none 0 0, .slice none 0 0, .int .i64 0] 78) :: ro2 car22 r17.Cells.length r17.Cells :: ro90 car23 r17.Log.length r17.Log :: ob70 b32 r25 car28 ccr29 car30 r25.Cells.length car31 r25.Log.length :: ro39 car28 ccr29 r25.Effects :: ro2 car30 r25.Cells.length r25.Cells :: ro90 car31 r25.Log.length r25.Log :: L)) _ := h
        refine blk_normal ?_
        refine then_normal ?_
        refine wp_region_lit ?_
        refine ovs [89, 90, 14] [.int .i64 g61, .int .i64 (wi (g61 + (1 : Int))), .int .i64 (wi (g61 + (1 : Int)))] hr ⟨rfl, rfl⟩ (by kernel_rfl) ?_; clear hr a; intro a hr
        refine wpList_nil ?_
        refine then_normal ?_
        replace hr := hr.fold2 [(0, .int .i64 p0), (1, .slice va1 p1.length vc1), (5, .pointer (some ⟨b10, 0, none⟩)), (7, .slice car13 r11.length ccr14), (8, .pointer (some ⟨b15, 0, none⟩)), (9, .pointer (some ⟨b24, 0, none⟩)), (11, .pointer (some ⟨b32, 0, none⟩)), (14, .int .i64 (wi (g61 + (1 : Int))))] (by kernel_rfl); obtain ⟨j, hr⟩ := hr
        replace h : Fit z (sepL (ob70 b10 r1 car4 ccr5 car6 ccr7 car8 ccr9 :: ro39 car4 ccr5 r1.Effects :: ro2 car6 ccr7 r1.Cells :: ro90 car8 ccr9 r1.Log :: ro57 car13 ccr14 r11 :: pts b15 (.cells #[.slice none 0 0, .slice none 0 0, .int .i64 0] 78) :: pts b24 (.cells #[.slice ca65 ((l60 ++ [(⟨-6, false, 0⟩ : T_api_Effect)]).length) cc66, .slice car22 r17.Cells.length r17.Cells.length, .slice car23 r17.Log.length r17.Log.length] 70) :: ro39 ca65 cc66 (l60 ++ [(⟨-6, false, 0⟩ : T_api_Effect)]) :: ro2 car22 r17.Cells.length r17.Cells :: ro90 car23 r17.Log.length r17.Log :: ob70 b32 r25 car28 ccr29 car30 r25.Cells.length car31 r25.Log.length :: ro39 car28 ccr29 r25.Effects :: ro2 car30 r25.Cells.length r25.Cells :: ro90 car31 r25.Log.length r25.Log :: L)) _ := h.sel 15 [3, 4, 5, 6, 7, 8, 0, 1, 9, 10, 11, 12, 13, 14] (by kernel_rfl) (by kernel_rfl)
        exact ⟨_, ⟨ca65, cc66, (l60 ++ [(⟨-6, false, 0⟩ : T_api_Effect)]), (wi (g61 + (1 : Int))), H, j, hr, h⟩, Nat.lt_succ_self _⟩
      ·
        replace H := ifF c63 H
        refine cond_ff hr (b := (decide (g61 < (64 : Int)))) (decide_eq_false c63) ?_
        refine wp_exit ?_
        refine then_exit ?_
        refine then_exit ?_
        refine blk_here ?_
        refine then_normal ?_
        replace hr := hr.fold2 [(0, .int .i64 p0), (1, .slice va1 p1.length vc1), (5, .pointer (some ⟨b10, 0, none⟩)), (7, .slice car13 r11.length ccr14), (8, .pointer (some ⟨b15, 0, none⟩)), (9, .pointer (some ⟨b24, 0, none⟩)), (11, .pointer (some ⟨b32, 0, none⟩))] (by kernel_rfl); obtain ⟨j, hr⟩ := hr
        exact ⟨(), ca58, cc59, l60, sinj H, j, hr, h⟩
  clear h hr a; rintro _ a w ⟨ca53, cc54, l55, rfl, j, hr, h⟩
  replace H := kk1 hK56
  refine wp_seq ?_
  refine wp_region_lit ?_
  refine ovs [97, 98] [.pointer (some ⟨b15, 0, none⟩), .pointer (some ⟨b24, 1, none⟩)] hr ⟨rfl, rfl⟩ (by kernel_rfl) ?_; clear hr a; intro a hr
  refine op_val (wn rfl) rfl rfl hr (v := .slice car22 r17.Cells.length r17.Cells.length) (rl rfl (by kernel_rfl) (by kernel_rfl) ((h.pick 6).cell 1 rfl)) ?_; clear hr a; intro a hr
  replace h : Fit z (sepL (rowN 139 5 own_T_plunderlaw2_kept (.slice none 0 0) ([] : List T_plunderlaw2_kept) :: ob70 b10 r1 car4 ccr5 car6 ccr7 car8 ccr9 :: ro39 car4 ccr5 r1.Effects :: ro2 car6 ccr7 r1.Cells :: ro90 car8 ccr9 r1.Log :: ro57 car13 ccr14 r11 :: pts b15 (.cells #[.slice none 0 0, .slice none 0 0, .int .i64 0] 78) :: pts b24 (.cells #[.slice ca53 l55.length cc54, .slice car22 r17.Cells.length r17.Cells.length, .slice car23 r17.Log.length r17.Log.length] 70) :: ro39 ca53 cc54 l55 :: ro2 car22 r17.Cells.length r17.Cells :: ro90 car23 r17.Log.length r17.Log :: ob70 b32 r25 car28 ccr29 car30 r25.Cells.length car31 r25.Log.length :: ro39 car28 ccr29 r25.Effects :: ro2 car30 r25.Cells.length r25.Cells :: ro90 car31 r25.Log.length r25.Log :: L)) _ := h.rowN_nil
  replace h : Fit z (sepL (rowN 142 5 own_T_plunderlaw2_noted (.slice none 0 0) ([] : List T_plunderlaw2_noted) :: rowN 139 5 own_T_plunderlaw2_kept (.slice none 0 0) ([] : List T_plunderlaw2_kept) :: ob70 b10 r1 car4 ccr5 car6 ccr7 car8 ccr9 :: ro39 car4 ccr5 r1.Effects :: ro2 car6 ccr7 r1.Cells :: ro90 car8 ccr9 r1.Log :: ro57 car13 ccr14 r11 :: pts b15 (.cells #[.slice none 0 0, .slice none 0 0, .int .i64 0] 78) :: pts b24 (.cells #[.slice ca53 l55.length cc54, .slice car22 r17.Cells.length r17.Cells.length, .slice car23 r17.Log.length r17.Log.length] 70) :: ro39 ca53 cc54 l55 :: ro2 car22 r17.Cells.length r17.Cells :: ro90 car23 r17.Log.length r17.Log :: ob70 b32 r25 car28 ccr29 car30 r25.Cells.length car31 r25.Log.length :: ro39 car28 ccr29 r25.Effects :: ro2 car30 r25.Cells.length r25.Cells :: ro90 car31 r25.Log.length r25.Log :: L)) _ := h.rowN_nil
  replace H := bd1 H; obtain ⟨S68, e69, H⟩ := H
  replace h : Fit z (sepL (pts b15 (.cells #[.slice none 0 0, .slice none 0 0, .int .i64 0] 78) :: rowN 139 5 own_T_plunderlaw2_kept (.slice none 0 0) ([] : List T_plunderlaw2_kept) :: rowN 142 5 own_T_plunderlaw2_noted (.slice none 0 0) ([] : List T_plunderlaw2_noted) :: ro2 car22 r17.Cells.length r17.Cells :: ob70 b10 r1 car4 ccr5 car6 ccr7 car8 ccr9 :: ro39 car4 ccr5 r1.Effects :: ro2 car6 ccr7 r1.Cells :: ro90 car8 ccr9 r1.Log :: ro57 car13 ccr14 r11 :: pts b24 (.cells #[.slice ca53 l55.length cc54, .slice car22 r17.Cells.length r17.Cells.length, .slice car23 r17.Log.length r17.Log.length] 70) :: ro39 ca53 cc54 l55 :: ro90 car23 r17.Log.length r17.Log :: ob70 b32 r25 car28 ccr29 car30 r25.Cells.length car31 r25.Log.length :: ro39 car28 ccr29 r25.Effects :: ro2 car30 r25.Cells.length r25.Cells :: ro90 car31 r25.Log.length r25.Log :: L)) _ := h.sel 16 [7, 1, 0, 10, 2, 3, 4, 5, 6, 8, 9, 11, 12, 13, 14, 15] (by kernel_rfl) (by kernel_rfl)
  have hc := plunderlaw2_book_numbers_ok (H := e69) (h := h)
  refine op_call (wn rfl) rfl rfl hr (f := 42) (args := #[.pointer (some ⟨b15, 0, none⟩), .slice car22 r17.Cells.length r17.Cells.length]) (by kernel_rfl) hc ?_; clear hc h
  rintro _ w ⟨caq70, ccq71, caq72, ccq73, rfl, h⟩; refine ⟨_, rfl, ?_⟩
  clear hr a; intro a hr
  refine wpList_nil ?_
  refine then_normal ?_
  refine wp_seq ?_
  refine wp_region_lit ?_
  refine ovs [101, 102] [.pointer (some ⟨b15, 0, none⟩), .pointer (some ⟨b24, 2, none⟩)] hr ⟨rfl, rfl⟩ (by kernel_rfl) ?_; clear hr a; intro a hr
  refine op_val (wn rfl) rfl rfl hr (v := .slice car23 r17.Log.length r17.Log.length) (rl rfl (by kernel_rfl) (by kernel_rfl) ((h.pick 8).cell 2 rfl)) ?_; clear hr a; intro a hr
  replace H := bd1 H; obtain ⟨S74, e75, H⟩ := H
  replace h : Fit z (sepL (ob78 b15 S68 caq70 ccq71 caq72 ccq73 :: rn139 caq70 ccq71 S68.numberLists :: rn142 caq72 ccq73 S68.accessLists :: ro90 car23 r17.Log.length r17.Log :: ob70 b10 r1 car4 ccr5 car6 ccr7 car8 ccr9 :: ro39 car4 ccr5 r1.Effects :: ro2 car6 ccr7 r1.Cells :: ro90 car8 ccr9 r1.Log :: ro57 car13 ccr14 r11 :: pts b24 (.cells #[.slice ca53 l55.length cc54, .slice car22 r17.Cells.length r17.Cells.length, .slice car23 r17.Log.length r17.Log.length] 70) :: ro39 ca53 cc54 l55 :: ob70 b32 r25 car28 ccr29 car30 r25.Cells.length car31 r25.Log.length :: ro39 car28 ccr29 r25.Effects :: ro2 car30 r25.Cells.length r25.Cells :: ro90 car31 r25.Log.length r25.Log :: L)) _ := h.sel 15 [0, 1, 2, 10, 3, 4, 5, 6, 7, 8, 9, 11, 12, 13, 14] (by kernel_rfl) (by kernel_rfl)
  have hc := plunderlaw2_book_accesses_ok (H := e75) (h := h)
  refine op_call (wn rfl) rfl rfl hr (f := 43) (args := #[.pointer (some ⟨b15, 0, none⟩), .slice car23 r17.Log.length r17.Log.length]) (by kernel_rfl) hc ?_; clear hc h
  rintro _ w ⟨caq76, ccq77, caq78, ccq79, rfl, h⟩; refine ⟨_, rfl, ?_⟩
  clear hr a; intro a hr
  refine wpList_nil ?_
  refine then_normal ?_
  replace H := jd0 H; obtain ⟨o81, H, hK80⟩ := H
  refine cut_rule (β := Unit) (fun _ a w => .inl () = o81 ∧ ∃ j, Rep 147 (lk [(0, .int .i64 p0), (1, .slice va1 p1.length vc1), (7, .slice car13 r11.length ccr14), (8, .pointer (some ⟨b15, 0, none⟩)), (11, .pointer (some ⟨b32, 0, none⟩))] j) a ∧ Fit z (sepL (ro57 car13 ccr14 r11 :: ob78 b15 S74 caq76 ccq77 caq78 ccq79 :: rn139 caq76 ccq77 S74.numberLists :: rn142 caq78 ccq79 S74.accessLists :: ob70 b32 r25 car28 ccr29 car30 r25.Cells.length car31 r25.Log.length :: ro39 car28 ccr29 r25.Effects :: ro2 car30 r25.Cells.length r25.Cells :: ro90 car31 r25.Log.length r25.Log :: L)) w) ?_ ?_
  ·
    refine wp_seq ?_
    refine wp_region_lit ?_
    refine ov hr (.pointer (some ⟨b32, 0, none⟩)) (by kernel_rfl) ?_; clear hr a; intro a hr
    refine op_val (wn rfl) rfl rfl hr (v := .slice car28 r25.Effects.length ccr29) (rl rfl (by kernel_rfl) (by kernel_rfl) ((h.pick 10).cell 0 rfl)) ?_; clear hr a; intro a hr
    refine ov hr (.pointer (some ⟨b10, 0, none⟩)) (by kernel_rfl) ?_; clear hr a; intro a hr
    refine op_val (wn rfl) rfl rfl hr (v := .slice car4 r1.Effects.length ccr5) (rl rfl (by kernel_rfl) (by kernel_rfl) ((h.pick 3).cell 0 rfl)) ?_; clear hr a; intro a hr
    replace H := bd1 H; obtain ⟨r82, e83, H⟩ := H
    have hc := plunderlaw2_sameEffects_ok (va0 := car28) (vc0 := ccr29) (va1 := car4) (vc1 := ccr5) (hv0 := (RdRow.of_row enc_T_api_Effect_ok (h.pick 11) (fun h => (h.pick 11)))) (hv1 := (RdRow.of_row enc_T_api_Effect_ok (h.pick 4) (fun h => (h.pick 4)))) (H := e83) (h := h)
    refine op_call (wn rfl) rfl rfl hr (f := 39) (args := #[.slice car28 r25.Effects.length ccr29, .slice car4 r1.Effects.length ccr5]) (by kernel_rfl) hc ?_; clear hc h
    rintro _ w ⟨rfl, h⟩; refine ⟨_, rfl, ?_⟩
    clear hr a; intro a hr
    refine ovs [110, 111] [.bool (!r82), .bool (!r82)] hr ⟨rfl, rfl⟩ (by kernel_rfl) ?_; clear hr a; intro a hr
    by_cases c84 : r82 = true
    ·
      replace H := ifT c84 H
      refine op_val ((wg hr rfl rfl rfl (b' := (!r82)) (by kernel_rfl)).trans (by rw [show (!r82) = false from (by rw [show r82 = true from (c84)]; rfl)]; rfl)) rfl rfl hr (v := .pointer (some ⟨b32, 1, none⟩)) (by kernel_rfl) ?_; clear hr a; intro a hr
      refine op_val ((wg hr rfl rfl rfl (b' := (!r82)) (by kernel_rfl)).trans (by rw [show (!r82) = false from (by rw [show r82 = true from (c84)]; rfl)]; rfl)) rfl rfl hr (v := .slice car30 r25.Cells.length r25.Cells.length) (rl rfl (by kernel_rfl) (by kernel_rfl) ((h.pick 10).cell 1 rfl)) ?_; clear hr a; intro a hr
      refine op_val ((wg hr rfl rfl rfl (b' := (!r82)) (by kernel_rfl)).trans (by rw [show (!r82) = false from (by rw [show r82 = true from (c84)]; rfl)]; rfl)) rfl rfl hr (v := .pointer (some ⟨b10, 1, none⟩)) (by kernel_rfl) ?_; clear hr a; intro a hr
      refine op_val ((wg hr rfl rfl rfl (b' := (!r82)) (by kernel_rfl)).trans (by rw [show (!r82) = false from (by rw [show r82 = true from (c84)]; rfl)]; rfl)) rfl rfl hr (v := .slice car6 r1.Cells.length ccr7) (rl rfl (by kernel_rfl) (by kernel_rfl) ((h.pick 3).cell 1 rfl)) ?_; clear hr a; intro a hr
      replace H := bd1 H; obtain ⟨r85, e86, H⟩ := H
      have hc := plunderlaw2_sameNumbers_ok (va0 := car30) (vc0 := r25.Cells.length) (va1 := car6) (vc1 := ccr7) (hv0 := (RdRow.of_row encZ_i64_ok (h.pick 12) (fun h => (h.pick 12)))) (hv1 := (RdRow.of_row encZ_i64_ok (h.pick 5) (fun h => (h.pick 5)))) (H := e86) (h := h)
      refine op_call ((wg hr rfl rfl rfl (b' := (!r82)) (by kernel_rfl)).trans (by rw [show (!r82) = false from (by rw [show r82 = true from (c84)]; rfl)]; rfl)) rfl rfl hr (f := 40) (args := #[.slice car30 r25.Cells.length r25.Cells.length, .slice car6 r1.Cells.length ccr7]) (by kernel_rfl) hc ?_; clear hc h
      rintro _ w ⟨rfl, h⟩; refine ⟨_, rfl, ?_⟩
      clear hr a; intro a hr
      refine op_val ((wg hr rfl rfl rfl (b' := (!r82)) (by kernel_rfl)).trans (by rw [show (!r82) = false from (by rw [show r82 = true from (c84)]; rfl)]; rfl)) rfl rfl hr (v := .bool (!r85)) (by kernel_rfl) ?_; clear hr a; intro a hr
      refine op_val (wn rfl) rfl rfl hr (v := .bool (!r85)) (rp_f (b := (!r82)) rfl (by kernel_rfl) (by rw [show r82 = true from (c84)]; rfl) (by kernel_rfl)) ?_; clear hr a; intro a hr
      refine ov hr (.bool (!r85)) (by kernel_rfl) ?_; clear hr a; intro a hr
      by_cases c87 : r85 = true
      ·
        replace H := ifT c87 H
        refine op_val ((wg hr rfl rfl rfl (b' := (!r85)) (by kernel_rfl)).trans (by rw [show (!r85) = false from (by rw [show r85 = true from (c87)]; rfl)]; rfl)) rfl rfl hr (v := .pointer (some ⟨b32, 2, none⟩)) (by kernel_rfl) ?_; clear hr a; intro a hr
        refine op_val ((wg hr rfl rfl rfl (b' := (!r85)) (by kernel_rfl)).trans (by rw [show (!r85) = false from (by rw [show r85 = true from (c87)]; rfl)]; rfl)) rfl rfl hr (v := .slice car31 r25.Log.length r25.Log.length) (rl rfl (by kernel_rfl) (by kernel_rfl) ((h.pick 10).cell 2 rfl)) ?_; clear hr a; intro a hr
        refine op_val ((wg hr rfl rfl rfl (b' := (!r85)) (by kernel_rfl)).trans (by rw [show (!r85) = false from (by rw [show r85 = true from (c87)]; rfl)]; rfl)) rfl rfl hr (v := .pointer (some ⟨b10, 2, none⟩)) (by kernel_rfl) ?_; clear hr a; intro a hr
        refine op_val ((wg hr rfl rfl rfl (b' := (!r85)) (by kernel_rfl)).trans (by rw [show (!r85) = false from (by rw [show r85 = true from (c87)]; rfl)]; rfl)) rfl rfl hr (v := .slice car8 r1.Log.length ccr9) (rl rfl (by kernel_rfl) (by kernel_rfl) ((h.pick 3).cell 2 rfl)) ?_; clear hr a; intro a hr
        replace H := bd1 H; obtain ⟨r88, e89, H⟩ := H
        have hc := plunderlaw2_sameLog_ok (va0 := car31) (vc0 := r25.Log.length) (va1 := car8) (vc1 := ccr9) (hv0 := (RdRow.of_row enc_T_api_Access_ok (h.pick 13) (fun h => (h.pick 13)))) (hv1 := (RdRow.of_row enc_T_api_Access_ok (h.pick 6) (fun h => (h.pick 6)))) (H := e89) (h := h)
        refine op_call ((wg hr rfl rfl rfl (b' := (!r85)) (by kernel_rfl)).trans (by rw [show (!r85) = false from (by rw [show r85 = true from (c87)]; rfl)]; rfl)) rfl rfl hr (f := 41) (args := #[.slice car31 r25.Log.length r25.Log.length, .slice car8 r1.Log.length ccr9]) (by kernel_rfl) hc ?_; clear hc h
        rintro _ w ⟨rfl, h⟩; refine ⟨_, rfl, ?_⟩
        clear hr a; intro a hr
        refine op_val ((wg hr rfl rfl rfl (b' := (!r85)) (by kernel_rfl)).trans (by rw [show (!r85) = false from (by rw [show r85 = true from (c87)]; rfl)]; rfl)) rfl rfl hr (v := .bool (!r88)) (by kernel_rfl) ?_; clear hr a; intro a hr
        refine op_val (wn rfl) rfl rfl hr (v := .bool (!r88)) (rp_f (b := (!r85)) rfl (by kernel_rfl) (by rw [show r85 = true from (c87)]; rfl) (by kernel_rfl)) ?_; clear hr a; intro a hr
        refine wpList_nil ?_
        refine then_normal ?_
        by_cases c90 : r88 = true
        ·
          replace H := ifT c90 H
          refine cond_ff hr (b := (!r88)) (by rw [show r88 = true from (c90)]; rfl) ?_
          refine wp_skip ?_
          refine then_normal ?_
          replace hr := hr.fold2 [(0, .int .i64 p0), (1, .slice va1 p1.length vc1), (7, .slice car13 r11.length ccr14), (8, .pointer (some ⟨b15, 0, none⟩)), (11, .pointer (some ⟨b32, 0, none⟩))] (by kernel_rfl); obtain ⟨j, hr⟩ := hr
          replace h : Fit z (sepL (ro57 car13 ccr14 r11 :: ob78 b15 S74 caq76 ccq77 caq78 ccq79 :: rn139 caq76 ccq77 S74.numberLists :: rn142 caq78 ccq79 S74.accessLists :: ob70 b32 r25 car28 ccr29 car30 r25.Cells.length car31 r25.Log.length :: ro39 car28 ccr29 r25.Effects :: ro2 car30 r25.Cells.length r25.Cells :: ro90 car31 r25.Log.length r25.Log :: L)) _ := h.sel 14 [7, 0, 1, 2, 10, 11, 12, 13] (by kernel_rfl) (by kernel_rfl)
          exact ⟨(), sinj H, j, hr, h⟩
        ·
          replace H := ifF c90 H
          refine cond_tt hr (b := (!r88)) (by rw [show r88 = false from (bF c90)]; rfl) ?_
          refine wp_seq ?_
          refine wp_region_lit ?_
          refine ov hr (.bool false) (by kernel_rfl) ?_; clear hr a; intro a hr
          refine wpList_nil ?_
          refine then_normal ?_
          refine wp_ret ?_
          refine then_ret ?_
          refine end_ret1 (v := .bool false) rfl hr (by kernel_rfl) ?_
          replace H := jx0 H hK80
          replace h : Fit z (sepL (L)) _ := h.sel 14 [] (by kernel_rfl) (by kernel_rfl)
          replace H := ej1 H; subst H
          exact ⟨rfl, h⟩
      ·
        replace H := ifF c87 H
        refine op_off ((wg hr rfl rfl rfl (b' := (!r85)) (by kernel_rfl)).trans (by rw [show (!r85) = true from (by rw [show r85 = false from (bF c87)]; rfl)]; rfl)) rfl rfl hr ?_; clear hr a; intro a hr
        refine op_off ((wg hr rfl rfl rfl (b' := (!r85)) (by kernel_rfl)).trans (by rw [show (!r85) = true from (by rw [show r85 = false from (bF c87)]; rfl)]; rfl)) rfl rfl hr ?_; clear hr a; intro a hr
        refine op_off ((wg hr rfl rfl rfl (b' := (!r85)) (by kernel_rfl)).trans (by rw [show (!r85) = true from (by rw [show r85 = false from (bF c87)]; rfl)]; rfl)) rfl rfl hr ?_; clear hr a; intro a hr
        refine op_off ((wg hr rfl rfl rfl (b' := (!r85)) (by kernel_rfl)).trans (by rw [show (!r85) = true from (by rw [show r85 = false from (bF c87)]; rfl)]; rfl)) rfl rfl hr ?_; clear hr a; intro a hr
        refine op_off ((wg hr rfl rfl rfl (b' := (!r85)) (by kernel_rfl)).trans (by rw [show (!r85) = true from (by rw [show r85 = false from (bF c87)]; rfl)]; rfl)) rfl rfl hr ?_; clear hr a; intro a hr
        refine op_off ((wg hr rfl rfl rfl (b' := (!r85)) (by kernel_rfl)).trans (by rw [show (!r85) = true from (by rw [show r85 = false from (bF c87)]; rfl)]; rfl)) rfl rfl hr ?_; clear hr a; intro a hr
        refine op_val (wn rfl) rfl rfl hr (v := .bool true) (rp_t (b := (!r85)) rfl (by kernel_rfl) (by rw [show r85 = false from (bF c87)]; rfl) (by kernel_rfl)) ?_; clear hr a; intro a hr
        refine wpList_nil ?_
        refine then_normal ?_
        refine cond_tt hr (b := true) rfl ?_
        refine wp_seq ?_
        refine wp_region_lit ?_
        refine ov hr (.bool false) (by kernel_rfl) ?_; clear hr a; intro a hr
        refine wpList_nil ?_
        refine then_normal ?_
        refine wp_ret ?_
        refine then_ret ?_
        refine end_ret1 (v := .bool false) rfl hr (by kernel_rfl) ?_
        replace H := jx0 H hK80
        replace h : Fit z (sepL (L)) _ := h.sel 14 [] (by kernel_rfl) (by kernel_rfl)
        replace H := ej1 H; subst H
        exact ⟨rfl, h⟩
    ·
      replace H := ifF c84 H
      refine op_off ((wg hr rfl rfl rfl (b' := (!r82)) (by kernel_rfl)).trans (by rw [show (!r82) = true from (by rw [show r82 = false from (bF c84)]; rfl)]; rfl)) rfl rfl hr ?_; clear hr a; intro a hr
      refine op_off ((wg hr rfl rfl rfl (b' := (!r82)) (by kernel_rfl)).trans (by rw [show (!r82) = true from (by rw [show r82 = false from (bF c84)]; rfl)]; rfl)) rfl rfl hr ?_; clear hr a; intro a hr
      refine op_off ((wg hr rfl rfl rfl (b' := (!r82)) (by kernel_rfl)).trans (by rw [show (!r82) = true from (by rw [show r82 = false from (bF c84)]; rfl)]; rfl)) rfl rfl hr ?_; clear hr a; intro a hr
      refine op_off ((wg hr rfl rfl rfl (b' := (!r82)) (by kernel_rfl)).trans (by rw [show (!r82) = true from (by rw [show r82 = false from (bF c84)]; rfl)]; rfl)) rfl rfl hr ?_; clear hr a; intro a hr
      refine op_off ((wg hr rfl rfl rfl (b' := (!r82)) (by kernel_rfl)).trans (by rw [show (!r82) = true from (by rw [show r82 = false from (bF c84)]; rfl)]; rfl)) rfl rfl hr ?_; clear hr a; intro a hr
      refine op_off ((wg hr rfl rfl rfl (b' := (!r82)) (by kernel_rfl)).trans (by rw [show (!r82) = true from (by rw [show r82 = false from (bF c84)]; rfl)]; rfl)) rfl rfl hr ?_; clear hr a; intro a hr
      refine op_val (wn rfl) rfl rfl hr (v := .bool true) (rp_t (b := (!r82)) rfl (by kernel_rfl) (by rw [show r82 = false from (bF c84)]; rfl) (by kernel_rfl)) ?_; clear hr a; intro a hr
      refine ov hr (.bool true) (by kernel_rfl) ?_; clear hr a; intro a hr
      refine op_off ((wg hr rfl rfl rfl (b' := true) (by kernel_rfl)).trans rfl) rfl rfl hr ?_; clear hr a; intro a hr
      refine op_off ((wg hr rfl rfl rfl (b' := true) (by kernel_rfl)).trans rfl) rfl rfl hr ?_; clear hr a; intro a hr
      refine op_off ((wg hr rfl rfl rfl (b' := true) (by kernel_rfl)).trans rfl) rfl rfl hr ?_; clear hr a; intro a hr
      refine op_off ((wg hr rfl rfl rfl (b' := true) (by kernel_rfl)).trans rfl) rfl rfl hr ?_; clear hr a; intro a hr
      refine op_off ((wg hr rfl rfl rfl (b' := true) (by kernel_rfl)).trans rfl) rfl rfl hr ?_; clear hr a; intro a hr
      refine op_off ((wg hr rfl rfl rfl (b' := true) (by kernel_rfl)).trans rfl) rfl rfl hr ?_; clear hr a; intro a hr
      refine ov hr (.bool true) (by kernel_rfl) ?_; clear hr a; intro a hr
      refine wpList_nil ?_
      refine then_normal ?_
      refine cond_tt hr (b := true) rfl ?_
      refine wp_seq ?_
      refine wp_region_lit ?_
      refine ov hr (.bool false) (by kernel_rfl) ?_; clear hr a; intro a hr
      refine wpList_nil ?_
      refine then_normal ?_
      refine wp_ret ?_
      refine then_ret ?_
      refine end_ret1 (v := .bool false) rfl hr (by kernel_rfl) ?_
      replace H := jx0 H hK80
      replace h : Fit z (sepL (L)) _ := h.sel 14 [] (by kernel_rfl) (by kernel_rfl)
      replace H := ej1 H; subst H
      exact ⟨rfl, h⟩
  clear h hr a; rintro _ a w ⟨rfl, j, hr, h⟩
  replace H := jk0 hK80
  refine wp_seq ?_
  refine wp_region_lit ?_
  refine ovs [127, 128] [.pointer (some ⟨b15, 0, none⟩), .pointer (some ⟨b32, 1, none⟩)] hr ⟨rfl, rfl⟩ (by kernel_rfl) ?_; clear hr a; intro a hr
  refine op_val (wn rfl) rfl rfl hr (v := .slice car30 r25.Cells.length r25.Cells.length) (rl rfl (by kernel_rfl) (by kernel_rfl) ((h.pick 4).cell 1 rfl)) ?_; clear hr a; intro a hr
  replace H := bd1 H; obtain ⟨S91, e92, H⟩ := H
  replace h : Fit z (sepL (ob78 b15 S74 caq76 ccq77 caq78 ccq79 :: rn139 caq76 ccq77 S74.numberLists :: rn142 caq78 ccq79 S74.accessLists :: ro2 car30 r25.Cells.length r25.Cells :: ro57 car13 ccr14 r11 :: ob70 b32 r25 car28 ccr29 car30 r25.Cells.length car31 r25.Log.length :: ro39 car28 ccr29 r25.Effects :: ro90 car31 r25.Log.length r25.Log :: L)) _ := h.sel 8 [1, 2, 3, 6, 0, 4, 5, 7] (by kernel_rfl) (by kernel_rfl)
  have hc := plunderlaw2_book_numbers_ok (H := e92) (h := h)
  refine op_call (wn rfl) rfl rfl hr (f := 42) (args := #[.pointer (some ⟨b15, 0, none⟩), .slice car30 r25.Cells.length r25.Cells.length]) (by kernel_rfl) hc ?_; clear hc h
  rintro _ w ⟨caq93, ccq94, caq95, ccq96, rfl, h⟩; refine ⟨_, rfl, ?_⟩
  clear hr a; intro a hr
  refine wpList_nil ?_
  refine then_normal ?_
  refine wp_seq ?_
  refine wp_region_lit ?_
  refine ovs [131, 132] [.pointer (some ⟨b15, 0, none⟩), .pointer (some ⟨b32, 2, none⟩)] hr ⟨rfl, rfl⟩ (by kernel_rfl) ?_; clear hr a; intro a hr
  refine op_val (wn rfl) rfl rfl hr (v := .slice car31 r25.Log.length r25.Log.length) (rl rfl (by kernel_rfl) (by kernel_rfl) ((h.pick 4).cell 2 rfl)) ?_; clear hr a; intro a hr
  replace H := bd1 H; obtain ⟨S97, e98, H⟩ := H
  replace h : Fit z (sepL (ob78 b15 S91 caq93 ccq94 caq95 ccq96 :: rn139 caq93 ccq94 S91.numberLists :: rn142 caq95 ccq96 S91.accessLists :: ro90 car31 r25.Log.length r25.Log :: ro57 car13 ccr14 r11 :: ob70 b32 r25 car28 ccr29 car30 r25.Cells.length car31 r25.Log.length :: ro39 car28 ccr29 r25.Effects :: L)) _ := h.sel 7 [0, 1, 2, 6, 3, 4, 5] (by kernel_rfl) (by kernel_rfl)
  have hc := plunderlaw2_book_accesses_ok (H := e98) (h := h)
  refine op_call (wn rfl) rfl rfl hr (f := 43) (args := #[.pointer (some ⟨b15, 0, none⟩), .slice car31 r25.Log.length r25.Log.length]) (by kernel_rfl) hc ?_; clear hc h
  rintro _ w ⟨caq99, ccq100, caq101, ccq102, rfl, h⟩; refine ⟨_, rfl, ?_⟩
  clear hr a; intro a hr
  refine wpList_nil ?_
  refine then_normal ?_
  refine wp_seq ?_
  refine wp_region_lit ?_
  replace H := bd1 H; obtain ⟨r103, e104, H⟩ := H
  refine ovs [135, 136] [.slice car13 r11.length ccr14, .slice va1 p1.length vc1] hr ⟨rfl, rfl⟩ (by kernel_rfl) ?_; clear hr a; intro a hr
  have hc := plunderlaw2_untouched_ok (va0 := car13) (vc0 := ccr14) (va1 := va1) (vc1 := vc1) (hv0 := (RdRow.of_row enc_T_api_Act_ok (h.pick 3) (fun h => (h.pick 3)))) (hv1 := (RdRow.up 6 hv1)) (H := e104) (h := h)
  refine op_call (wn rfl) rfl rfl hr (f := 44) (args := #[.slice car13 r11.length ccr14, .slice va1 p1.length vc1]) (by kernel_rfl) hc ?_; clear hc h
  rintro _ w ⟨rfl, h⟩; refine ⟨_, rfl, ?_⟩
  clear hr a; intro a hr
  refine ov hr (.bool r103) (by kernel_rfl) ?_; clear hr a; intro a hr
  by_cases c105 : r103 = true
  ·
    replace H := ifT c105 H
    refine op_val ((wg hr rfl rfl rfl (b' := r103) (by kernel_rfl)).trans (by rw [show r103 = true from (c105)]; rfl)) rfl rfl hr (v := .pointer (some ⟨b15, 0, none⟩)) (by kernel_rfl) ?_; clear hr a; intro a hr
    replace H := bd1 H; obtain ⟨r106, e107, H⟩ := H
    have hc := plunderlaw2_book_stands_ok (H := e107) (h := h)
    refine op_call ((wg hr rfl rfl rfl (b' := r103) (by kernel_rfl)).trans (by rw [show r103 = true from (c105)]; rfl)) rfl rfl hr (f := 45) (args := #[.pointer (some ⟨b15, 0, none⟩)]) (by kernel_rfl) hc ?_; clear hc h
    rintro _ w ⟨rfl, h⟩; refine ⟨_, rfl, ?_⟩
    clear hr a; intro a hr
    refine op_val (wn rfl) rfl rfl hr (v := .bool r106) (rp_t (b := r103) rfl (by kernel_rfl) (c105) (by kernel_rfl)) ?_; clear hr a; intro a hr
    refine ov hr (.bool r106) (by kernel_rfl) ?_; clear hr a; intro a hr
    by_cases c108 : r106 = true
    ·
      replace H := ifT c108 H
      refine op_val ((wg hr rfl rfl rfl (b' := r106) (by kernel_rfl)).trans (by rw [show r106 = true from (c108)]; rfl)) rfl rfl hr (v := .int .i64 p0) (by kernel_rfl) ?_; clear hr a; intro a hr
      refine op_val ((wg hr rfl rfl rfl (b' := r106) (by kernel_rfl)).trans (by rw [show r106 = true from (c108)]; rfl)) rfl rfl hr (v := .slice va1 p1.length vc1) (by kernel_rfl) ?_; clear hr a; intro a hr
      replace H := bd1 H; obtain ⟨r109, e110, H⟩ := H
      have hc := plunderlaw2_playPlaced_ok (va1 := va1) (vc1 := vc1) (hv1 := (RdRow.up 6 hv1)) (H := e110) (h := h)
      refine op_call ((wg hr rfl rfl rfl (b' := r106) (by kernel_rfl)).trans (by rw [show r106 = true from (c108)]; rfl)) rfl rfl hr (f := 46) (args := #[.int .i64 p0, .slice va1 p1.length vc1]) (by kernel_rfl) hc ?_; clear hc h
      rintro _ w ⟨rfl, h⟩; refine ⟨_, rfl, ?_⟩
      clear hr a; intro a hr
      refine op_val (wn rfl) rfl rfl hr (v := .bool r109) (rp_t (b := r106) rfl (by kernel_rfl) (c108) (by kernel_rfl)) ?_; clear hr a; intro a hr
      refine ov hr (.bool r109) (by kernel_rfl) ?_; clear hr a; intro a hr
      refine wpList_nil ?_
      refine then_normal ?_
      refine wp_ret ?_
      refine end_ret1 (v := .bool r109) rfl hr (by kernel_rfl) ?_
      replace h : Fit z (sepL (L)) _ := h.sel 6 [] (by kernel_rfl) (by kernel_rfl)
      replace H := ej1 H; subst H
      exact ⟨rfl, h⟩
    ·
      replace H := ifF c108 H
      refine op_off ((wg hr rfl rfl rfl (b' := r106) (by kernel_rfl)).trans (by rw [show r106 = false from (bF c108)]; rfl)) rfl rfl hr ?_; clear hr a; intro a hr
      refine op_off ((wg hr rfl rfl rfl (b' := r106) (by kernel_rfl)).trans (by rw [show r106 = false from (bF c108)]; rfl)) rfl rfl hr ?_; clear hr a; intro a hr
      refine op_off ((wg hr rfl rfl rfl (b' := r106) (by kernel_rfl)).trans (by rw [show r106 = false from (bF c108)]; rfl)) rfl rfl hr ?_; clear hr a; intro a hr
      refine op_val (wn rfl) rfl rfl hr (v := .bool false) (rp_f (b := r106) rfl (by kernel_rfl) (bF c108) (by kernel_rfl)) ?_; clear hr a; intro a hr
      refine ov hr (.bool false) (by kernel_rfl) ?_; clear hr a; intro a hr
      refine wpList_nil ?_
      refine then_normal ?_
      refine wp_ret ?_
      refine end_ret1 (v := .bool false) rfl hr (by kernel_rfl) ?_
      replace h : Fit z (sepL (L)) _ := h.sel 6 [] (by kernel_rfl) (by kernel_rfl)
      replace H := ej1 H; subst H
      exact ⟨rfl, h⟩
  ·
    replace H := ifF c105 H
    refine op_off ((wg hr rfl rfl rfl (b' := r103) (by kernel_rfl)).trans (by rw [show r103 = false from (bF c105)]; rfl)) rfl rfl hr ?_; clear hr a; intro a hr
    refine op_off ((wg hr rfl rfl rfl (b' := r103) (by kernel_rfl)).trans (by rw [show r103 = false from (bF c105)]; rfl)) rfl rfl hr ?_; clear hr a; intro a hr
    refine op_val (wn rfl) rfl rfl hr (v := .bool false) (rp_f (b := r103) rfl (by kernel_rfl) (bF c105) (by kernel_rfl)) ?_; clear hr a; intro a hr
    refine ov hr (.bool false) (by kernel_rfl) ?_; clear hr a; intro a hr
    refine op_off ((wg hr rfl rfl rfl (b' := false) (by kernel_rfl)).trans rfl) rfl rfl hr ?_; clear hr a; intro a hr
    refine op_off ((wg hr rfl rfl rfl (b' := false) (by kernel_rfl)).trans rfl) rfl rfl hr ?_; clear hr a; intro a hr
    refine op_off ((wg hr rfl rfl rfl (b' := false) (by kernel_rfl)).trans rfl) rfl rfl hr ?_; clear hr a; intro a hr
    refine ovs [146, 4] [.bool false, .bool false] hr ⟨rfl, rfl⟩ (by kernel_rfl) ?_; clear hr a; intro a hr
    refine wpList_nil ?_
    refine then_normal ?_
    refine wp_ret ?_
    refine end_ret1 (v := .bool false) rfl hr (by kernel_rfl) ?_
    replace h : Fit z (sepL (L)) _ := h.sel 6 [] (by kernel_rfl) (by kernel_rfl)
    replace H := ej1 H; subst H
    exact ⟨rfl, h⟩


end Go.Proofs.Ytacgigkonoegiaa.Mo
