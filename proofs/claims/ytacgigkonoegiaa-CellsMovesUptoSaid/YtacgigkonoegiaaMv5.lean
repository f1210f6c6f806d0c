/- what the functions compute, as plain Lean functions, and that they do -/
import Derived.Test.YtacgigkonoegiaaMv4
namespace Go.Proofs.Ytacgigkonoegiaa.Mo
open Go Go.RowKit Go.Proofs.Ytacgigkonoegiaa.SL Go.Proofs.Ytacgigkonoegiaa.GX
set_option linter.unusedVariables false
set_option linter.unusedSimpArgs false

def plunderlaw2_book_stands_l1 (K : Nat) (p0 : T_plunderlaw2_book) : Nat → Int → Option ((Unit) ⊕ (Bool))
  | 0, _ => none
  | k1 + 1, g7 => (if g7 < ((p0.numberLists.length : Nat) : Int) then if inr_ g7 p0.numberLists.length then ob1 (plunderlaw2_stand K (at_ p0.numberLists g7.toNat)) (fun r20 => (if r20 = true then (plunderlaw2_book_stands_l1 K p0 k1 (wi (g7 + (1 : Int)))) else some (.inr false))) else none else some (.inl ()))
def plunderlaw2_book_stands_l2 (K : Nat) (p0 : T_plunderlaw2_book) : Nat → Int → Option (Bool)
  | 0, _ => none
  | k2 + 1, g23 => (if g23 < ((p0.accessLists.length : Nat) : Int) then if inr_ g23 p0.accessLists.length then ob1 (plunderlaw2_plain K ((at_ p0.accessLists g23.toNat).l)) (fun r37 => ob1 (plunderlaw2_plain K ((at_ p0.accessLists g23.toNat).g1)) (fun r41 => ob1 (plunderlaw2_plain K ((at_ p0.accessLists g23.toNat).g2)) (fun r45 => ob1 (plunderlaw2_plain K ((at_ p0.accessLists g23.toNat).g3)) (fun r49 => ob1 (plunderlaw2_stand K (⟨(at_ p0.accessLists g23.toNat).m, r37, r41, r45, r49⟩ : T_plunderlaw2_kept)) (fun r53 => (if r53 = true then (plunderlaw2_book_stands_l2 K p0 k2 (wi (g23 + (1 : Int)))) else some false)))))) else none else some true)
/-- (*plunder/plunderlaw2.book).stands -/
def plunderlaw2_book_stands (K : Nat) (p0 : T_plunderlaw2_book) : Option (Bool) :=
  jn0 ((plunderlaw2_book_stands_l1 K p0 K 0)) ((plunderlaw2_book_stands_l2 K p0 K 0))
set_option maxRecDepth 100000 in
set_option maxHeartbeats 4000000 in
theorem plunderlaw2_book_stands_ok {z w : World} {L : List HProp} {K : Nat} {p0 : T_plunderlaw2_book} {B0 : Nat} {ca1 : Option Addr} {cc2 : Nat} {ca3 : Option Addr} {cc4 : Nat} {r0 : Bool} (H : plunderlaw2_book_stands K p0 = some r0) (h : Fit z (sepL (ob78 B0 p0 ca1 cc2 ca3 cc4 :: rn139 ca1 cc2 p0.numberLists :: rn142 ca3 cc4 p0.accessLists :: L)) w)  :
    Calls Try.prog 45 #[.pointer (some ⟨B0, 0, none⟩)] w fun e w => e = .returned (.bool r0) ∧ Fit z (sepL (ob78 B0 p0 ca1 cc2 ca3 cc4 :: rn139 ca1 cc2 p0.numberLists :: rn142 ca3 cc4 p0.accessLists :: L)) w := by
  unfold plunderlaw2_book_stands at H
  refine enter Try.func45 rfl 57 rfl rfl [(0, .pointer (some ⟨B0, 0, none⟩))] ⟨rfl, trivial⟩ ?_
  intro j a hr
  refine wp_seq ?_
  refine wp_region_lit ?_
  refine ov hr (.bool false) (by kernel_rfl) ?_; clear hr a; intro a hr
  refine wpList_nil ?_
  refine then_normal ?_
  replace H := jd0 H; obtain ⟨o6, H, hK5⟩ := H
  refine cut_rule (β := Unit) (fun _ a w => .inl () = o6 ∧ ∃ j, Rep 57 (lk [(0, .pointer (some ⟨B0, 0, none⟩))] j) a ∧ Fit z (sepL (ob78 B0 p0 ca1 cc2 ca3 cc4 :: rn139 ca1 cc2 p0.numberLists :: rn142 ca3 cc4 p0.accessLists :: L)) w) ?_ ?_
  ·
    refine wp_seq ?_
    refine wp_region_lit ?_
    refine ov hr (.int .i64 0) (by kernel_rfl) ?_; clear hr a; intro a hr
    refine wpList_nil ?_
    refine then_normal ?_
    refine wp_block ?_
    replace hr := hr.fold2 [(0, .pointer (some ⟨B0, 0, none⟩)), (3, .int .i64 0)] (by kernel_rfl); obtain ⟨j, hr⟩ := hr
    refine loop_rule (β := Nat) id (fun m a w => ∃ g7 : Int, (plunderlaw2_book_stands_l1 K p0 m g7) = some o6 ∧ ∃ j, Rep 57 (lk [(0, .pointer (some ⟨B0, 0, none⟩)), (3, .int .i64 g7)] j) a ∧ Fit z (sepL (ob78 B0 p0 ca1 cc2 ca3 cc4 :: rn139 ca1 cc2 p0.numberLists :: rn142 ca3 cc4 p0.accessLists :: L)) w) K ⟨0, H, j, hr, h⟩ ?_
    clear h hr a H; rintro k1 a w ⟨g7, H, j, hr, h⟩
    cases k1 with
    | zero => exact absurd H (by simp [plunderlaw2_book_stands_l1])
    | succ k1 =>
      rw [plunderlaw2_book_stands_l1] at H
      refine wp_seq ?_
      refine wp_seq ?_
      refine wp_region_lit ?_
      refine ovs [6, 7, 8, 9] [.int .i64 g7, .pointer (some ⟨B0, 0, none⟩), .pointer (some ⟨B0, 0, none⟩), .pointer (some ⟨B0, 0, none⟩)] hr ⟨rfl, rfl⟩ (by kernel_rfl) ?_; clear hr a; intro a hr
      refine op_val (wn rfl) rfl rfl hr (v := .slice ca1 p0.numberLists.length cc2) (rl rfl (by kernel_rfl) (by kernel_rfl) (h.cell 0 rfl)) ?_; clear hr a; intro a hr
      refine ovs [11, 12] [.int .i64 ((p0.numberLists.length : Nat) : Int), .bool (decide (g7 < ((p0.numberLists.length : Nat) : Int)))] hr ⟨rfl, rfl⟩ (by kernel_rfl) ?_; clear hr a; intro a hr
      refine wpList_nil ?_
      refine then_normal ?_
      by_cases c8 : g7 < ((p0.numberLists.length : Nat) : Int)
      ·
        replace H := ifT c8 H
        refine cond_tt hr (b := (decide (g7 < ((p0.numberLists.length : Nat) : Int)))) (decide_eq_true c8) ?_
        refine wp_skip ?_
        refine then_normal ?_
        refine wp_seq ?_
        refine wp_block ?_
        refine wp_seq ?_
        refine wp_region_lit ?_
        refine ovs [15, 16, 17] [.pointer (some ⟨B0, 0, none⟩), .pointer (some ⟨B0, 0, none⟩), .pointer (some ⟨B0, 0, none⟩)] hr ⟨rfl, rfl⟩ (by kernel_rfl) ?_; clear hr a; intro a hr
        refine op_val (wn rfl) rfl rfl hr (v := .slice ca1 p0.numberLists.length cc2) (rl rfl (by kernel_rfl) (by kernel_rfl) (h.cell 0 rfl)) ?_; clear hr a; intro a hr
        replace H := gd H; obtain ⟨c9, H⟩ := H
        refine ov hr (.int .i64 g7) (by kernel_rfl) ?_; clear hr a; intro a hr
        refine op_val (wn rfl) rfl rfl hr (v := .pointer (some ⟨blk ca1, g7.toNat * 5, none⟩)) (ri_rowN (k := .i64) (E := 139) rfl (by kernel_rfl) (by kernel_rfl) (by kernel_rfl) (by kernel_rfl) (h.pick 1) c9) ?_; clear hr a; intro a hr
        obtain ⟨cs19, h⟩ := (h.pick 1).rowN_take (at_ok c9)
        obtain ⟨ca10, cc11, ca12, cc13, ca14, cc15, ca16, cc17, e18, h⟩ := own_T_plunderlaw2_kept_op (h.pick 1); subst e18
        replace h : Fit z (sepL (ro2 ca10 cc11 ((at_ p0.numberLists g7.toNat).l) :: ro2 ca12 cc13 ((at_ p0.numberLists g7.toNat).g1) :: ro2 ca14 cc15 ((at_ p0.numberLists g7.toNat).g2) :: ro2 ca16 cc17 ((at_ p0.numberLists g7.toNat).g3) :: rowH 139 5 own_T_plunderlaw2_kept (.slice ca1 p0.numberLists.length cc2) p0.numberLists g7.toNat [.int .i64 ((at_ p0.numberLists g7.toNat).m), .slice ca10 (((at_ p0.numberLists g7.toNat).l).length) cc11, .slice ca12 (((at_ p0.numberLists g7.toNat).g1).length) cc13, .slice ca14 (((at_ p0.numberLists g7.toNat).g2).length) cc15, .slice ca16 (((at_ p0.numberLists g7.toNat).g3).length) cc17] :: ob78 B0 p0 ca1 cc2 ca3 cc4 :: rn142 ca3 cc4 p0.accessLists :: L)) _ := h
        refine op_val (wn rfl) rfl rfl hr (v := .agg #[.int .i64 ((at_ p0.numberLists g7.toNat).m), .slice ca10 (((at_ p0.numberLists g7.toNat).l).length) cc11, .slice ca12 (((at_ p0.numberLists g7.toNat).g1).length) cc13, .slice ca14 (((at_ p0.numberLists g7.toNat).g2).length) cc15, .slice ca16 (((at_ p0.numberLists g7.toNat).g3).length) cc17]) (rlm (cs := [.int .i64 ((at_ p0.numberLists g7.toNat).m), .slice ca10 (((at_ p0.numberLists g7.toNat).l).length) cc11, .slice ca12 (((at_ p0.numberLists g7.toNat).g1).length) cc13, .slice ca14 (((at_ p0.numberLists g7.toNat).g2).length) cc15, .slice ca16 (((at_ p0.numberLists g7.toNat).g3).length) cc17]) rfl (by kernel_rfl) (by kernel_rfl) (by kernel_rfl) ⟨(h.pick 4).rowH_cell (by decide) (f := 0) rfl, (h.pick 4).rowH_cell (by decide) (f := 1) rfl, (h.pick 4).rowH_cell (by decide) (f := 2) rfl, (h.pick 4).rowH_cell (by decide) (f := 3) rfl, (h.pick 4).rowH_cell (by decide) (f := 4) rfl, trivial⟩) ?_; clear hr a; intro a hr
        replace H := bd1 H; obtain ⟨r20, e21, H⟩ := H
        have hc := plunderlaw2_stand_ok (H := e21) (h := h)
        refine op_call (wn rfl) rfl rfl hr (f := 92) (args := #[.agg #[.int .i64 ((at_ p0.numberLists g7.toNat).m), .slice ca10 (((at_ p0.numberLists g7.toNat).l).length) cc11, .slice ca12 (((at_ p0.numberLists g7.toNat).g1).length) cc13, .slice ca14 (((at_ p0.numberLists g7.toNat).g2).length) cc15, .slice ca16 (((at_ p0.numberLists g7.toNat).g3).length) cc17]]) (by kernel_rfl) hc ?_; clear hc h
        rintro _ w ⟨rfl, h⟩; refine ⟨_, rfl, ?_⟩
        clear hr a; intro a hr
        refine ov hr (.bool (!r20)) (by kernel_rfl) ?_; clear hr a; intro a hr
        refine wpList_nil ?_
        refine then_normal ?_
        by_cases c22 : r20 = true
        ·
          replace H := ifT c22 H
          refine cond_ff hr (b := (!r20)) (by rw [show r20 = true from (c22)]; rfl) ?_
          refine wp_skip ?_
          refine blk_normal ?_
          refine then_normal ?_
          refine wp_region_lit ?_
          refine ovs [13, 14, 3] [.int .i64 g7, .int .i64 (wi (g7 + (1 : Int))), .int .i64 (wi (g7 + (1 : Int)))] hr ⟨rfl, rfl⟩ (by kernel_rfl) ?_; clear hr a; intro a hr
          refine wpList_nil ?_
          refine then_normal ?_
          replace h := own_T_plunderlaw2_kept_sh (x := (at_ p0.numberLists g7.toNat)) h
          replace h : Fit z (sepL (rn139 ca1 cc2 p0.numberLists :: ob78 B0 p0 ca1 cc2 ca3 cc4 :: rn142 ca3 cc4 p0.accessLists :: L)) _ := Fit.rowH_same (h.pick 1)
          replace hr := hr.fold2 [(0, .pointer (some ⟨B0, 0, none⟩)), (3, .int .i64 (wi (g7 + (1 : Int))))] (by kernel_rfl); obtain ⟨j, hr⟩ := hr
          replace h : Fit z (sepL (ob78 B0 p0 ca1 cc2 ca3 cc4 :: rn139 ca1 cc2 p0.numberLists :: rn142 ca3 cc4 p0.accessLists :: L)) _ := h.sel 3 [1, 0, 2] (by kernel_rfl) (by kernel_rfl)
          exact ⟨_, ⟨(wi (g7 + (1 : Int))), H, j, hr, h⟩, Nat.lt_succ_self _⟩
        ·
          replace H := ifF c22 H
          refine cond_tt hr (b := (!r20)) (by rw [show r20 = false from (bF c22)]; rfl) ?_
          refine wp_seq ?_
          refine wp_region_lit ?_
          refine ov hr (.bool false) (by kernel_rfl) ?_; clear hr a; intro a hr
          refine wpList_nil ?_
          refine then_normal ?_
          refine wp_ret ?_
          refine blk_ret ?_
          refine then_ret ?_
          refine then_ret ?_
          refine blk_ret ?_
          refine then_ret ?_
          refine end_ret1 (v := .bool false) rfl hr (by kernel_rfl) ?_
          replace h := own_T_plunderlaw2_kept_sh (x := (at_ p0.numberLists g7.toNat)) h
          replace h : Fit z (sepL (rn139 ca1 cc2 p0.numberLists :: ob78 B0 p0 ca1 cc2 ca3 cc4 :: rn142 ca3 cc4 p0.accessLists :: L)) _ := Fit.rowH_same (h.pick 1)
          replace H := jx0 H hK5
          replace h : Fit z (sepL (ob78 B0 p0 ca1 cc2 ca3 cc4 :: rn139 ca1 cc2 p0.numberLists :: rn142 ca3 cc4 p0.accessLists :: L)) _ := h.sel 3 [1, 0, 2] (by kernel_rfl) (by kernel_rfl)
          replace H := ej1 H; subst H
          exact ⟨rfl, h⟩
      ·
        replace H := ifF c8 H
        refine cond_ff hr (b := (decide (g7 < ((p0.numberLists.length : Nat) : Int)))) (decide_eq_false c8) ?_
        refine wp_exit ?_
        refine then_exit ?_
        refine then_exit ?_
        refine blk_here ?_
        refine then_normal ?_
        replace hr := hr.fold2 [(0, .pointer (some ⟨B0, 0, none⟩))] (by kernel_rfl); obtain ⟨j, hr⟩ := hr
        exact ⟨(), sinj H, j, hr, h⟩
  clear h hr a; rintro _ a w ⟨rfl, j, hr, h⟩
  replace H := jk0 hK5
  refine wp_seq ?_
  refine wp_seq ?_
  refine wp_region_lit ?_
  refine ov hr (.int .i64 0) (by kernel_rfl) ?_; clear hr a; intro a hr
  refine wpList_nil ?_
  refine then_normal ?_
  refine wp_block ?_
  replace hr := hr.fold2 [(0, .pointer (some ⟨B0, 0, none⟩)), (4, .int .i64 0)] (by kernel_rfl); obtain ⟨j, hr⟩ := hr
  refine loop_rule (β := Nat) id (fun m a w => ∃ g23 : Int, (plunderlaw2_book_stands_l2 K p0 m g23) = some r0 ∧ ∃ j, Rep 57 (lk [(0, .pointer (some ⟨B0, 0, none⟩)), (4, .int .i64 g23)] j) a ∧ Fit z (sepL (ob78 B0 p0 ca1 cc2 ca3 cc4 :: rn139 ca1 cc2 p0.numberLists :: rn142 ca3 cc4 p0.accessLists :: L)) w) K ⟨0, H, j, hr, h⟩ ?_
  clear h hr a H; rintro k2 a w ⟨g23, H, j, hr, h⟩
  cases k2 with
  | zero => exact absurd H (by simp [plunderlaw2_book_stands_l2])
  | succ k2 =>
    rw [plunderlaw2_book_stands_l2] at H
    refine wp_seq ?_
    refine wp_seq ?_
    refine wp_region_lit ?_
    refine ovs [24, 25, 26, 27] [.int .i64 g23, .pointer (some ⟨B0, 0, none⟩), .pointer (some ⟨B0, 0, none⟩), .pointer (some ⟨B0, 1, none⟩)] hr ⟨rfl, rfl⟩ (by kernel_rfl) ?_; clear hr a; intro a hr
    refine op_val (wn rfl) rfl rfl hr (v := .slice ca3 p0.accessLists.length cc4) (rl rfl (by kernel_rfl) (by kernel_rfl) (h.cell 1 rfl)) ?_; clear hr a; intro a hr
    refine ovs [29, 30] [.int .i64 ((p0.accessLists.length : Nat) : Int), .bool (decide (g23 < ((p0.accessLists.length : Nat) : Int)))] hr ⟨rfl, rfl⟩ (by kernel_rfl) ?_; clear hr a; intro a hr
    refine wpList_nil ?_
    refine then_normal ?_
    by_cases c24 : g23 < ((p0.accessLists.length : Nat) : Int)
    ·
      replace H := ifT c24 H
      refine cond_tt hr (b := (decide (g23 < ((p0.accessLists.length : Nat) : Int)))) (decide_eq_true c24) ?_
      refine wp_skip ?_
      refine then_normal ?_
      refine wp_seq ?_
      refine wp_block ?_
      refine wp_seq ?_
      refine wp_region_lit ?_
      refine ovs [33, 34, 35] [.pointer (some ⟨B0, 0, none⟩), .pointer (some ⟨B0, 0, none⟩), .pointer (some ⟨B0, 1, none⟩)] hr ⟨rfl, rfl⟩ (by kernel_rfl) ?_; clear hr a; intro a hr
      refine op_val (wn rfl) rfl rfl hr (v := .slice ca3 p0.accessLists.length cc4) (rl rfl (by kernel_rfl) (by kernel_rfl) (h.cell 1 rfl)) ?_; clear hr a; intro a hr
      replace H := gd H; obtain ⟨c25, H⟩ := H
      refine ov hr (.int .i64 g23) (by kernel_rfl) ?_; clear hr a; intro a hr
      refine op_val (wn rfl) rfl rfl hr (v := .pointer (some ⟨blk ca3, g23.toNat * 5, none⟩)) (ri_rowN (k := .i64) (E := 142) rfl (by kernel_rfl) (by kernel_rfl) (by kernel_rfl) (by kernel_rfl) (h.pick 2) c25) ?_; clear hr a; intro a hr
      obtain ⟨cs35, h⟩ := (h.pick 2).rowN_take (at_ok c25)
      obtain ⟨ca26, cc27, ca28, cc29, ca30, cc31, ca32, cc33, e34, h⟩ := own_T_plunderlaw2_noted_op (h.pick 1); subst e34
      replace h : Fit z (sepL (ro90 ca26 cc27 ((at_ p0.accessLists g23.toNat).l) :: ro90 ca28 cc29 ((at_ p0.accessLists g23.toNat).g1) :: ro90 ca30 cc31 ((at_ p0.accessLists g23.toNat).g2) :: ro90 ca32 cc33 ((at_ p0.accessLists g23.toNat).g3) :: rowH 142 5 own_T_plunderlaw2_noted (.slice ca3 p0.accessLists.length cc4) p0.accessLists g23.toNat [.int .i64 ((at_ p0.accessLists g23.toNat).m), .slice ca26 (((at_ p0.accessLists g23.toNat).l).length) cc27, .slice ca28 (((at_ p0.accessLists g23.toNat).g1).length) cc29, .slice ca30 (((at_ p0.accessLists g23.toNat).g2).length) cc31, .slice ca32 (((at_ p0.accessLists g23.toNat).g3).length) cc33] :: ob78 B0 p0 ca1 cc2 ca3 cc4 :: rn139 ca1 cc2 p0.numberLists :: L)) _ := h
      refine op_val (wn rfl) rfl rfl hr (v := .agg #[.int .i64 ((at_ p0.accessLists g23.toNat).m), .slice ca26 (((at_ p0.accessLists g23.toNat).l).length) cc27, .slice ca28 (((at_ p0.accessLists g23.toNat).g1).length) cc29, .slice ca30 (((at_ p0.accessLists g23.toNat).g2).length) cc31, .slice ca32 (((at_ p0.accessLists g23.toNat).g3).length) cc33]) (rlm (cs := [.int .i64 ((at_ p0.accessLists g23.toNat).m), .slice ca26 (((at_ p0.accessLists g23.toNat).l).length) cc27, .slice ca28 (((at_ p0.accessLists g23.toNat).g1).length) cc29, .slice ca30 (((at_ p0.accessLists g23.toNat).g2).length) cc31, .slice ca32 (((at_ p0.accessLists g23.toNat).g3).length) cc33]) rfl (by kernel_rfl) (by kernel_rfl) (by kernel_rfl) ⟨(h.pick 4).rowH_cell (by decide) (f := 0) rfl, (h.pick 4).rowH_cell (by decide) (f := 1) rfl, (h.pick 4).rowH_cell (by decide) (f := 2) rfl, (h.pick 4).rowH_cell (by decide) (f := 3) rfl, (h.pick 4).rowH_cell (by decide) (f := 4) rfl, trivial⟩) ?_; clear hr a; intro a hr
      refine op_new (wn rfl) rfl rfl hr h (vf := fun b => .pointer (some ⟨b, 0, none⟩)) (cs := #[.int .i64 0, .slice none 0 0, .slice none 0 0, .slice none 0 0, .slice none 0 0]) (T := 142) (by kernel_rfl) ?_; clear h hr a; intro b36 w a h hr
      refine op_stores (wn rfl) rfl hr rfl (by kernel_rfl) (by kernel_rfl) (vs := [.int .i64 ((at_ p0.accessLists g23.toNat).m), .slice ca26 (((at_ p0.accessLists g23.toNat).l).length) cc27, .slice ca28 (((at_ p0.accessLists g23.toNat).g1).length) cc29, .slice ca30 (((at_ p0.accessLists g23.toNat).g2).length) cc31, .slice ca32 (((at_ p0.accessLists g23.toNat).g3).length) cc33]) rfl rfl (by kernel_rfl) h (i := 0) (cs' := #[.int .i64 ((at_ p0.accessLists g23.toNat).m), .slice ca26 (((at_ p0.accessLists g23.toNat).l).length) cc27, .slice ca28 (((at_ p0.accessLists g23.toNat).g1).length) cc29, .slice ca30 (((at_ p0.accessLists g23.toNat).g2).length) cc31, .slice ca32 (((at_ p0.accessLists g23.toNat).g3).length) cc33]) rfl ?_; clear h; intro w h
      refine wpList_nil ?_
      replace h : Fit z (sepL (pts b36 (.cells #[.int .i64 ((at_ p0.accessLists g23.toNat).m), .slice ca26 (((at_ p0.accessLists g23.toNat).l).length) cc27, .slice ca28 (((at_ p0.accessLists g23.toNat).g1).length) cc29, .slice ca30 (((at_ p0.accessLists g23.toNat).g2).length) cc31, .slice ca32 (((at_ p0.accessLists g23.toNat).g3).length) cc33] 142) :: ro90 ca26 cc27 ((at_ p0.accessLists g23.toNat).l) :: ro90 ca28 cc29 ((at_ p0.accessLists g23.toNat).g1) :: ro90 ca30 cc31 ((at_ p0.accessLists g23.toNat).g2) :: ro90 ca32 cc33 ((at_ p0.accessLists g23.toNat).g3) :: rowH 142 5 own_T_plunderlaw2_noted (.slice ca3 p0.accessLists.length cc4) p0.accessLists g23.toNat [.int .i64 ((at_ p0.accessLists g23.toNat).m), .slice ca26 (((at_ p0.accessLists g23.toNat).l).length) cc27, .slice ca28 (((at_ p0.accessLists g23.toNat).g1).length) cc29, .slice ca30 (((at_ p0.accessLists g23.toNat).g2).length) cc31, .slice ca32 (((at_ p0.accessLists g23.toNat).g3).length) cc33] :: ob78 B0 p0 ca1 cc2 ca3 cc4 :: rn139 ca1 cc2 p0.numberLists :: L)) _ := h
      refine then_normal ?_
      refine wp_seq ?_
      replace H := bd1 H; obtain ⟨r37, e38, H⟩ := H
      replace H := bd1 H; obtain ⟨r41, e42, H⟩ := H
      replace H := bd1 H; obtain ⟨r45, e46, H⟩ := H
      replace H := bd1 H; obtain ⟨r49, e50, H⟩ := H
      replace H := bd1 H; obtain ⟨r53, e54, H⟩ := H
      refine reg_E (fun w => heldC w b36 0 [.int .i64 ((at_ p0.accessLists g23.toNat).m)] ∧ heldC w b36 1 [.slice ca26 (((at_ p0.accessLists g23.toNat).l).length) cc27] ∧ heldC w b36 2 [.slice ca28 (((at_ p0.accessLists g23.toNat).g1).length) cc29] ∧ heldC w b36 3 [.slice ca30 (((at_ p0.accessLists g23.toNat).g2).length) cc31] ∧ heldC w b36 4 [.slice ca32 (((at_ p0.accessLists g23.toNat).g3).length) cc33] ∧ True) [0, 2, 4, 5, 7, 8, 10, 11, 13] h (by kernel_rfl) ?_; intro w h
      change wpAnyE _ _ _ _ _ _ 17 (Array.replicate 17 false) a w
      have hgo : ∀ w w', CellsGo w w' → (heldC w b36 0 [.int .i64 ((at_ p0.accessLists g23.toNat).m)] ∧ heldC w b36 1 [.slice ca26 (((at_ p0.accessLists g23.toNat).l).length) cc27] ∧ heldC w b36 2 [.slice ca28 (((at_ p0.accessLists g23.toNat).g1).length) cc29] ∧ heldC w b36 3 [.slice ca30 (((at_ p0.accessLists g23.toNat).g2).length) cc31] ∧ heldC w b36 4 [.slice ca32 (((at_ p0.accessLists g23.toNat).g3).length) cc33] ∧ True) → heldC w' b36 0 [.int .i64 ((at_ p0.accessLists g23.toNat).m)] ∧ heldC w' b36 1 [.slice ca26 (((at_ p0.accessLists g23.toNat).l).length) cc27] ∧ heldC w' b36 2 [.slice ca28 (((at_ p0.accessLists g23.toNat).g1).length) cc29] ∧ heldC w' b36 3 [.slice ca30 (((at_ p0.accessLists g23.toNat).g2).length) cc31] ∧ heldC w' b36 4 [.slice ca32 (((at_ p0.accessLists g23.toNat).g3).length) cc33] ∧ True := fun w w' g hD => ⟨heldC_go _ _ _ _ _ g hD.1, heldC_go _ _ _ _ _ g hD.2.1, heldC_go _ _ _ _ _ g hD.2.2.1, heldC_go _ _ _ _ _ g hD.2.2.2.1, heldC_go _ _ _ _ _ g hD.2.2.2.2.1, trivial⟩
      refine evD hgo ⟨⟨h.cell 0 rfl, trivial⟩, ⟨h.cell 1 rfl, trivial⟩, ⟨h.cell 2 rfl, trivial⟩, ⟨h.cell 3 rfl, trivial⟩, ⟨h.cell 4 rfl, trivial⟩, trivial⟩ 16 0 rfl (by kernel_rfl) (wn rfl) hr (.pointer (some ⟨b36, 0, none⟩)) (fun w => by kernel_rfl) ?_; clear hr a; intro a hr
      refine evD hgo ⟨⟨h.cell 0 rfl, trivial⟩, ⟨h.cell 1 rfl, trivial⟩, ⟨h.cell 2 rfl, trivial⟩, ⟨h.cell 3 rfl, trivial⟩, ⟨h.cell 4 rfl, trivial⟩, trivial⟩ 15 2 rfl (by kernel_rfl) (wn rfl) hr (.pointer (some ⟨b36, 1, none⟩)) (fun w => by kernel_rfl) ?_; clear hr a; intro a hr
      refine evD hgo ⟨⟨h.cell 0 rfl, trivial⟩, ⟨h.cell 1 rfl, trivial⟩, ⟨h.cell 2 rfl, trivial⟩, ⟨h.cell 3 rfl, trivial⟩, ⟨h.cell 4 rfl, trivial⟩, trivial⟩ 14 5 rfl (by kernel_rfl) (wn rfl) hr (.pointer (some ⟨b36, 2, none⟩)) (fun w => by kernel_rfl) ?_; clear hr a; intro a hr
      refine evD hgo ⟨⟨h.cell 0 rfl, trivial⟩, ⟨h.cell 1 rfl, trivial⟩, ⟨h.cell 2 rfl, trivial⟩, ⟨h.cell 3 rfl, trivial⟩, ⟨h.cell 4 rfl, trivial⟩, trivial⟩ 13 8 rfl (by kernel_rfl) (wn rfl) hr (.pointer (some ⟨b36, 3, none⟩)) (fun w => by kernel_rfl) ?_; clear hr a; intro a hr
      refine evD hgo ⟨⟨h.cell 0 rfl, trivial⟩, ⟨h.cell 1 rfl, trivial⟩, ⟨h.cell 2 rfl, trivial⟩, ⟨h.cell 3 rfl, trivial⟩, ⟨h.cell 4 rfl, trivial⟩, trivial⟩ 12 11 rfl (by kernel_rfl) (wn rfl) hr (.pointer (some ⟨b36, 4, none⟩)) (fun w => by kernel_rfl) ?_; clear hr a; intro a hr
      refine el [0, 2, 4, 5, 7, 8, 10, 11, 13] (b := b36) (off := 0) (cs := [.int .i64 ((at_ p0.accessLists g23.toNat).m)]) (fun _ hk => ⟨hk, fun w hD => hD.1⟩) 11 1 rfl (by kernel_rfl) (wn rfl) hr (.int .i64 ((at_ p0.accessLists g23.toNat).m)) ⟨h.cell 0 rfl, trivial⟩ (fun w hc => rl rfl (by kernel_rfl) (by kernel_rfl) hc.1) ?_; clear hr a; intro a hr
      refine el [0, 2, 4, 5, 7, 8, 10, 11, 13] (b := b36) (off := 1) (cs := [.slice ca26 (((at_ p0.accessLists g23.toNat).l).length) cc27]) (fun _ hk => ⟨hk, fun w hD => hD.2.1⟩) 10 3 rfl (by kernel_rfl) (wn rfl) hr (.slice ca26 (((at_ p0.accessLists g23.toNat).l).length) cc27) ⟨h.cell 1 rfl, trivial⟩ (fun w hc => rl rfl (by kernel_rfl) (by kernel_rfl) hc.1) ?_; clear hr a; intro a hr
      refine el [0, 2, 4, 5, 7, 8, 10, 11, 13] (b := b36) (off := 2) (cs := [.slice ca28 (((at_ p0.accessLists g23.toNat).g1).length) cc29]) (fun _ hk => ⟨hk, fun w hD => hD.2.2.1⟩) 9 6 rfl (by kernel_rfl) (wn rfl) hr (.slice ca28 (((at_ p0.accessLists g23.toNat).g1).length) cc29) ⟨h.cell 2 rfl, trivial⟩ (fun w hc => rl rfl (by kernel_rfl) (by kernel_rfl) hc.1) ?_; clear hr a; intro a hr
      refine el [0, 2, 4, 5, 7, 8, 10, 11, 13] (b := b36) (off := 3) (cs := [.slice ca30 (((at_ p0.accessLists g23.toNat).g2).length) cc31]) (fun _ hk => ⟨hk, fun w hD => hD.2.2.2.1⟩) 8 9 rfl (by kernel_rfl) (wn rfl) hr (.slice ca30 (((at_ p0.accessLists g23.toNat).g2).length) cc31) ⟨h.cell 3 rfl, trivial⟩ (fun w hc => rl rfl (by kernel_rfl) (by kernel_rfl) hc.1) ?_; clear hr a; intro a hr
      refine el [0, 2, 4, 5, 7, 8, 10, 11, 13] (b := b36) (off := 4) (cs := [.slice ca32 (((at_ p0.accessLists g23.toNat).g3).length) cc33]) (fun _ hk => ⟨hk, fun w hD => hD.2.2.2.2.1⟩) 7 12 rfl (by kernel_rfl) (wn rfl) hr (.slice ca32 (((at_ p0.accessLists g23.toNat).g3).length) cc33) ⟨h.cell 4 rfl, trivial⟩ (fun w hc => rl rfl (by kernel_rfl) (by kernel_rfl) hc.1) ?_; clear hr a; intro a hr
      refine e_one (fuel := 6) (i := 4) (by kernel_rfl) rfl ?_
      have hc := plunderlaw2_plain_ok (va0 := ca26) (vc0 := cc27) (hv0 := (RdRow.of_row enc_T_api_Access_ok (h.pick 1) (fun h => (h.pick 1)))) (H := e38) (h := h)
      refine op_call (wn rfl) rfl rfl hr (f := 93) (args := #[.slice ca26 (((at_ p0.accessLists g23.toNat).l).length) cc27]) (by kernel_rfl) hc ?_; clear hc h
      rintro _ w ⟨car39, ccr40, rfl, h⟩; refine ⟨_, rfl, ?_⟩
      clear hr a; intro a hr
      refine wpList_nil ?_; refine then_normal ?_
      refine ⟨fun _ => ⟨⟨(h.pick 1).cell 0 rfl, trivial⟩, ⟨(h.pick 1).cell 1 rfl, trivial⟩, ⟨(h.pick 1).cell 2 rfl, trivial⟩, ⟨(h.pick 1).cell 3 rfl, trivial⟩, ⟨(h.pick 1).cell 4 rfl, trivial⟩, trivial⟩, ?_⟩
      refine e_one (fuel := 5) (i := 7) (by kernel_rfl) rfl ?_
      have hc := plunderlaw2_plain_ok (va0 := ca28) (vc0 := cc29) (hv0 := (RdRow.of_row enc_T_api_Access_ok (h.pick 3) (fun h => (h.pick 3)))) (H := e42) (h := h)
      refine op_call (wn rfl) rfl rfl hr (f := 93) (args := #[.slice ca28 (((at_ p0.accessLists g23.toNat).g1).length) cc29]) (by kernel_rfl) hc ?_; clear hc h
      rintro _ w ⟨car43, ccr44, rfl, h⟩; refine ⟨_, rfl, ?_⟩
      clear hr a; intro a hr
      refine wpList_nil ?_; refine then_normal ?_
      refine ⟨fun _ => ⟨⟨(h.pick 2).cell 0 rfl, trivial⟩, ⟨(h.pick 2).cell 1 rfl, trivial⟩, ⟨(h.pick 2).cell 2 rfl, trivial⟩, ⟨(h.pick 2).cell 3 rfl, trivial⟩, ⟨(h.pick 2).cell 4 rfl, trivial⟩, trivial⟩, ?_⟩
      refine e_one (fuel := 4) (i := 10) (by kernel_rfl) rfl ?_
      have hc := plunderlaw2_plain_ok (va0 := ca30) (vc0 := cc31) (hv0 := (RdRow.of_row enc_T_api_Access_ok (h.pick 5) (fun h => (h.pick 5)))) (H := e46) (h := h)
      refine op_call (wn rfl) rfl rfl hr (f := 93) (args := #[.slice ca30 (((at_ p0.accessLists g23.toNat).g2).length) cc31]) (by kernel_rfl) hc ?_; clear hc h
      rintro _ w ⟨car47, ccr48, rfl, h⟩; refine ⟨_, rfl, ?_⟩
      clear hr a; intro a hr
      refine wpList_nil ?_; refine then_normal ?_
      refine ⟨fun _ => ⟨⟨(h.pick 3).cell 0 rfl, trivial⟩, ⟨(h.pick 3).cell 1 rfl, trivial⟩, ⟨(h.pick 3).cell 2 rfl, trivial⟩, ⟨(h.pick 3).cell 3 rfl, trivial⟩, ⟨(h.pick 3).cell 4 rfl, trivial⟩, trivial⟩, ?_⟩
      refine e_one (fuel := 3) (i := 13) (by kernel_rfl) rfl ?_
      have hc := plunderlaw2_plain_ok (va0 := ca32) (vc0 := cc33) (hv0 := (RdRow.of_row enc_T_api_Access_ok (h.pick 7) (fun h => (h.pick 7)))) (H := e50) (h := h)
      refine op_call (wn rfl) rfl rfl hr (f := 93) (args := #[.slice ca32 (((at_ p0.accessLists g23.toNat).g3).length) cc33]) (by kernel_rfl) hc ?_; clear hc h
      rintro _ w ⟨car51, ccr52, rfl, h⟩; refine ⟨_, rfl, ?_⟩
      clear hr a; intro a hr
      refine wpList_nil ?_; refine then_normal ?_
      refine ⟨fun _ => ⟨⟨(h.pick 4).cell 0 rfl, trivial⟩, ⟨(h.pick 4).cell 1 rfl, trivial⟩, ⟨(h.pick 4).cell 2 rfl, trivial⟩, ⟨(h.pick 4).cell 3 rfl, trivial⟩, ⟨(h.pick 4).cell 4 rfl, trivial⟩, trivial⟩, ?_⟩
      refine ev 2 14 rfl (by kernel_rfl) (wn rfl) hr (.agg #[.int .i64 ((at_ p0.accessLists g23.toNat).m), .slice car39 r37.length ccr40, .slice car43 r41.length ccr44, .slice car47 r45.length ccr48, .slice car51 r49.length ccr52]) (fun w => by kernel_rfl) ?_; clear hr a; intro a hr
      refine e_one (fuel := 1) (i := 15) (by kernel_rfl) rfl ?_
      replace h : Fit z (sepL (ro2 car39 ccr40 r37 :: ro2 car43 ccr44 r41 :: ro2 car47 ccr48 r45 :: ro2 car51 ccr52 r49 :: pts b36 (.cells #[.int .i64 ((at_ p0.accessLists g23.toNat).m), .slice ca26 (((at_ p0.accessLists g23.toNat).l).length) cc27, .slice ca28 (((at_ p0.accessLists g23.toNat).g1).length) cc29, .slice ca30 (((at_ p0.accessLists g23.toNat).g2).length) cc31, .slice ca32 (((at_ p0.accessLists g23.toNat).g3).length) cc33] 142) :: ro90 ca26 cc27 ((at_ p0.accessLists g23.toNat).l) :: ro90 ca28 cc29 ((at_ p0.accessLists g23.toNat).g1) :: ro90 ca30 cc31 ((at_ p0.accessLists g23.toNat).g2) :: ro90 ca32 cc33 ((at_ p0.accessLists g23.toNat).g3) :: rowH 142 5 own_T_plunderlaw2_noted (.slice ca3 p0.accessLists.length cc4) p0.accessLists g23.toNat [.int .i64 ((at_ p0.accessLists g23.toNat).m), .slice ca26 (((at_ p0.accessLists g23.toNat).l).length) cc27, .slice ca28 (((at_ p0.accessLists g23.toNat).g1).length) cc29, .slice ca30 (((at_ p0.accessLists g23.toNat).g2).length) cc31, .slice ca32 (((at_ p0.accessLists g23.toNat).g3).length) cc33] :: ob78 B0 p0 ca1 cc2 ca3 cc4 :: rn139 ca1 cc2 p0.numberLists :: L)) _ := h.sel 12 [3, 2, 1, 0, 4, 5, 6, 7, 8, 9, 10, 11] (by kernel_rfl) (by kernel_rfl)
      have hc := plunderlaw2_stand_ok (H := e54) (h := h)
      refine op_call (wn rfl) rfl rfl hr (f := 92) (args := #[.agg #[.int .i64 ((at_ p0.accessLists g23.toNat).m), .slice car39 r37.length ccr40, .slice car43 r41.length ccr44, .slice car47 r45.length ccr48, .slice car51 r49.length ccr52]]) (by kernel_rfl) hc ?_; clear hc h
      rintro _ w ⟨rfl, h⟩; refine ⟨_, rfl, ?_⟩
      clear hr a; intro a hr
      refine wpList_nil ?_; refine then_normal ?_
      refine ⟨fun hE => absurd hE (by decide), ?_⟩
      refine ev 0 16 rfl (by kernel_rfl) (wn rfl) hr (.bool (!r53)) (fun w => by kernel_rfl) ?_; clear hr a; intro a hr
      refine e_end (by kernel_rfl) ?_
      refine then_normal ?_
      by_cases c55 : r53 = true
      ·
        replace H := ifT c55 H
        refine cond_ff hr (b := (!r53)) (by rw [show r53 = true from (c55)]; rfl) ?_
        refine wp_skip ?_
        refine blk_normal ?_
        refine then_normal ?_
        refine wp_region_lit ?_
        refine ovs [31, 32, 4] [.int .i64 g23, .int .i64 (wi (g23 + (1 : Int))), .int .i64 (wi (g23 + (1 : Int)))] hr ⟨rfl, rfl⟩ (by kernel_rfl) ?_; clear hr a; intro a hr
        refine wpList_nil ?_
        refine then_normal ?_
        replace h : Fit z (sepL (ro90 ca26 cc27 ((at_ p0.accessLists g23.toNat).l) :: ro90 ca28 cc29 ((at_ p0.accessLists g23.toNat).g1) :: ro90 ca30 cc31 ((at_ p0.accessLists g23.toNat).g2) :: ro90 ca32 cc33 ((at_ p0.accessLists g23.toNat).g3) :: rowH 142 5 own_T_plunderlaw2_noted (.slice ca3 p0.accessLists.length cc4) p0.accessLists g23.toNat [.int .i64 ((at_ p0.accessLists g23.toNat).m), .slice ca26 (((at_ p0.accessLists g23.toNat).l).length) cc27, .slice ca28 (((at_ p0.accessLists g23.toNat).g1).length) cc29, .slice ca30 (((at_ p0.accessLists g23.toNat).g2).length) cc31, .slice ca32 (((at_ p0.accessLists g23.toNat).g3).length) cc33] :: ro2 car39 ccr40 r37 :: ro2 car43 ccr44 r41 :: ro2 car47 ccr48 r45 :: ro2 car51 ccr52 r49 :: pts b36 (.cells #[.int .i64 ((at_ p0.accessLists g23.toNat).m), .slice ca26 (((at_ p0.accessLists g23.toNat).l).length) cc27, .slice ca28 (((at_ p0.accessLists g23.toNat).g1).length) cc29, .slice ca30 (((at_ p0.accessLists g23.toNat).g2).length) cc31, .slice ca32 (((at_ p0.accessLists g23.toNat).g3).length) cc33] 142) :: ob78 B0 p0 ca1 cc2 ca3 cc4 :: rn139 ca1 cc2 p0.numberLists :: L)) _ := h.sel 12 [5, 6, 7, 8, 9, 0, 1, 2, 3, 4, 10, 11] (by kernel_rfl) (by kernel_rfl)
        replace h := own_T_plunderlaw2_noted_sh (x := (at_ p0.accessLists g23.toNat)) h
        replace h : Fit z (sepL (rn142 ca3 cc4 p0.accessLists :: ro2 car39 ccr40 r37 :: ro2 car43 ccr44 r41 :: ro2 car47 ccr48 r45 :: ro2 car51 ccr52 r49 :: pts b36 (.cells #[.int .i64 ((at_ p0.accessLists g23.toNat).m), .slice ca26 (((at_ p0.accessLists g23.toNat).l).length) cc27, .slice ca28 (((at_ p0.accessLists g23.toNat).g1).length) cc29, .slice ca30 (((at_ p0.accessLists g23.toNat).g2).length) cc31, .slice ca32 (((at_ p0.accessLists g23.toNat).g3).length) cc33] 142) :: ob78 B0 p0 ca1 cc2 ca3 cc4 :: rn139 ca1 cc2 p0.numberLists :: L)) _ := Fit.rowH_same (h.pick 1)
        replace hr := hr.fold2 [(0, .pointer (some ⟨B0, 0, none⟩)), (4, .int .i64 (wi (g23 + (1 : Int))))] (by kernel_rfl); obtain ⟨j, hr⟩ := hr
        replace h : Fit z (sepL (ob78 B0 p0 ca1 cc2 ca3 cc4 :: rn139 ca1 cc2 p0.numberLists :: rn142 ca3 cc4 p0.accessLists :: L)) _ := h.sel 8 [6, 7, 0] (by kernel_rfl) (by kernel_rfl)
        exact ⟨_, ⟨(wi (g23 + (1 : Int))), H, j, hr, h⟩, Nat.lt_succ_self _⟩
      ·
        replace H := ifF c55 H
        refine cond_tt hr (b := (!r53)) (by rw [show r53 = false from (bF c55)]; rfl) ?_
        refine wp_seq ?_
        refine wp_region_lit ?_
        refine ov hr (.bool false) (by kernel_rfl) ?_; clear hr a; intro a hr
        refine wpList_nil ?_
        refine then_normal ?_
        refine wp_ret ?_
        refine blk_ret ?_
        refine then_ret ?_
        refine then_ret ?_
        refine blk_ret ?_
        refine then_ret ?_
        refine end_ret1 (v := .bool false) rfl hr (by kernel_rfl) ?_
        replace h : Fit z (sepL (ro90 ca26 cc27 ((at_ p0.accessLists g23.toNat).l) :: ro90 ca28 cc29 ((at_ p0.accessLists g23.toNat).g1) :: ro90 ca30 cc31 ((at_ p0.accessLists g23.toNat).g2) :: ro90 ca32 cc33 ((at_ p0.accessLists g23.toNat).g3) :: rowH 142 5 own_T_plunderlaw2_noted (.slice ca3 p0.accessLists.length cc4) p0.accessLists g23.toNat [.int .i64 ((at_ p0.accessLists g23.toNat).m), .slice ca26 (((at_ p0.accessLists g23.toNat).l).length) cc27, .slice ca28 (((at_ p0.accessLists g23.toNat).g1).length) cc29, .slice ca30 (((at_ p0.accessLists g23.toNat).g2).length) cc31, .slice ca32 (((at_ p0.accessLists g23.toNat).g3).length) cc33] :: ro2 car39 ccr40 r37 :: ro2 car43 ccr44 r41 :: ro2 car47 ccr48 r45 :: ro2 car51 ccr52 r49 :: pts b36 (.cells #[.int .i64 ((at_ p0.accessLists g23.toNat).m), .slice ca26 (((at_ p0.accessLists g23.toNat).l).length) cc27, .slice ca28 (((at_ p0.accessLists g23.toNat).g1).length) cc29, .slice ca30 (((at_ p0.accessLists g23.toNat).g2).length) cc31, .slice ca32 (((at_ p0.accessLists g23.toNat).g3).length) cc33] 142) :: ob78 B0 p0 ca1 cc2 ca3 cc4 :: rn139 ca1 cc2 p0.numberLists :: L)) _ := h.sel 12 [5, 6, 7, 8, 9, 0, 1, 2, 3, 4, 10, 11] (by kernel_rfl) (by kernel_rfl)
        replace h := own_T_plunderlaw2_noted_sh (x := (at_ p0.accessLists g23.toNat)) h
        replace h : Fit z (sepL (rn142 ca3 cc4 p0.accessLists :: ro2 car39 ccr40 r37 :: ro2 car43 ccr44 r41 :: ro2 car47 ccr48 r45 :: ro2 car51 ccr52 r49 :: pts b36 (.cells #[.int .i64 ((at_ p0.accessLists g23.toNat).m), .slice ca26 (((at_ p0.accessLists g23.toNat).l).length) cc27, .slice ca28 (((at_ p0.accessLists g23.toNat).g1).length) cc29, .slice ca30 (((at_ p0.accessLists g23.toNat).g2).length) cc31, .slice ca32 (((at_ p0.accessLists g23.toNat).g3).length) cc33] 142) :: ob78 B0 p0 ca1 cc2 ca3 cc4 :: rn139 ca1 cc2 p0.numberLists :: L)) _ := Fit.rowH_same (h.pick 1)
        replace h : Fit z (sepL (ob78 B0 p0 ca1 cc2 ca3 cc4 :: rn139 ca1 cc2 p0.numberLists :: rn142 ca3 cc4 p0.accessLists :: L)) _ := h.sel 8 [6, 7, 0] (by kernel_rfl) (by kernel_rfl)
        replace H := ej1 H; subst H
        exact ⟨rfl, h⟩
    ·
      replace H := ifF c24 H
      refine cond_ff hr (b := (decide (g23 < ((p0.accessLists.length : Nat) : Int)))) (decide_eq_false c24) ?_
      refine wp_exit ?_
      refine then_exit ?_
      refine then_exit ?_
      refine blk_here ?_
      refine then_normal ?_
      refine wp_seq ?_
      refine wp_region_lit ?_
      refine ov hr (.bool true) (by kernel_rfl) ?_; clear hr a; intro a hr
      refine wpList_nil ?_
      refine then_normal ?_
      refine wp_ret ?_
      refine end_ret1 (v := .bool true) rfl hr (by kernel_rfl) ?_
      replace H := ej1 H; subst H
      exact ⟨rfl, h⟩

/-- (*plunder/cells.Arena).outside -/
def cells_Arena_outside_nil (p1 : Int) : Option (Bool) :=
  some true
set_option maxRecDepth 100000 in
set_option maxHeartbeats 4000000 in
theorem cells_Arena_outside_nil_ok {z w : World} {L : List HProp} {p1 : Int} {r0 : Bool} (H : cells_Arena_outside_nil p1 = some r0) (h : Fit z (sepL (L)) w)  :
    Calls Try.prog 65 #[.pointer none, .int .i64 p1] w fun e w => e = .returned (.bool r0) ∧ Fit z (sepL (L)) w := by
  unfold cells_Arena_outside_nil at H
  refine enter Try.func65 rfl 15 rfl rfl [(0, .pointer none), (1, .int .i64 p1)] ⟨rfl, rfl, trivial⟩ ?_
  intro j a hr
  refine wp_seq ?_
  refine wp_region_lit ?_
  refine ov hr (.bool false) (by kernel_rfl) ?_; clear hr a; intro a hr
  refine wpList_nil ?_
  refine then_normal ?_
  refine wp_seq ?_
  refine wp_region_lit ?_
  refine ovs [5, 6, 7] [.pointer none, .bool true, .bool true] hr ⟨rfl, rfl⟩ (by kernel_rfl) ?_; clear hr a; intro a hr
  refine op_off ((wg hr rfl rfl rfl (b' := true) (by kernel_rfl)).trans rfl) rfl rfl hr ?_; clear hr a; intro a hr
  refine op_off ((wg hr rfl rfl rfl (b' := true) (by kernel_rfl)).trans rfl) rfl rfl hr ?_; clear hr a; intro a hr
  refine op_off ((wg hr rfl rfl rfl (b' := true) (by kernel_rfl)).trans rfl) rfl rfl hr ?_; clear hr a; intro a hr
  refine op_off ((wg hr rfl rfl rfl (b' := true) (by kernel_rfl)).trans rfl) rfl rfl hr ?_; clear hr a; intro a hr
  refine op_off ((wg hr rfl rfl rfl (b' := true) (by kernel_rfl)).trans rfl) rfl rfl hr ?_; clear hr a; intro a hr
  refine op_off ((wg hr rfl rfl rfl (b' := true) (by kernel_rfl)).trans rfl) rfl rfl hr ?_; clear hr a; intro a hr
  refine ovs [14, 4] [.bool true, .bool true] hr ⟨rfl, rfl⟩ (by kernel_rfl) ?_; clear hr a; intro a hr
  refine wpList_nil ?_
  refine then_normal ?_
  refine wp_ret ?_
  refine end_ret1 (v := .bool true) rfl hr (by kernel_rfl) ?_
  replace H := ej1 H; subst H
  exact ⟨rfl, h⟩

/-- (*plunder/cells.Arena).Load -/
def cells_Arena_Load_nil (p1 : Int) : Option (Int × Int) :=
  ob1 (cells_Arena_outside_nil p1) (fun r1 => (if r1 = true then some (0, 20) else none))
set_option maxRecDepth 100000 in
set_option maxHeartbeats 4000000 in
theorem cells_Arena_Load_nil_ok {z w : World} {L : List HProp} {p1 : Int} {r0 : Int} {r1 : Int} (H : cells_Arena_Load_nil p1 = some (r0, r1)) (h : Fit z (sepL (L)) w)  :
    Calls Try.prog 66 #[.pointer none, .int .i64 p1] w fun e w => e = .returned (.tuple #[.int .i64 r0, .int .i64 r1]) ∧ Fit z (sepL (L)) w := by
  unfold cells_Arena_Load_nil at H
  refine enter Try.func66 rfl 22 rfl rfl [(0, .pointer none), (1, .int .i64 p1)] ⟨rfl, rfl, trivial⟩ ?_
  intro j a hr
  refine wp_seq ?_
  refine wp_region_lit ?_
  refine ovs [4, 5] [.int .i64 0, .int .i64 0] hr ⟨rfl, rfl⟩ (by kernel_rfl) ?_; clear hr a; intro a hr
  refine wpList_nil ?_
  refine then_normal ?_
  refine wp_seq ?_
  refine wp_seq ?_
  refine wp_region_lit ?_
  replace H := bd1 H; obtain ⟨r1, e2, H⟩ := H
  refine ovs [7, 8] [.pointer none, .int .i64 p1] hr ⟨rfl, rfl⟩ (by kernel_rfl) ?_; clear hr a; intro a hr
  have hc := cells_Arena_outside_nil_ok (H := e2) (h := h)
  refine op_call (wn rfl) rfl rfl hr (f := 65) (args := #[.pointer none, .int .i64 p1]) (by kernel_rfl) hc ?_; clear hc h
  rintro _ w ⟨rfl, h⟩; refine ⟨_, rfl, ?_⟩
  clear hr a; intro a hr
  refine wpList_nil ?_
  refine then_normal ?_
  by_cases c3 : r1 = true
  ·
    replace H := ifT c3 H
    refine cond_tt hr (b := r1) (c3) ?_
    refine wp_seq ?_
    refine wp_region_lit ?_
    refine ovs [4, 5] [.int .i64 0, .int .i64 20] hr ⟨rfl, rfl⟩ (by kernel_rfl) ?_; clear hr a; intro a hr
    refine wpList_nil ?_
    refine then_normal ?_
    refine wp_ret ?_
    refine then_ret ?_
    refine end_ret2 (v := .int .i64 0) (v' := .int .i64 20) rfl hr (by kernel_rfl) (by kernel_rfl) ?_
    replace H := ej2 H; obtain ⟨rfl, rfl⟩ := H
    exact ⟨rfl, h⟩
  ·
    replace H := ifF c3 H
    refine cond_ff hr (b := r1) (bF c3) ?_
    refine wp_skip ?_
    refine then_normal ?_
    refine wp_seq ?_
    refine wp_region_lit ?_
    cases H

/-- (*plunder/cells.Arena).Store -/
def cells_Arena_Store_nil (p1 : Int) (p2 : Int) : Option (Int) :=
  ob1 (cells_Arena_outside_nil p1) (fun r1 => (if r1 = true then some 20 else none))
set_option maxRecDepth 100000 in
set_option maxHeartbeats 4000000 in
theorem cells_Arena_Store_nil_ok {z w : World} {L : List HProp} {p1 : Int} {p2 : Int} {r0 : Int} (H : cells_Arena_Store_nil p1 p2 = some r0) (h : Fit z (sepL (L)) w)  :
    Calls Try.prog 21 #[.pointer none, .int .i64 p1, .int .i64 p2] w fun e w => e = .returned (.int .i64 r0) ∧ Fit z (sepL (L)) w := by
  unfold cells_Arena_Store_nil at H
  refine enter Try.func21 rfl 21 rfl rfl [(0, .pointer none), (1, .int .i64 p1), (2, .int .i64 p2)] ⟨rfl, rfl, rfl, trivial⟩ ?_
  intro j a hr
  refine wp_seq ?_
  refine wp_region_lit ?_
  refine ov hr (.int .i64 0) (by kernel_rfl) ?_; clear hr a; intro a hr
  refine wpList_nil ?_
  refine then_normal ?_
  refine wp_seq ?_
  refine wp_seq ?_
  refine wp_region_lit ?_
  replace H := bd1 H; obtain ⟨r1, e2, H⟩ := H
  refine ovs [7, 8] [.pointer none, .int .i64 p1] hr ⟨rfl, rfl⟩ (by kernel_rfl) ?_; clear hr a; intro a hr
  have hc := cells_Arena_outside_nil_ok (H := e2) (h := h)
  refine op_call (wn rfl) rfl rfl hr (f := 65) (args := #[.pointer none, .int .i64 p1]) (by kernel_rfl) hc ?_; clear hc h
  rintro _ w ⟨rfl, h⟩; refine ⟨_, rfl, ?_⟩
  clear hr a; intro a hr
  refine wpList_nil ?_
  refine then_normal ?_
  by_cases c3 : r1 = true
  ·
    replace H := ifT c3 H
    refine cond_tt hr (b := r1) (c3) ?_
    refine wp_seq ?_
    refine wp_region_lit ?_
    refine ov hr (.int .i64 20) (by kernel_rfl) ?_; clear hr a; intro a hr
    refine wpList_nil ?_
    refine then_normal ?_
    refine wp_ret ?_
    refine then_ret ?_
    refine end_ret1 (v := .int .i64 20) rfl hr (by kernel_rfl) ?_
    replace H := ej1 H; subst H
    exact ⟨rfl, h⟩
  ·
    replace H := ifF c3 H
    refine cond_ff hr (b := r1) (bF c3) ?_
    refine wp_skip ?_
    refine then_normal ?_
    refine wp_seq ?_
    refine wp_region_lit ?_
    cases H

/-- (*plunder/cells.Arena).CAS -/
def cells_Arena_CAS_nil (p1 : Int) (p2 : Int) (p3 : Int) : Option (Bool × Int) :=
  ob1 (cells_Arena_outside_nil p1) (fun r1 => (if r1 = true then some (false, 20) else none))
set_option maxRecDepth 100000 in
set_option maxHeartbeats 4000000 in
theorem cells_Arena_CAS_nil_ok {z w : World} {L : List HProp} {p1 : Int} {p2 : Int} {p3 : Int} {r0 : Bool} {r1 : Int} (H : cells_Arena_CAS_nil p1 p2 p3 = some (r0, r1)) (h : Fit z (sepL (L)) w)  :
    Calls Try.prog 67 #[.pointer none, .int .i64 p1, .int .i64 p2, .int .i64 p3] w fun e w => e = .returned (.tuple #[.bool r0, .int .i64 r1]) ∧ Fit z (sepL (L)) w := by
  unfold cells_Arena_CAS_nil at H
  refine enter Try.func67 rfl 38 rfl rfl [(0, .pointer none), (1, .int .i64 p1), (2, .int .i64 p2), (3, .int .i64 p3)] ⟨rfl, rfl, rfl, rfl, trivial⟩ ?_
  intro j a hr
  refine wp_seq ?_
  refine wp_region_lit ?_
  refine ovs [8, 9] [.bool false, .int .i64 0] hr ⟨rfl, rfl⟩ (by kernel_rfl) ?_; clear hr a; intro a hr
  refine wpList_nil ?_
  refine then_normal ?_
  refine wp_seq ?_
  refine wp_seq ?_
  refine wp_region_lit ?_
  replace H := bd1 H; obtain ⟨r1, e2, H⟩ := H
  refine ovs [11, 12] [.pointer none, .int .i64 p1] hr ⟨rfl, rfl⟩ (by kernel_rfl) ?_; clear hr a; intro a hr
  have hc := cells_Arena_outside_nil_ok (H := e2) (h := h)
  refine op_call (wn rfl) rfl rfl hr (f := 65) (args := #[.pointer none, .int .i64 p1]) (by kernel_rfl) hc ?_; clear hc h
  rintro _ w ⟨rfl, h⟩; refine ⟨_, rfl, ?_⟩
  clear hr a; intro a hr
  refine wpList_nil ?_
  refine then_normal ?_
  by_cases c3 : r1 = true
  ·
    replace H := ifT c3 H
    refine cond_tt hr (b := r1) (c3) ?_
    refine wp_seq ?_
    refine wp_region_lit ?_
    refine ovs [8, 9] [.bool false, .int .i64 20] hr ⟨rfl, rfl⟩ (by kernel_rfl) ?_; clear hr a; intro a hr
    refine wpList_nil ?_
    refine then_normal ?_
    refine wp_ret ?_
    refine then_ret ?_
    refine end_ret2 (v := .bool false) (v' := .int .i64 20) rfl hr (by kernel_rfl) (by kernel_rfl) ?_
    replace H := ej2 H; obtain ⟨rfl, rfl⟩ := H
    exact ⟨rfl, h⟩
  ·
    replace H := ifF c3 H
    refine cond_ff hr (b := r1) (bF c3) ?_
    refine wp_skip ?_
    refine then_normal ?_
    refine wp_seq ?_
    refine wp_region_lit ?_
    cases H

/-- (*plunder/cells.Arena).Add -/
def cells_Arena_Add_nil (p1 : Int) (p2 : Int) : Option (Int × Int) :=
  ob1 (cells_Arena_outside_nil p1) (fun r1 => (if r1 = true then some (0, 20) else none))
set_option maxRecDepth 100000 in
set_option maxHeartbeats 4000000 in
theorem cells_Arena_Add_nil_ok {z w : World} {L : List HProp} {p1 : Int} {p2 : Int} {r0 : Int} {r1 : Int} (H : cells_Arena_Add_nil p1 p2 = some (r0, r1)) (h : Fit z (sepL (L)) w)  :
    Calls Try.prog 68 #[.pointer none, .int .i64 p1, .int .i64 p2] w fun e w => e = .returned (.tuple #[.int .i64 r0, .int .i64 r1]) ∧ Fit z (sepL (L)) w := by
  unfold cells_Arena_Add_nil at H
  refine enter Try.func68 rfl 39 rfl rfl [(0, .pointer none), (1, .int .i64 p1), (2, .int .i64 p2)] ⟨rfl, rfl, rfl, trivial⟩ ?_
  intro j a hr
  refine wp_seq ?_
  refine wp_region_lit ?_
  refine ovs [6, 7] [.int .i64 0, .int .i64 0] hr ⟨rfl, rfl⟩ (by kernel_rfl) ?_; clear hr a; intro a hr
  refine wpList_nil ?_
  refine then_normal ?_
  refine wp_seq ?_
  refine wp_seq ?_
  refine wp_region_lit ?_
  replace H := bd1 H; obtain ⟨r1, e2, H⟩ := H
  refine ovs [8, 9] [.pointer none, .int .i64 p1] hr ⟨rfl, rfl⟩ (by kernel_rfl) ?_; clear hr a; intro a hr
  have hc := cells_Arena_outside_nil_ok (H := e2) (h := h)
  refine op_call (wn rfl) rfl rfl hr (f := 65) (args := #[.pointer none, .int .i64 p1]) (by kernel_rfl) hc ?_; clear hc h
  rintro _ w ⟨rfl, h⟩; refine ⟨_, rfl, ?_⟩
  clear hr a; intro a hr
  refine wpList_nil ?_
  refine then_normal ?_
  by_cases c3 : r1 = true
  ·
    replace H := ifT c3 H
    refine cond_tt hr (b := r1) (c3) ?_
    refine wp_seq ?_
    refine wp_region_lit ?_
    refine ovs [6, 7] [.int .i64 0, .int .i64 20] hr ⟨rfl, rfl⟩ (by kernel_rfl) ?_; clear hr a; intro a hr
    refine wpList_nil ?_
    refine then_normal ?_
    refine wp_ret ?_
    refine then_ret ?_
    refine end_ret2 (v := .int .i64 0) (v' := .int .i64 20) rfl hr (by kernel_rfl) (by kernel_rfl) ?_
    replace H := ej2 H; obtain ⟨rfl, rfl⟩ := H
    exact ⟨rfl, h⟩
  ·
    replace H := ifF c3 H
    refine cond_ff hr (b := r1) (bF c3) ?_
    refine wp_skip ?_
    refine then_normal ?_
    refine wp_seq ?_
    refine wp_region_lit ?_
    cases H

/-- (*plunder/cells.ledger).refuse -/
def cells_ledger_refuse_nil (p1 : Int) : Option (Int) :=
  (if p1 < (1 : Int) then some 21 else some 22)
set_option maxRecDepth 100000 in
set_option maxHeartbeats 4000000 in
theorem cells_ledger_refuse_nil_ok {z w : World} {L : List HProp} {p1 : Int} {r0 : Int} (H : cells_ledger_refuse_nil p1 = some r0) (h : Fit z (sepL (L)) w)  :
    Calls Try.prog 62 #[.pointer none, .int .i64 p1] w fun e w => e = .returned (.int .i64 r0) ∧ Fit z (sepL (L)) w := by
  unfold cells_ledger_refuse_nil at H
  refine enter Try.func62 rfl 22 rfl rfl [(0, .pointer none), (1, .int .i64 p1)] ⟨rfl, rfl, trivial⟩ ?_
  intro j a hr
  refine wp_seq ?_
  refine wp_region_lit ?_
  refine ov hr (.int .i64 0) (by kernel_rfl) ?_; clear hr a; intro a hr
  refine wpList_nil ?_
  refine then_normal ?_
  refine wp_seq ?_
  refine wp_seq ?_
  refine wp_region_lit ?_
  refine ovs [5, 6] [.int .i64 p1, .bool (decide (p1 < (1 : Int)))] hr ⟨rfl, rfl⟩ (by kernel_rfl) ?_; clear hr a; intro a hr
  refine wpList_nil ?_
  refine then_normal ?_
  by_cases c1 : p1 < (1 : Int)
  ·
    replace H := ifT c1 H
    refine cond_tt hr (b := (decide (p1 < (1 : Int)))) (decide_eq_true c1) ?_
    refine wp_seq ?_
    refine wp_region_lit ?_
    refine ov hr (.int .i64 21) (by kernel_rfl) ?_; clear hr a; intro a hr
    refine wpList_nil ?_
    refine then_normal ?_
    refine wp_ret ?_
    refine then_ret ?_
    refine end_ret1 (v := .int .i64 21) rfl hr (by kernel_rfl) ?_
    replace H := ej1 H; subst H
    exact ⟨rfl, h⟩
  ·
    replace H := ifF c1 H
    refine cond_ff hr (b := (decide (p1 < (1 : Int)))) (decide_eq_false c1) ?_
    refine wp_skip ?_
    refine then_normal ?_
    refine wp_seq ?_
    refine wp_seq ?_
    refine reg_E (fun w => True) [] h (by kernel_rfl) ?_; intro w h
    change wpAnyE _ _ _ _ _ _ 15 (Array.replicate 15 false) a w
    refine ev 14 0 rfl (by kernel_rfl) (wn rfl) hr (.pointer none) (fun w => by kernel_rfl) ?_; clear hr a; intro a hr
    refine ev 13 1 rfl (by kernel_rfl) (wn rfl) hr (.bool true) (fun w => by kernel_rfl) ?_; clear hr a; intro a hr
    refine ev 12 2 rfl (by kernel_rfl) (wn rfl) hr (.bool true) (fun w => by kernel_rfl) ?_; clear hr a; intro a hr
    refine eo 11 3 rfl (by kernel_rfl) ((wg hr rfl rfl rfl (b' := true) (by kernel_rfl)).trans rfl) hr ?_; clear hr a; intro a hr
    refine eo 10 4 rfl (by kernel_rfl) ((wg hr rfl rfl rfl (b' := true) (by kernel_rfl)).trans rfl) hr ?_; clear hr a; intro a hr
    refine eo 9 5 rfl (by kernel_rfl) ((wg hr rfl rfl rfl (b' := true) (by kernel_rfl)).trans rfl) hr ?_; clear hr a; intro a hr
    refine eo 8 6 rfl (by kernel_rfl) ((wg hr rfl rfl rfl (b' := true) (by kernel_rfl)).trans rfl) hr ?_; clear hr a; intro a hr
    refine eo 7 8 rfl (by kernel_rfl) ((wg hr rfl rfl rfl (b' := true) (by kernel_rfl)).trans rfl) hr ?_; clear hr a; intro a hr
    refine eo 6 9 rfl (by kernel_rfl) ((wg hr rfl rfl rfl (b' := true) (by kernel_rfl)).trans rfl) hr ?_; clear hr a; intro a hr
    refine eo 5 10 rfl (by kernel_rfl) ((wg hr rfl rfl rfl (b' := true) (by kernel_rfl)).trans rfl) hr ?_; clear hr a; intro a hr
    refine eo 4 7 rfl (by kernel_rfl) ((wg hr rfl rfl rfl (b' := true) (by kernel_rfl)).trans rfl) hr ?_; clear hr a; intro a hr
    refine eo 3 11 rfl (by kernel_rfl) ((wg hr rfl rfl rfl (b' := true) (by kernel_rfl)).trans rfl) hr ?_; clear hr a; intro a hr
    refine eo 2 12 rfl (by kernel_rfl) ((wg hr rfl rfl rfl (b' := true) (by kernel_rfl)).trans rfl) hr ?_; clear hr a; intro a hr
    refine eo 1 13 rfl (by kernel_rfl) ((wg hr rfl rfl rfl (b' := true) (by kernel_rfl)).trans rfl) hr ?_; clear hr a; intro a hr
    refine ev 0 14 rfl (by kernel_rfl) (wn rfl) hr (.bool true) (fun w => by kernel_rfl) ?_; clear hr a; intro a hr
    refine e_end (by kernel_rfl) ?_
    refine then_normal ?_
    refine cond_tt hr (b := true) rfl ?_
    refine wp_seq ?_
    refine wp_region_lit ?_
    refine ov hr (.int .i64 22) (by kernel_rfl) ?_; clear hr a; intro a hr
    refine wpList_nil ?_
    refine then_normal ?_
    refine wp_ret ?_
    refine then_ret ?_
    refine end_ret1 (v := .int .i64 22) rfl hr (by kernel_rfl) ?_
    replace H := ej1 H; subst H
    exact ⟨rfl, h⟩

/-- (*plunder/cells.Arena).Reserve -/
def cells_Arena_Reserve_nil (p1 : Int) : Option (Int × Int) :=
  ob0 (some ()) (ob1 (cells_ledger_refuse_nil p1) (fun r3 => (if r3 = (0 : Int) then none else some (0, r3))))
set_option maxRecDepth 100000 in
set_option maxHeartbeats 4000000 in
theorem cells_Arena_Reserve_nil_ok {z w : World} {L : List HProp} {p1 : Int} {r0 : Int} {r1 : Int} (H : cells_Arena_Reserve_nil p1 = some (r0, r1)) (h : Fit z (sepL (L)) w)  :
    Calls Try.prog 20 #[.pointer none, .int .i64 p1] w fun e w => e = .returned (.tuple #[.int .i64 r0, .int .i64 r1]) ∧ Fit z (sepL (L)) w := by
  unfold cells_Arena_Reserve_nil at H
  refine enter Try.func20 rfl 37 rfl rfl [(0, .pointer none), (1, .int .i64 p1)] ⟨rfl, rfl, trivial⟩ ?_
  intro j a hr
  refine wp_seq ?_
  refine wp_region_lit ?_
  refine ovs [4, 5] [.int .i64 0, .int .i64 0] hr ⟨rfl, rfl⟩ (by kernel_rfl) ?_; clear hr a; intro a hr
  refine wpList_nil ?_
  refine then_normal ?_
  refine wp_seq ?_
  refine wp_region_lit ?_
  refine ov hr (.pointer none) (by kernel_rfl) ?_; clear hr a; intro a hr
  refine wpList_nil ?_
  refine then_normal ?_
  replace H := kd0 H; obtain ⟨o2, H, hK1⟩ := H
  refine cut_rule (β := Unit) (fun _ a w => () = o2 ∧ ∃ j, Rep 37 (lk [(0, .pointer none), (1, .int .i64 p1), (6, .pointer none)] j) a ∧ Fit z (sepL (L)) w) ?_ ?_
  ·
    refine wp_seq ?_
    refine wp_region_lit ?_
    refine ovs [9, 10] [.pointer none, .bool false] hr ⟨rfl, rfl⟩ (by kernel_rfl) ?_; clear hr a; intro a hr
    refine wpList_nil ?_
    refine then_normal ?_
    refine cond_ff hr (b := false) rfl ?_
    refine wp_skip ?_
    refine then_normal ?_
    replace hr := hr.fold2 [(0, .pointer none), (1, .int .i64 p1), (6, .pointer none)] (by kernel_rfl); obtain ⟨j, hr⟩ := hr
    exact ⟨(), sinj H, j, hr, h⟩
  clear h hr a; rintro _ a w ⟨rfl, j, hr, h⟩
  replace H := kk0 hK1
  refine wp_seq ?_
  refine wp_seq ?_
  refine wp_region_lit ?_
  replace H := bd1 H; obtain ⟨r3, e4, H⟩ := H
  refine ovs [14, 15] [.pointer none, .int .i64 p1] hr ⟨rfl, rfl⟩ (by kernel_rfl) ?_; clear hr a; intro a hr
  have hc := cells_ledger_refuse_nil_ok (H := e4) (h := h)
  refine op_call (wn rfl) rfl rfl hr (f := 62) (args := #[.pointer none, .int .i64 p1]) (by kernel_rfl) hc ?_; clear hc h
  rintro _ w ⟨rfl, h⟩; refine ⟨_, rfl, ?_⟩
  clear hr a; intro a hr
  refine ov hr (.int .i64 r3) (by kernel_rfl) ?_; clear hr a; intro a hr
  refine wpList_nil ?_
  refine then_normal ?_
  refine wp_seq ?_
  refine wp_region_lit ?_
  refine ovs [17, 18] [.int .i64 r3, .bool (r3 != (0 : Int))] hr ⟨rfl, rfl⟩ (by kernel_rfl) ?_; clear hr a; intro a hr
  refine wpList_nil ?_
  refine then_normal ?_
  by_cases c5 : r3 = (0 : Int)
  ·
    replace H := ifT c5 H
    refine cond_ff hr (b := (r3 != (0 : Int))) (bne_eq_false_iff_eq.mpr c5) ?_
    refine wp_skip ?_
    refine then_normal ?_
    refine wp_seq ?_
    refine wp_region_lit ?_
    cases H
  ·
    replace H := ifF c5 H
    refine cond_tt hr (b := (r3 != (0 : Int))) (bne_iff_ne.mpr c5) ?_
    refine wp_seq ?_
    refine wp_region_lit ?_
    refine ovs [19, 4, 5] [.int .i64 r3, .int .i64 0, .int .i64 r3] hr ⟨rfl, rfl⟩ (by kernel_rfl) ?_; clear hr a; intro a hr
    refine wpList_nil ?_
    refine then_normal ?_
    refine wp_ret ?_
    refine then_ret ?_
    refine end_ret2 (v := .int .i64 0) (v' := .int .i64 r3) rfl hr (by kernel_rfl) (by kernel_rfl) ?_
    replace H := ej2 H; obtain ⟨rfl, rfl⟩ := H
    exact ⟨rfl, h⟩

/-- plunder/plunderlaw2.done -/
def plunderlaw2_done_nil (p1 : T_plunderlaw2_Move) : Option (T_api_Effect) :=
  (if p1.Kind = (0 : Int) then ob2 (cells_Arena_Load_nil p1.Addr) (fun r4 r5 => some (⟨r4, r5 == (0 : Int), r5⟩ : T_api_Effect)) else (if p1.Kind = (1 : Int) then ob1 (cells_Arena_Store_nil p1.Addr p1.A) (fun r8 => some (⟨0, r8 == (0 : Int), r8⟩ : T_api_Effect)) else (if p1.Kind = (2 : Int) then ob2 (cells_Arena_CAS_nil p1.Addr p1.A p1.B) (fun r11 r12 => some (⟨0, r11, r12⟩ : T_api_Effect)) else (if p1.Kind = (3 : Int) then ob2 (cells_Arena_Add_nil p1.Addr p1.A) (fun r15 r16 => some (⟨r15, r16 == (0 : Int), r16⟩ : T_api_Effect)) else ob2 (cells_Arena_Reserve_nil p1.A) (fun r18 r19 => some (⟨r18, r19 == (0 : Int), r19⟩ : T_api_Effect))))))
set_option maxRecDepth 100000 in
set_option maxHeartbeats 4000000 in
theorem plunderlaw2_done_nil_ok {z w : World} {L : List HProp} {p1 : T_plunderlaw2_Move} {r0 : T_api_Effect} (H : plunderlaw2_done_nil p1 = some r0) (h : Fit z (sepL (L)) w)  :
    Calls Try.prog 22 #[.pointer none, .agg #[.int .i64 p1.Side, .int .i64 p1.Kind, .int .i64 p1.Addr, .int .i64 p1.A, .int .i64 p1.B]] w fun e w => e = .returned (.agg #[.int .i64 r0.V, .bool r0.OK, .int .i64 r0.Err]) ∧ Fit z (sepL (L)) w := by
  unfold plunderlaw2_done_nil at H
  refine enter Try.func22 rfl 86 rfl rfl [(0, .pointer none), (1, .agg #[.int .i64 p1.Side, .int .i64 p1.Kind, .int .i64 p1.Addr, .int .i64 p1.A, .int .i64 p1.B])] ⟨rfl, rfl, trivial⟩ ?_
  intro j a hr
  refine wp_seq ?_
  refine wp_region_lit ?_
  refine op_new (wn rfl) rfl rfl hr h (vf := fun b => .pointer (some ⟨b, 0, none⟩)) (cs := #[.int .i64 p1.Side, .int .i64 p1.Kind, .int .i64 p1.Addr, .int .i64 p1.A, .int .i64 p1.B]) (T := 30) (by kernel_rfl) ?_; clear h hr a; intro b1 w a h hr
  refine op_new (wn rfl) rfl rfl hr h (vf := fun b => .pointer (some ⟨b, 0, none⟩)) (cs := #[.int .i64 0, .bool false, .int .i64 0]) (T := 39) (by kernel_rfl) ?_; clear h hr a; intro b2 w a h hr
  refine wpList_nil ?_
  refine then_normal ?_
  refine wp_seq ?_
  refine wp_seq ?_
  refine wp_region_lit ?_
  refine ov hr (.pointer (some ⟨b1, 1, none⟩)) (by kernel_rfl) ?_; clear hr a; intro a hr
  refine op_val (wn rfl) rfl rfl hr (v := .int .i64 p1.Kind) (rl rfl (by kernel_rfl) (by kernel_rfl) ((h.pick 1).cell 1 rfl)) ?_; clear hr a; intro a hr
  refine wpList_nil ?_
  refine then_normal ?_
  refine wp_block ?_
  refine wp_seq ?_
  refine wp_region_lit ?_
  refine ovs [17, 16] [.bool (p1.Kind == (0 : Int)), .bool (p1.Kind == (0 : Int))] hr ⟨rfl, rfl⟩ (by kernel_rfl) ?_; clear hr a; intro a hr
  refine wpList_nil ?_
  refine then_normal ?_
  by_cases c3 : p1.Kind = (0 : Int)
  ·
    replace H := ifT c3 H
    refine cond_tt hr (b := (p1.Kind == (0 : Int))) (beq_iff_eq.mpr c3) ?_
    refine wp_seq ?_
    refine wp_region_lit ?_
    refine ovs [19, 20] [.pointer none, .pointer (some ⟨b1, 2, none⟩)] hr ⟨rfl, rfl⟩ (by kernel_rfl) ?_; clear hr a; intro a hr
    refine op_val (wn rfl) rfl rfl hr (v := .int .i64 p1.Addr) (rl rfl (by kernel_rfl) (by kernel_rfl) ((h.pick 1).cell 2 rfl)) ?_; clear hr a; intro a hr
    replace H := bd2 H; obtain ⟨r4, r5, e6, H⟩ := H
    have hc := cells_Arena_Load_nil_ok (H := e6) (h := h)
    refine op_call (wn rfl) rfl rfl hr (f := 66) (args := #[.pointer none, .int .i64 p1.Addr]) (by kernel_rfl) hc ?_; clear hc h
    rintro _ w ⟨rfl, h⟩; refine ⟨_, rfl, ?_⟩
    clear hr a; intro a hr
    refine ovs [18, 23, 24, 5, 6] [.tuple #[.int .i64 r4, .int .i64 r5], .int .i64 r4, .int .i64 r5, .int .i64 r4, .int .i64 r5] hr ⟨rfl, rfl⟩ (by kernel_rfl) ?_; clear hr a; intro a hr
    refine wpList_nil ?_
    refine then_normal ?_
    refine wp_seq ?_
    refine wp_region_lit ?_
    refine ovs [25, 26, 27, 28, 29] [.int .i64 r4, .int .i64 r5, .bool (r5 == (0 : Int)), .int .i64 r5, .agg #[.int .i64 r4, .bool (r5 == (0 : Int)), .int .i64 r5]] hr ⟨rfl, rfl⟩ (by kernel_rfl) ?_; clear hr a; intro a hr
    refine op_stores (wn rfl) rfl hr rfl (by kernel_rfl) (by kernel_rfl) (vs := [.int .i64 r4, .bool (r5 == (0 : Int)), .int .i64 r5]) rfl rfl (by kernel_rfl) h (i := 0) (cs' := #[.int .i64 r4, .bool (r5 == (0 : Int)), .int .i64 r5]) rfl ?_; clear h; intro w h
    refine wpList_nil ?_
    replace h : Fit z (sepL (pts b2 (.cells #[.int .i64 r4, .bool (r5 == (0 : Int)), .int .i64 r5] 39) :: ob30 b1 p1 :: L)) _ := h
    refine then_normal ?_
    refine wp_ret ?_
    refine blk_ret ?_
    refine then_ret ?_
    refine end_retC (cs := [.int .i64 r4, .bool (r5 == (0 : Int)), .int .i64 r5]) rfl hr (by kernel_rfl) (by kernel_rfl) (by kernel_rfl) ⟨h.cell 0 rfl, h.cell 1 rfl, h.cell 2 rfl, trivial⟩ ?_
    replace h : Fit z (sepL (L)) _ := h.sel 2 [] (by kernel_rfl) (by kernel_rfl)
    replace H := ej1 H; subst H
    exact ⟨rfl, h⟩
  ·
    replace H := ifF c3 H
    refine cond_ff hr (b := (p1.Kind == (0 : Int))) (beq_eq_false_iff_ne.mpr c3) ?_
    refine wp_seq ?_
    refine wp_region_lit ?_
    refine ovs [31, 30] [.bool (p1.Kind == (1 : Int)), .bool (p1.Kind == (1 : Int))] hr ⟨rfl, rfl⟩ (by kernel_rfl) ?_; clear hr a; intro a hr
    refine wpList_nil ?_
    refine then_normal ?_
    by_cases c7 : p1.Kind = (1 : Int)
    ·
      replace H := ifT c7 H
      refine cond_tt hr (b := (p1.Kind == (1 : Int))) (beq_iff_eq.mpr c7) ?_
      refine wp_seq ?_
      refine wp_region_lit ?_
      refine ovs [32, 33] [.pointer none, .pointer (some ⟨b1, 2, none⟩)] hr ⟨rfl, rfl⟩ (by kernel_rfl) ?_; clear hr a; intro a hr
      refine op_val (wn rfl) rfl rfl hr (v := .int .i64 p1.Addr) (rl rfl (by kernel_rfl) (by kernel_rfl) ((h.pick 1).cell 2 rfl)) ?_; clear hr a; intro a hr
      refine ov hr (.pointer (some ⟨b1, 3, none⟩)) (by kernel_rfl) ?_; clear hr a; intro a hr
      refine op_val (wn rfl) rfl rfl hr (v := .int .i64 p1.A) (rl rfl (by kernel_rfl) (by kernel_rfl) ((h.pick 1).cell 3 rfl)) ?_; clear hr a; intro a hr
      replace H := bd1 H; obtain ⟨r8, e9, H⟩ := H
      have hc := cells_Arena_Store_nil_ok (H := e9) (h := h)
      refine op_call (wn rfl) rfl rfl hr (f := 21) (args := #[.pointer none, .int .i64 p1.Addr, .int .i64 p1.A]) (by kernel_rfl) hc ?_; clear hc h
      rintro _ w ⟨rfl, h⟩; refine ⟨_, rfl, ?_⟩
      clear hr a; intro a hr
      refine ov hr (.int .i64 r8) (by kernel_rfl) ?_; clear hr a; intro a hr
      refine wpList_nil ?_
      refine then_normal ?_
      refine wp_seq ?_
      refine wp_region_lit ?_
      refine ovs [38, 39, 40, 41] [.int .i64 r8, .bool (r8 == (0 : Int)), .int .i64 r8, .agg #[.int .i64 0, .bool (r8 == (0 : Int)), .int .i64 r8]] hr ⟨rfl, rfl⟩ (by kernel_rfl) ?_; clear hr a; intro a hr
      refine op_stores (wn rfl) rfl hr rfl (by kernel_rfl) (by kernel_rfl) (vs := [.int .i64 0, .bool (r8 == (0 : Int)), .int .i64 r8]) rfl rfl (by kernel_rfl) h (i := 0) (cs' := #[.int .i64 0, .bool (r8 == (0 : Int)), .int .i64 r8]) rfl ?_; clear h; intro w h
      refine wpList_nil ?_
      replace h : Fit z (sepL (pts b2 (.cells #[.int .i64 0, .bool (r8 == (0 : Int)), .int .i64 r8] 39) :: ob30 b1 p1 :: L)) _ := h
      refine then_normal ?_
      refine wp_ret ?_
      refine blk_ret ?_
      refine then_ret ?_
      refine end_retC (cs := [.int .i64 0, .bool (r8 == (0 : Int)), .int .i64 r8]) rfl hr (by kernel_rfl) (by kernel_rfl) (by kernel_rfl) ⟨h.cell 0 rfl, h.cell 1 rfl, h.cell 2 rfl, trivial⟩ ?_
      replace h : Fit z (sepL (L)) _ := h.sel 2 [] (by kernel_rfl) (by kernel_rfl)
      replace H := ej1 H; subst H
      exact ⟨rfl, h⟩
    ·
      replace H := ifF c7 H
      refine cond_ff hr (b := (p1.Kind == (1 : Int))) (beq_eq_false_iff_ne.mpr c7) ?_
      refine wp_seq ?_
      refine wp_region_lit ?_
      refine ovs [43, 42] [.bool (p1.Kind == (2 : Int)), .bool (p1.Kind == (2 : Int))] hr ⟨rfl, rfl⟩ (by kernel_rfl) ?_; clear hr a; intro a hr
      refine wpList_nil ?_
      refine then_normal ?_
      by_cases c10 : p1.Kind = (2 : Int)
      ·
        replace H := ifT c10 H
        refine cond_tt hr (b := (p1.Kind == (2 : Int))) (beq_iff_eq.mpr c10) ?_
        refine wp_seq ?_
        refine wp_region_lit ?_
        refine ovs [45, 46] [.pointer none, .pointer (some ⟨b1, 2, none⟩)] hr ⟨rfl, rfl⟩ (by kernel_rfl) ?_; clear hr a; intro a hr
        refine op_val (wn rfl) rfl rfl hr (v := .int .i64 p1.Addr) (rl rfl (by kernel_rfl) (by kernel_rfl) ((h.pick 1).cell 2 rfl)) ?_; clear hr a; intro a hr
        refine ov hr (.pointer (some ⟨b1, 3, none⟩)) (by kernel_rfl) ?_; clear hr a; intro a hr
        refine op_val (wn rfl) rfl rfl hr (v := .int .i64 p1.A) (rl rfl (by kernel_rfl) (by kernel_rfl) ((h.pick 1).cell 3 rfl)) ?_; clear hr a; intro a hr
        refine ov hr (.pointer (some ⟨b1, 4, none⟩)) (by kernel_rfl) ?_; clear hr a; intro a hr
        refine op_val (wn rfl) rfl rfl hr (v := .int .i64 p1.B) (rl rfl (by kernel_rfl) (by kernel_rfl) ((h.pick 1).cell 4 rfl)) ?_; clear hr a; intro a hr
        replace H := bd2 H; obtain ⟨r11, r12, e13, H⟩ := H
        have hc := cells_Arena_CAS_nil_ok (H := e13) (h := h)
        refine op_call (wn rfl) rfl rfl hr (f := 67) (args := #[.pointer none, .int .i64 p1.Addr, .int .i64 p1.A, .int .i64 p1.B]) (by kernel_rfl) hc ?_; clear hc h
        rintro _ w ⟨rfl, h⟩; refine ⟨_, rfl, ?_⟩
        clear hr a; intro a hr
        refine ovs [44, 53, 54, 8, 9] [.tuple #[.bool r11, .int .i64 r12], .bool r11, .int .i64 r12, .bool r11, .int .i64 r12] hr ⟨rfl, rfl⟩ (by kernel_rfl) ?_; clear hr a; intro a hr
        refine wpList_nil ?_
        refine then_normal ?_
        refine wp_seq ?_
        refine wp_region_lit ?_
        refine ovs [55, 56, 57] [.bool r11, .int .i64 r12, .agg #[.int .i64 0, .bool r11, .int .i64 r12]] hr ⟨rfl, rfl⟩ (by kernel_rfl) ?_; clear hr a; intro a hr
        refine op_stores (wn rfl) rfl hr rfl (by kernel_rfl) (by kernel_rfl) (vs := [.int .i64 0, .bool r11, .int .i64 r12]) rfl rfl (by kernel_rfl) h (i := 0) (cs' := #[.int .i64 0, .bool r11, .int .i64 r12]) rfl ?_; clear h; intro w h
        refine wpList_nil ?_
        replace h : Fit z (sepL (pts b2 (.cells #[.int .i64 0, .bool r11, .int .i64 r12] 39) :: ob30 b1 p1 :: L)) _ := h
        refine then_normal ?_
        refine wp_ret ?_
        refine blk_ret ?_
        refine then_ret ?_
        refine end_retC (cs := [.int .i64 0, .bool r11, .int .i64 r12]) rfl hr (by kernel_rfl) (by kernel_rfl) (by kernel_rfl) ⟨h.cell 0 rfl, h.cell 1 rfl, h.cell 2 rfl, trivial⟩ ?_
        replace h : Fit z (sepL (L)) _ := h.sel 2 [] (by kernel_rfl) (by kernel_rfl)
        replace H := ej1 H; subst H
        exact ⟨rfl, h⟩
      ·
        replace H := ifF c10 H
        refine cond_ff hr (b := (p1.Kind == (2 : Int))) (beq_eq_false_iff_ne.mpr c10) ?_
        refine wp_seq ?_
        refine wp_region_lit ?_
        refine ovs [59, 58] [.bool (p1.Kind == (3 : Int)), .bool (p1.Kind == (3 : Int))] hr ⟨rfl, rfl⟩ (by kernel_rfl) ?_; clear hr a; intro a hr
        refine wpList_nil ?_
        refine then_normal ?_
        by_cases c14 : p1.Kind = (3 : Int)
        ·
          replace H := ifT c14 H
          refine cond_tt hr (b := (p1.Kind == (3 : Int))) (beq_iff_eq.mpr c14) ?_
          refine wp_seq ?_
          refine wp_region_lit ?_
          refine ovs [61, 62] [.pointer none, .pointer (some ⟨b1, 2, none⟩)] hr ⟨rfl, rfl⟩ (by kernel_rfl) ?_; clear hr a; intro a hr
          refine op_val (wn rfl) rfl rfl hr (v := .int .i64 p1.Addr) (rl rfl (by kernel_rfl) (by kernel_rfl) ((h.pick 1).cell 2 rfl)) ?_; clear hr a; intro a hr
          refine ov hr (.pointer (some ⟨b1, 3, none⟩)) (by kernel_rfl) ?_; clear hr a; intro a hr
          refine op_val (wn rfl) rfl rfl hr (v := .int .i64 p1.A) (rl rfl (by kernel_rfl) (by kernel_rfl) ((h.pick 1).cell 3 rfl)) ?_; clear hr a; intro a hr
          replace H := bd2 H; obtain ⟨r15, r16, e17, H⟩ := H
          have hc := cells_Arena_Add_nil_ok (H := e17) (h := h)
          refine op_call (wn rfl) rfl rfl hr (f := 68) (args := #[.pointer none, .int .i64 p1.Addr, .int .i64 p1.A]) (by kernel_rfl) hc ?_; clear hc h
          rintro _ w ⟨rfl, h⟩; refine ⟨_, rfl, ?_⟩
          clear hr a; intro a hr
          refine ovs [60, 67, 68, 10, 11] [.tuple #[.int .i64 r15, .int .i64 r16], .int .i64 r15, .int .i64 r16, .int .i64 r15, .int .i64 r16] hr ⟨rfl, rfl⟩ (by kernel_rfl) ?_; clear hr a; intro a hr
          refine wpList_nil ?_
          refine then_normal ?_
          refine wp_seq ?_
          refine wp_region_lit ?_
          refine ovs [69, 70, 71, 72, 73] [.int .i64 r15, .int .i64 r16, .bool (r16 == (0 : Int)), .int .i64 r16, .agg #[.int .i64 r15, .bool (r16 == (0 : Int)), .int .i64 r16]] hr ⟨rfl, rfl⟩ (by kernel_rfl) ?_; clear hr a; intro a hr
          refine op_stores (wn rfl) rfl hr rfl (by kernel_rfl) (by kernel_rfl) (vs := [.int .i64 r15, .bool (r16 == (0 : Int)), .int .i64 r16]) rfl rfl (by kernel_rfl) h (i := 0) (cs' := #[.int .i64 r15, .bool (r16 == (0 : Int)), .int .i64 r16]) rfl ?_; clear h; intro w h
          refine wpList_nil ?_
          replace h : Fit z (sepL (pts b2 (.cells #[.int .i64 r15, .bool (r16 == (0 : Int)), .int .i64 r16] 39) :: ob30 b1 p1 :: L)) _ := h
          refine then_normal ?_
          refine wp_ret ?_
          refine blk_ret ?_
          refine then_ret ?_
          refine end_retC (cs := [.int .i64 r15, .bool (r16 == (0 : Int)), .int .i64 r16]) rfl hr (by kernel_rfl) (by kernel_rfl) (by kernel_rfl) ⟨h.cell 0 rfl, h.cell 1 rfl, h.cell 2 rfl, trivial⟩ ?_
          replace h : Fit z (sepL (L)) _ := h.sel 2 [] (by kernel_rfl) (by kernel_rfl)
          replace H := ej1 H; subst H
          exact ⟨rfl, h⟩
        ·
          replace H := ifF c14 H
          refine cond_ff hr (b := (p1.Kind == (3 : Int))) (beq_eq_false_iff_ne.mpr c14) ?_
          refine wp_skip ?_
          refine blk_normal ?_
          refine then_normal ?_
          refine wp_seq ?_
          refine wp_region_lit ?_
          refine ovs [75, 76] [.pointer none, .pointer (some ⟨b1, 3, none⟩)] hr ⟨rfl, rfl⟩ (by kernel_rfl) ?_; clear hr a; intro a hr
          refine op_val (wn rfl) rfl rfl hr (v := .int .i64 p1.A) (rl rfl (by kernel_rfl) (by kernel_rfl) ((h.pick 1).cell 3 rfl)) ?_; clear hr a; intro a hr
          replace H := bd2 H; obtain ⟨r18, r19, e20, H⟩ := H
          have hc := cells_Arena_Reserve_nil_ok (H := e20) (h := h)
          refine op_call (wn rfl) rfl rfl hr (f := 20) (args := #[.pointer none, .int .i64 p1.A]) (by kernel_rfl) hc ?_; clear hc h
          rintro _ w ⟨rfl, h⟩; refine ⟨_, rfl, ?_⟩
          clear hr a; intro a hr
          refine ovs [74, 79, 80, 12, 13] [.tuple #[.int .i64 r18, .int .i64 r19], .int .i64 r18, .int .i64 r19, .int .i64 r18, .int .i64 r19] hr ⟨rfl, rfl⟩ (by kernel_rfl) ?_; clear hr a; intro a hr
          refine wpList_nil ?_
          refine then_normal ?_
          refine wp_seq ?_
          refine wp_region_lit ?_
          refine ovs [81, 82, 83, 84, 85] [.int .i64 r18, .int .i64 r19, .bool (r19 == (0 : Int)), .int .i64 r19, .agg #[.int .i64 r18, .bool (r19 == (0 : Int)), .int .i64 r19]] hr ⟨rfl, rfl⟩ (by kernel_rfl) ?_; clear hr a; intro a hr
          refine op_stores (wn rfl) rfl hr rfl (by kernel_rfl) (by kernel_rfl) (vs := [.int .i64 r18, .bool (r19 == (0 : Int)), .int .i64 r19]) rfl rfl (by kernel_rfl) h (i := 0) (cs' := #[.int .i64 r18, .bool (r19 == (0 : Int)), .int .i64 r19]) rfl ?_; clear h; intro w h
          refine wpList_nil ?_
          replace h : Fit z (sepL (pts b2 (.cells #[.int .i64 r18, .bool (r19 == (0 : Int)), .int .i64 r19] 39) :: ob30 b1 p1 :: L)) _ := h
          refine then_normal ?_
          refine wp_ret ?_
          refine end_retC (cs := [.int .i64 r18, .bool (r19 == (0 : Int)), .int .i64 r19]) rfl hr (by kernel_rfl) (by kernel_rfl) (by kernel_rfl) ⟨h.cell 0 rfl, h.cell 1 rfl, h.cell 2 rfl, trivial⟩ ?_
          replace h : Fit z (sepL (L)) _ := h.sel 2 [] (by kernel_rfl) (by kernel_rfl)
          replace H := ej1 H; subst H
          exact ⟨rfl, h⟩

/-- (*plunder/cells.Arena).Watch -/
def cells_Arena_Watch_nil (p1 : Bool) : Option (Unit) :=
  some ()
set_option maxRecDepth 100000 in
set_option maxHeartbeats 4000000 in
theorem cells_Arena_Watch_nil_ok {z w : World} {L : List HProp} {p1 : Bool} (H : cells_Arena_Watch_nil p1 = some ()) (h : Fit z (sepL (L)) w)  :
    Calls Try.prog 88 #[.pointer none, .bool p1] w fun e w => e = .returned (.tuple #[]) ∧ Fit z (sepL (L)) w := by
  unfold cells_Arena_Watch_nil at H
  refine enter Try.func88 rfl 10 rfl rfl [(0, .pointer none), (1, .bool p1)] ⟨rfl, rfl, trivial⟩ ?_
  intro j a hr
  refine wp_seq ?_
  refine wp_region_lit ?_
  refine ovs [4, 5] [.pointer none, .bool false] hr ⟨rfl, rfl⟩ (by kernel_rfl) ?_; clear hr a; intro a hr
  refine wpList_nil ?_
  refine then_normal ?_
  refine cond_ff hr (b := false) rfl ?_
  refine wp_skip ?_
  refine end_norm0 rfl hr ?_
  cases H
  exact ⟨rfl, h⟩

/-- (*plunder/cells.Arena).Who -/
def cells_Arena_Who_nil (p1 : Int) : Option (Unit) :=
  some ()
set_option maxRecDepth 100000 in
set_option maxHeartbeats 4000000 in
theorem cells_Arena_Who_nil_ok {z w : World} {L : List HProp} {p1 : Int} (H : cells_Arena_Who_nil p1 = some ()) (h : Fit z (sepL (L)) w)  :
    Calls Try.prog 96 #[.pointer none, .int .i64 p1] w fun e w => e = .returned (.tuple #[]) ∧ Fit z (sepL (L)) w := by
  unfold cells_Arena_Who_nil at H
  refine enter Try.func96 rfl 10 rfl rfl [(0, .pointer none), (1, .int .i64 p1)] ⟨rfl, rfl, trivial⟩ ?_
  intro j a hr
  refine wp_seq ?_
  refine wp_region_lit ?_
  refine ovs [4, 5] [.pointer none, .bool false] hr ⟨rfl, rfl⟩ (by kernel_rfl) ?_; clear hr a; intro a hr
  refine wpList_nil ?_
  refine then_normal ?_
  refine cond_ff hr (b := false) rfl ?_
  refine wp_skip ?_
  refine end_norm0 rfl hr ?_
  cases H
  exact ⟨rfl, h⟩

/-- (*plunder/cells.Arena).Size -/
def cells_Arena_Size_nil : Option (Int) :=
  some 0
set_option maxRecDepth 100000 in
set_option maxHeartbeats 4000000 in
theorem cells_Arena_Size_nil_ok {z w : World} {L : List HProp}  {r0 : Int} (H : cells_Arena_Size_nil = some r0) (h : Fit z (sepL (L)) w)  :
    Calls Try.prog 97 #[.pointer none] w fun e w => e = .returned (.int .i64 r0) ∧ Fit z (sepL (L)) w := by
  unfold cells_Arena_Size_nil at H
  refine enter Try.func97 rfl 9 rfl rfl [(0, .pointer none)] ⟨rfl, trivial⟩ ?_
  intro j a hr
  refine wp_seq ?_
  refine wp_region_lit ?_
  refine ov hr (.int .i64 0) (by kernel_rfl) ?_; clear hr a; intro a hr
  refine wpList_nil ?_
  refine then_normal ?_
  refine wp_seq ?_
  refine wp_seq ?_
  refine wp_region_lit ?_
  refine ovs [3, 4] [.pointer none, .bool true] hr ⟨rfl, rfl⟩ (by kernel_rfl) ?_; clear hr a; intro a hr
  refine wpList_nil ?_
  refine then_normal ?_
  refine cond_tt hr (b := true) rfl ?_
  refine wp_seq ?_
  refine wp_region_lit ?_
  refine ov hr (.int .i64 0) (by kernel_rfl) ?_; clear hr a; intro a hr
  refine wpList_nil ?_
  refine then_normal ?_
  refine wp_ret ?_
  refine then_ret ?_
  refine end_ret1 (v := .int .i64 0) rfl hr (by kernel_rfl) ?_
  replace H := ej1 H; subst H
  exact ⟨rfl, h⟩

/-- (*plunder/cells.Arena).Mark -/
def cells_Arena_Mark_nil : Option (Int) :=
  some 0
set_option maxRecDepth 100000 in
set_option maxHeartbeats 4000000 in
theorem cells_Arena_Mark_nil_ok {z w : World} {L : List HProp}  {r0 : Int} (H : cells_Arena_Mark_nil = some r0) (h : Fit z (sepL (L)) w)  :
    Calls Try.prog 98 #[.pointer none] w fun e w => e = .returned (.int .i64 r0) ∧ Fit z (sepL (L)) w := by
  unfold cells_Arena_Mark_nil at H
  refine enter Try.func98 rfl 9 rfl rfl [(0, .pointer none)] ⟨rfl, trivial⟩ ?_
  intro j a hr
  refine wp_seq ?_
  refine wp_region_lit ?_
  refine ov hr (.int .i64 0) (by kernel_rfl) ?_; clear hr a; intro a hr
  refine wpList_nil ?_
  refine then_normal ?_
  refine wp_seq ?_
  refine wp_seq ?_
  refine wp_region_lit ?_
  refine ovs [3, 4] [.pointer none, .bool true] hr ⟨rfl, rfl⟩ (by kernel_rfl) ?_; clear hr a; intro a hr
  refine wpList_nil ?_
  refine then_normal ?_
  refine cond_tt hr (b := true) rfl ?_
  refine wp_seq ?_
  refine wp_region_lit ?_
  refine ov hr (.int .i64 0) (by kernel_rfl) ?_; clear hr a; intro a hr
  refine wpList_nil ?_
  refine then_normal ?_
  refine wp_ret ?_
  refine then_ret ?_
  refine end_ret1 (v := .int .i64 0) rfl hr (by kernel_rfl) ?_
  replace H := ej1 H; subst H
  exact ⟨rfl, h⟩

/-- (*plunder/cells.Arena).Cells -/
def cells_Arena_Cells_nil : Option ((List Int)) :=
  some ([] : List Int)
set_option maxRecDepth 100000 in
set_option maxHeartbeats 4000000 in
theorem cells_Arena_Cells_nil_ok {z w : World} {L : List HProp}  {r0 : List Int} (H : cells_Arena_Cells_nil = some r0) (h : Fit z (sepL (L)) w)  :
    Calls Try.prog 24 #[.pointer none] w fun e w => ∃ car0_1 : Option Addr, e = .returned (.slice car0_1 r0.length r0.length) ∧ Fit z (sepL (ro2 car0_1 r0.length r0 :: L)) w := by
  unfold cells_Arena_Cells_nil at H
  refine enter Try.func24 rfl 19 rfl rfl [(0, .pointer none)] ⟨rfl, trivial⟩ ?_
  intro j a hr
  refine wp_seq ?_
  refine wp_region_lit ?_
  refine ov hr (.slice none 0 0) (by kernel_rfl) ?_; clear hr a; intro a hr
  refine wpList_nil ?_
  refine then_normal ?_
  refine wp_seq ?_
  refine wp_seq ?_
  refine wp_region_lit ?_
  refine ovs [4, 5] [.pointer none, .bool true] hr ⟨rfl, rfl⟩ (by kernel_rfl) ?_; clear hr a; intro a hr
  refine wpList_nil ?_
  refine then_normal ?_
  refine cond_tt hr (b := true) rfl ?_
  refine wp_seq ?_
  refine wp_region_lit ?_
  refine ov hr (.slice none 0 0) (by kernel_rfl) ?_; clear hr a; intro a hr
  refine wpList_nil ?_
  refine then_normal ?_
  refine wp_ret ?_
  refine then_ret ?_
  refine end_ret1 (v := .slice none 0 0) rfl hr (by kernel_rfl) ?_
  replace h : Fit z (sepL (rowOf 2 1 encZ_i64 (.slice none 0 0) ([] : List Int) :: L)) _ := h.row_nil
  replace H := ej1 H; subst H
  exact ⟨none, rfl, h⟩

/-- (*plunder/cells.Arena).Log -/
def cells_Arena_Log_nil : Option ((List T_api_Access)) :=
  some ([] : List T_api_Access)
set_option maxRecDepth 100000 in
set_option maxHeartbeats 4000000 in
theorem cells_Arena_Log_nil_ok {z w : World} {L : List HProp}  {r0 : List T_api_Access} (H : cells_Arena_Log_nil = some r0) (h : Fit z (sepL (L)) w)  :
    Calls Try.prog 70 #[.pointer none] w fun e w => ∃ car0_1 : Option Addr, e = .returned (.slice car0_1 r0.length r0.length) ∧ Fit z (sepL (ro90 car0_1 r0.length r0 :: L)) w := by
  unfold cells_Arena_Log_nil at H
  refine enter Try.func70 rfl 19 rfl rfl [(0, .pointer none)] ⟨rfl, trivial⟩ ?_
  intro j a hr
  refine wp_seq ?_
  refine wp_region_lit ?_
  refine ov hr (.slice none 0 0) (by kernel_rfl) ?_; clear hr a; intro a hr
  refine wpList_nil ?_
  refine then_normal ?_
  refine wp_seq ?_
  refine wp_seq ?_
  refine wp_region_lit ?_
  refine ovs [4, 5] [.pointer none, .bool true] hr ⟨rfl, rfl⟩ (by kernel_rfl) ?_; clear hr a; intro a hr
  refine wpList_nil ?_
  refine then_normal ?_
  refine cond_tt hr (b := true) rfl ?_
  refine wp_seq ?_
  refine wp_region_lit ?_
  refine ov hr (.slice none 0 0) (by kernel_rfl) ?_; clear hr a; intro a hr
  refine wpList_nil ?_
  refine then_normal ?_
  refine wp_ret ?_
  refine then_ret ?_
  refine end_ret1 (v := .slice none 0 0) rfl hr (by kernel_rfl) ?_
  replace h : Fit z (sepL (rowOf 90 6 enc_T_api_Access (.slice none 0 0) ([] : List T_api_Access) :: L)) _ := h.row_nil
  replace H := ej1 H; subst H
  exact ⟨none, rfl, h⟩

/-- plunder/plunderlaw2.plays -/
def plunderlaw2_plays_nil (K : Nat) (p1 : T_plunderref2_Arena) (p2 : T_plunderlaw2_Move) (p3 : T_plunderlaw2_book) : Option (Bool × T_plunderref2_Arena × T_plunderlaw2_book) :=
  jn0 (ob1 ((if p2.Kind ≥ (0 : Int) then some (decide (p2.Kind ≤ (4 : Int))) else some false)) (fun g12 => (if g12 = true then ob1 (plunderlaw2_done_nil p2) (fun r17 => ob1 (plunderlaw2_act p2) (fun r20 => ob2 (plunderref2_Arena_Do K p1 r20) (fun r22 S23 => some (.inr (decide (r17 = r22), S23, p3))))) else some (.inl ())))) ((if p2.Kind = (5 : Int) then ob1 (plunderlaw2_mod p2.A 2) (fun r31 => ob0 (cells_Arena_Watch_nil (r31 == (1 : Int))) (ob1 (plunderlaw2_mod p2.A 2) (fun r34 => some (true, { p1 with On := r34 == (1 : Int) }, p3)))) else (if p2.Kind = (6 : Int) then ob0 (cells_Arena_Who_nil p2.Addr) (some (true, { p1 with Actor := p2.Addr }, p3)) else (if p2.Kind = (7 : Int) then ob1 (cells_Arena_Size_nil) (fun r39 => some (r39 == p1.Most, p1, p3)) else (if p2.Kind = (8 : Int) then ob1 (cells_Arena_Mark_nil) (fun r42 => some (r42 == ((p1.Held.length : Nat) : Int), p1, p3)) else (if p2.Kind = (9 : Int) then ob1 (cells_Arena_Cells_nil) (fun r45 => ob1 (plunderlaw2_sameNumbers K r45 p1.Held) (fun r48 => ob1 (plunderlaw2_book_numbers K p3 r45) (fun S50 => some (r48, p1, S50)))) else (if p2.Kind = (10 : Int) then ob1 (cells_Arena_Log_nil) (fun r57 => ob1 (plunderlaw2_sameLog K r57 p1.Book) (fun r60 => ob1 (plunderlaw2_book_accesses K p3 r57) (fun S62 => some (r60, p1, S62)))) else some (true, p1, p3))))))))
set_option maxRecDepth 100000 in
set_option maxHeartbeats 4000000 in
theorem plunderlaw2_plays_nil_ok {z w : World} {L : List HProp} {K : Nat} {p1 : T_plunderref2_Arena} {p2 : T_plunderlaw2_Move} {p3 : T_plunderlaw2_book} {B1 : Nat} {ca1 : Option Addr} {cc2 : Nat} {ca3 : Option Addr} {cc4 : Nat} {B3 : Nat} {ca5 : Option Addr} {cc6 : Nat} {ca7 : Option Addr} {cc8 : Nat} {r0 : Bool} {q1 : T_plunderref2_Arena} {q3 : T_plunderlaw2_book} (H : plunderlaw2_plays_nil K p1 p2 p3 = some (r0, q1, q3)) (h : Fit z (sepL (ob62 B1 p1 ca1 cc2 ca3 cc4 :: ro2 ca1 cc2 p1.Held :: ro90 ca3 cc4 p1.Book :: ob78 B3 p3 ca5 cc6 ca7 cc8 :: rn139 ca5 cc6 p3.numberLists :: rn142 ca7 cc8 p3.accessLists :: L)) w)  :
    Calls Try.prog 69 #[.pointer none, .pointer (some ⟨B1, 0, none⟩), .agg #[.int .i64 p2.Side, .int .i64 p2.Kind, .int .i64 p2.Addr, .int .i64 p2.A, .int .i64 p2.B], .pointer (some ⟨B3, 0, none⟩)] w fun e w => ∃ caq1_1 : Option Addr, ∃ ccq1_2 : Nat, ∃ caq1_3 : Option Addr, ∃ ccq1_4 : Nat, ∃ caq3_1 : Option Addr, ∃ ccq3_2 : Nat, ∃ caq3_3 : Option Addr, ∃ ccq3_4 : Nat, e = .returned (.bool r0) ∧ Fit z (sepL (ob62 B1 q1 caq1_1 ccq1_2 caq1_3 ccq1_4 :: ro2 caq1_1 ccq1_2 q1.Held :: ro90 caq1_3 ccq1_4 q1.Book :: ob78 B3 q3 caq3_1 ccq3_2 caq3_3 ccq3_4 :: rn139 caq3_1 ccq3_2 q3.numberLists :: rn142 caq3_3 ccq3_4 q3.accessLists :: L)) w := by
  unfold plunderlaw2_plays_nil at H
  refine enter Try.func69 rfl 108 rfl rfl [(0, .pointer none), (1, .pointer (some ⟨B1, 0, none⟩)), (2, .agg #[.int .i64 p2.Side, .int .i64 p2.Kind, .int .i64 p2.Addr, .int .i64 p2.A, .int .i64 p2.B]), (3, .pointer (some ⟨B3, 0, none⟩))] ⟨rfl, rfl, rfl, rfl, trivial⟩ ?_
  intro j a hr
  refine wp_seq ?_
  refine wp_region_lit ?_
  refine op_new (wn rfl) rfl rfl hr h (vf := fun b => .pointer (some ⟨b, 0, none⟩)) (cs := #[.int .i64 p2.Side, .int .i64 p2.Kind, .int .i64 p2.Addr, .int .i64 p2.A, .int .i64 p2.B]) (T := 30) (by kernel_rfl) ?_; clear h hr a; intro b9 w a h hr
  refine ov hr (.bool false) (by kernel_rfl) ?_; clear hr a; intro a hr
  refine wpList_nil ?_
  refine then_normal ?_
  replace H := jd0 H; obtain ⟨o11, H, hK10⟩ := H
  refine cut_rule (β := Unit) (fun _ a w => .inl () = o11 ∧ ∃ j, Rep 108 (lk [(0, .pointer none), (1, .pointer (some ⟨B1, 0, none⟩)), (3, .pointer (some ⟨B3, 0, none⟩)), (6, .pointer (some ⟨b9, 0, none⟩))] j) a ∧ Fit z (sepL (ob62 B1 p1 ca1 cc2 ca3 cc4 :: ro2 ca1 cc2 p1.Held :: ro90 ca3 cc4 p1.Book :: ob78 B3 p3 ca5 cc6 ca7 cc8 :: rn139 ca5 cc6 p3.numberLists :: rn142 ca7 cc8 p3.accessLists :: ob30 b9 p2 :: L)) w) ?_ ?_
  ·
    replace H := kd1 H; obtain ⟨o14, H, hK13⟩ := H
    refine cut_rule (β := Unit) (fun _ a w => ∃ g12 : Bool, g12 = o14 ∧ ∃ j, Rep 108 (lk [(0, .pointer none), (1, .pointer (some ⟨B1, 0, none⟩)), (3, .pointer (some ⟨B3, 0, none⟩)), (6, .pointer (some ⟨b9, 0, none⟩)), (22, .bool g12)] j) a ∧ Fit z (sepL (ob62 B1 p1 ca1 cc2 ca3 cc4 :: ro2 ca1 cc2 p1.Held :: ro90 ca3 cc4 p1.Book :: ob78 B3 p3 ca5 cc6 ca7 cc8 :: rn139 ca5 cc6 p3.numberLists :: rn142 ca7 cc8 p3.accessLists :: ob30 b9 p2 :: L)) w) ?_ ?_
    ·
      refine wp_region_lit ?_
      refine ov hr (.pointer (some ⟨b9, 1, none⟩)) (by kernel_rfl) ?_; clear hr a; intro a hr
      refine op_val (wn rfl) rfl rfl hr (v := .int .i64 p2.Kind) (rl rfl (by kernel_rfl) (by kernel_rfl) (h.cell 1 rfl)) ?_; clear hr a; intro a hr
      refine ovs [17, 18] [.bool (decide (p2.Kind ≥ (0 : Int))), .bool (decide (p2.Kind ≥ (0 : Int)))] hr ⟨rfl, rfl⟩ (by kernel_rfl) ?_; clear hr a; intro a hr
      by_cases c15 : p2.Kind ≥ (0 : Int)
      ·
        replace H := ifT c15 H
        refine op_val ((wg hr rfl rfl rfl (b' := (decide (p2.Kind ≥ (0 : Int)))) (by kernel_rfl)).trans (by rw [show (decide (p2.Kind ≥ (0 : Int))) = true from (decide_eq_true c15)]; rfl)) rfl rfl hr (v := .pointer (some ⟨b9, 1, none⟩)) (by kernel_rfl) ?_; clear hr a; intro a hr
        refine op_val ((wg hr rfl rfl rfl (b' := (decide (p2.Kind ≥ (0 : Int)))) (by kernel_rfl)).trans (by rw [show (decide (p2.Kind ≥ (0 : Int))) = true from (decide_eq_true c15)]; rfl)) rfl rfl hr (v := .int .i64 p2.Kind) (rl rfl (by kernel_rfl) (by kernel_rfl) (h.cell 1 rfl)) ?_; clear hr a; intro a hr
        refine op_val ((wg hr rfl rfl rfl (b' := (decide (p2.Kind ≥ (0 : Int)))) (by kernel_rfl)).trans (by rw [show (decide (p2.Kind ≥ (0 : Int))) = true from (decide_eq_true c15)]; rfl)) rfl rfl hr (v := .bool (decide (p2.Kind ≤ (4 : Int)))) (by kernel_rfl) ?_; clear hr a; intro a hr
        refine op_val (wn rfl) rfl rfl hr (v := .bool (decide (p2.Kind ≤ (4 : Int)))) (rp_t (b := (decide (p2.Kind ≥ (0 : Int)))) rfl (by kernel_rfl) (decide_eq_true c15) (by kernel_rfl)) ?_; clear hr a; intro a hr
        refine wpList_nil ?_
        refine then_normal ?_
        replace hr := hr.fold2 [(0, .pointer none), (1, .pointer (some ⟨B1, 0, none⟩)), (3, .pointer (some ⟨B3, 0, none⟩)), (6, .pointer (some ⟨b9, 0, none⟩)), (22, .bool (decide (p2.Kind ≤ (4 : Int))))] (by kernel_rfl); obtain ⟨j, hr⟩ := hr
        replace h : Fit z (sepL (ob62 B1 p1 ca1 cc2 ca3 cc4 :: ro2 ca1 cc2 p1.Held :: ro90 ca3 cc4 p1.Book :: ob78 B3 p3 ca5 cc6 ca7 cc8 :: rn139 ca5 cc6 p3.numberLists :: rn142 ca7 cc8 p3.accessLists :: ob30 b9 p2 :: L)) _ := h.sel 7 [1, 2, 3, 4, 5, 6, 0] (by kernel_rfl) (by kernel_rfl)
        exact ⟨(), (decide (p2.Kind ≤ (4 : Int))), sinj H, j, hr, h⟩
      ·
        replace H := ifF c15 H
        refine op_off ((wg hr rfl rfl rfl (b' := (decide (p2.Kind ≥ (0 : Int)))) (by kernel_rfl)).trans (by rw [show (decide (p2.Kind ≥ (0 : Int))) = false from (decide_eq_false c15)]; rfl)) rfl rfl hr ?_; clear hr a; intro a hr
        refine op_off ((wg hr rfl rfl rfl (b' := (decide (p2.Kind ≥ (0 : Int)))) (by kernel_rfl)).trans (by rw [show (decide (p2.Kind ≥ (0 : Int))) = false from (decide_eq_false c15)]; rfl)) rfl rfl hr ?_; clear hr a; intro a hr
        refine op_off ((wg hr rfl rfl rfl (b' := (decide (p2.Kind ≥ (0 : Int)))) (by kernel_rfl)).trans (by rw [show (decide (p2.Kind ≥ (0 : Int))) = false from (decide_eq_false c15)]; rfl)) rfl rfl hr ?_; clear hr a; intro a hr
        refine op_val (wn rfl) rfl rfl hr (v := .bool false) (rp_f (b := (decide (p2.Kind ≥ (0 : Int)))) rfl (by kernel_rfl) (decide_eq_false c15) (by kernel_rfl)) ?_; clear hr a; intro a hr
        refine wpList_nil ?_
        refine then_normal ?_
        replace hr := hr.fold2 [(0, .pointer none), (1, .pointer (some ⟨B1, 0, none⟩)), (3, .pointer (some ⟨B3, 0, none⟩)), (6, .pointer (some ⟨b9, 0, none⟩)), (22, .bool false)] (by kernel_rfl); obtain ⟨j, hr⟩ := hr
        replace h : Fit z (sepL (ob62 B1 p1 ca1 cc2 ca3 cc4 :: ro2 ca1 cc2 p1.Held :: ro90 ca3 cc4 p1.Book :: ob78 B3 p3 ca5 cc6 ca7 cc8 :: rn139 ca5 cc6 p3.numberLists :: rn142 ca7 cc8 p3.accessLists :: ob30 b9 p2 :: L)) _ := h.sel 7 [1, 2, 3, 4, 5, 6, 0] (by kernel_rfl) (by kernel_rfl)
        exact ⟨(), false, sinj H, j, hr, h⟩
    clear h hr a; rintro _ a w ⟨g12, rfl, j, hr, h⟩
    replace H := kk1 hK13
    by_cases c16 : g12 = true
    ·
      replace H := ifT c16 H
      refine cond_tt hr (b := g12) (c16) ?_
      refine wp_seq ?_
      refine wp_region_lit ?_
      refine ov hr (.pointer none) (by kernel_rfl) ?_; clear hr a; intro a hr
      refine op_val (wn rfl) rfl rfl hr (v := .agg #[.int .i64 p2.Side, .int .i64 p2.Kind, .int .i64 p2.Addr, .int .i64 p2.A, .int .i64 p2.B]) (rlm (cs := [.int .i64 p2.Side, .int .i64 p2.Kind, .int .i64 p2.Addr, .int .i64 p2.A, .int .i64 p2.B]) rfl (by kernel_rfl) (by kernel_rfl) (by kernel_rfl) ⟨(h.pick 6).cell 0 rfl, (h.pick 6).cell 1 rfl, (h.pick 6).cell 2 rfl, (h.pick 6).cell 3 rfl, (h.pick 6).cell 4 rfl, trivial⟩) ?_; clear hr a; intro a hr
      replace H := bd1 H; obtain ⟨r17, e18, H⟩ := H
      have hc := plunderlaw2_done_nil_ok (H := e18) (h := h)
      refine op_call (wn rfl) rfl rfl hr (f := 22) (args := #[.pointer none, .agg #[.int .i64 p2.Side, .int .i64 p2.Kind, .int .i64 p2.Addr, .int .i64 p2.A, .int .i64 p2.B]]) (by kernel_rfl) hc ?_; clear hc h
      rintro _ w ⟨rfl, h⟩; refine ⟨_, rfl, ?_⟩
      clear hr a; intro a hr
      refine op_new (wn rfl) rfl rfl hr h (vf := fun b => .pointer (some ⟨b, 0, none⟩)) (cs := #[.int .i64 0, .bool false, .int .i64 0]) (T := 39) (by kernel_rfl) ?_; clear h hr a; intro b19 w a h hr
      refine op_stores (wn rfl) rfl hr rfl (by kernel_rfl) (by kernel_rfl) (vs := [.int .i64 r17.V, .bool r17.OK, .int .i64 r17.Err]) rfl rfl (by kernel_rfl) h (i := 0) (cs' := #[.int .i64 r17.V, .bool r17.OK, .int .i64 r17.Err]) rfl ?_; clear h; intro w h
      refine wpList_nil ?_
      replace h : Fit z (sepL (ob39 b19 r17 :: ob62 B1 p1 ca1 cc2 ca3 cc4 :: ro2 ca1 cc2 p1.Held :: ro90 ca3 cc4 p1.Book :: ob78 B3 p3 ca5 cc6 ca7 cc8 :: rn139 ca5 cc6 p3.numberLists :: rn142 ca7 cc8 p3.accessLists :: ob30 b9 p2 :: L)) _ := h
      refine then_normal ?_
      refine wp_seq ?_
      refine wp_region_lit ?_
      refine ov hr (.pointer (some ⟨B1, 0, none⟩)) (by kernel_rfl) ?_; clear hr a; intro a hr
      refine op_val (wn rfl) rfl rfl hr (v := .agg #[.int .i64 p2.Side, .int .i64 p2.Kind, .int .i64 p2.Addr, .int .i64 p2.A, .int .i64 p2.B]) (rlm (cs := [.int .i64 p2.Side, .int .i64 p2.Kind, .int .i64 p2.Addr, .int .i64 p2.A, .int .i64 p2.B]) rfl (by kernel_rfl) (by kernel_rfl) (by kernel_rfl) ⟨(h.pick 7).cell 0 rfl, (h.pick 7).cell 1 rfl, (h.pick 7).cell 2 rfl, (h.pick 7).cell 3 rfl, (h.pick 7).cell 4 rfl, trivial⟩) ?_; clear hr a; intro a hr
      replace H := bd1 H; obtain ⟨r20, e21, H⟩ := H
      have hc := plunderlaw2_act_ok (H := e21) (h := h)
      refine op_call (wn rfl) rfl rfl hr (f := 31) (args := #[.agg #[.int .i64 p2.Side, .int .i64 p2.Kind, .int .i64 p2.Addr, .int .i64 p2.A, .int .i64 p2.B]]) (by kernel_rfl) hc ?_; clear hc h
      rintro _ w ⟨rfl, h⟩; refine ⟨_, rfl, ?_⟩
      clear hr a; intro a hr
      replace H := bd2 H; obtain ⟨r22, S23, e24, H⟩ := H
      replace h : Fit z (sepL (ob62 B1 p1 ca1 cc2 ca3 cc4 :: ro2 ca1 cc2 p1.Held :: ro90 ca3 cc4 p1.Book :: ob39 b19 r17 :: ob78 B3 p3 ca5 cc6 ca7 cc8 :: rn139 ca5 cc6 p3.numberLists :: rn142 ca7 cc8 p3.accessLists :: ob30 b9 p2 :: L)) _ := h.sel 8 [1, 2, 3, 0, 4, 5, 6, 7] (by kernel_rfl) (by kernel_rfl)
      have hc := plunderref2_Arena_Do_ok (H := e24) (h := h)
      refine op_call (wn rfl) rfl rfl hr (f := 30) (args := #[.pointer (some ⟨B1, 0, none⟩), .agg #[.int .i64 r20.Who, .int .i64 r20.Kind, .int .i64 r20.Addr, .int .i64 r20.A, .int .i64 r20.B]]) (by kernel_rfl) hc ?_; clear hc h
      rintro _ w ⟨caq25, ccq26, caq27, ccq28, rfl, h⟩; refine ⟨_, rfl, ?_⟩
      clear hr a; intro a hr
      refine op_new (wn rfl) rfl rfl hr h (vf := fun b => .pointer (some ⟨b, 0, none⟩)) (cs := #[.int .i64 0, .bool false, .int .i64 0]) (T := 39) (by kernel_rfl) ?_; clear h hr a; intro b29 w a h hr
      refine op_stores (wn rfl) rfl hr rfl (by kernel_rfl) (by kernel_rfl) (vs := [.int .i64 r22.V, .bool r22.OK, .int .i64 r22.Err]) rfl rfl (by kernel_rfl) h (i := 0) (cs' := #[.int .i64 r22.V, .bool r22.OK, .int .i64 r22.Err]) rfl ?_; clear h; intro w h
      refine wpList_nil ?_
      replace h : Fit z (sepL (ob39 b29 r22 :: ob62 B1 S23 caq25 ccq26 caq27 ccq28 :: ro2 caq25 ccq26 S23.Held :: ro90 caq27 ccq28 S23.Book :: ob39 b19 r17 :: ob78 B3 p3 ca5 cc6 ca7 cc8 :: rn139 ca5 cc6 p3.numberLists :: rn142 ca7 cc8 p3.accessLists :: ob30 b9 p2 :: L)) _ := h
      refine then_normal ?_
      refine wp_seq ?_
      refine wp_region_lit ?_
      refine op_val (wn rfl) rfl rfl hr (v := .agg #[.int .i64 r17.V, .bool r17.OK, .int .i64 r17.Err]) (rlm (cs := [.int .i64 r17.V, .bool r17.OK, .int .i64 r17.Err]) rfl (by kernel_rfl) (by kernel_rfl) (by kernel_rfl) ⟨(h.pick 4).cell 0 rfl, (h.pick 4).cell 1 rfl, (h.pick 4).cell 2 rfl, trivial⟩) ?_; clear hr a; intro a hr
      refine op_val (wn rfl) rfl rfl hr (v := .agg #[.int .i64 r22.V, .bool r22.OK, .int .i64 r22.Err]) (rlm (cs := [.int .i64 r22.V, .bool r22.OK, .int .i64 r22.Err]) rfl (by kernel_rfl) (by kernel_rfl) (by kernel_rfl) ⟨h.cell 0 rfl, h.cell 1 rfl, h.cell 2 rfl, trivial⟩) ?_; clear hr a; intro a hr
      refine op_val (wn rfl) rfl rfl hr (v := .bool (decide (r17 = r22))) (rb (req rfl (by kernel_rfl) (by kernel_rfl) (by kernel_rfl) (by kernel_rfl) (by kernel_rfl) (by kernel_rfl)) (eq_T_api_Effect r17 r22)) ?_; clear hr a; intro a hr
      refine ov hr (.bool (decide (r17 = r22))) (by kernel_rfl) ?_; clear hr a; intro a hr
      refine wpList_nil ?_
      refine then_normal ?_
      refine wp_ret ?_
      refine then_ret ?_
      refine end_ret1 (v := .bool (decide (r17 = r22))) rfl hr (by kernel_rfl) ?_
      replace H := jx0 H hK10
      replace h : Fit z (sepL (ob62 B1 S23 caq25 ccq26 caq27 ccq28 :: ro2 caq25 ccq26 S23.Held :: ro90 caq27 ccq28 S23.Book :: ob78 B3 p3 ca5 cc6 ca7 cc8 :: rn139 ca5 cc6 p3.numberLists :: rn142 ca7 cc8 p3.accessLists :: L)) _ := h.sel 9 [1, 2, 3, 5, 6, 7] (by kernel_rfl) (by kernel_rfl)
      replace H := ej3 H; obtain ⟨rfl, rfl, rfl⟩ := H
      exact ⟨caq25, ccq26, caq27, ccq28, ca5, cc6, ca7, cc8, rfl, h⟩
    ·
      replace H := ifF c16 H
      refine cond_ff hr (b := g12) (bF c16) ?_
      refine wp_skip ?_
      refine then_normal ?_
      replace hr := hr.fold2 [(0, .pointer none), (1, .pointer (some ⟨B1, 0, none⟩)), (3, .pointer (some ⟨B3, 0, none⟩)), (6, .pointer (some ⟨b9, 0, none⟩))] (by kernel_rfl); obtain ⟨j, hr⟩ := hr
      exact ⟨(), sinj H, j, hr, h⟩
  clear h hr a; rintro _ a w ⟨rfl, j, hr, h⟩
  replace H := jk0 hK10
  refine wp_seq ?_
  refine wp_seq ?_
  refine wp_region_lit ?_
  refine ov hr (.pointer (some ⟨b9, 1, none⟩)) (by kernel_rfl) ?_; clear hr a; intro a hr
  refine op_val (wn rfl) rfl rfl hr (v := .int .i64 p2.Kind) (rl rfl (by kernel_rfl) (by kernel_rfl) ((h.pick 6).cell 1 rfl)) ?_; clear hr a; intro a hr
  refine wpList_nil ?_
  refine then_normal ?_
  refine wp_block ?_
  refine wp_seq ?_
  refine wp_region_lit ?_
  refine ovs [36, 35] [.bool (p2.Kind == (5 : Int)), .bool (p2.Kind == (5 : Int))] hr ⟨rfl, rfl⟩ (by kernel_rfl) ?_; clear hr a; intro a hr
  refine wpList_nil ?_
  refine then_normal ?_
  by_cases c30 : p2.Kind = (5 : Int)
  ·
    replace H := ifT c30 H
    refine cond_tt hr (b := (p2.Kind == (5 : Int))) (beq_iff_eq.mpr c30) ?_
    refine wp_seq ?_
    refine wp_region_lit ?_
    refine ovs [37, 38] [.pointer none, .pointer (some ⟨b9, 3, none⟩)] hr ⟨rfl, rfl⟩ (by kernel_rfl) ?_; clear hr a; intro a hr
    refine op_val (wn rfl) rfl rfl hr (v := .int .i64 p2.A) (rl rfl (by kernel_rfl) (by kernel_rfl) ((h.pick 6).cell 3 rfl)) ?_; clear hr a; intro a hr
    replace H := bd1 H; obtain ⟨r31, e32, H⟩ := H
    have hc := plunderlaw2_mod_ok (H := e32) (h := h)
    refine op_call (wn rfl) rfl rfl hr (f := 23) (args := #[.int .i64 p2.A, .int .i64 2]) (by kernel_rfl) hc ?_; clear hc h
    rintro _ w ⟨rfl, h⟩; refine ⟨_, rfl, ?_⟩
    clear hr a; intro a hr
    replace H := bd0 H; obtain ⟨e33, H⟩ := H
    refine ov hr (.bool (r31 == (1 : Int))) (by kernel_rfl) ?_; clear hr a; intro a hr
    have hc := cells_Arena_Watch_nil_ok (H := e33) (h := h)
    refine op_call (wn rfl) rfl rfl hr (f := 88) (args := #[.pointer none, .bool (r31 == (1 : Int))]) (by kernel_rfl) hc ?_; clear hc h
    rintro _ w ⟨rfl, h⟩; refine ⟨_, rfl, ?_⟩
    clear hr a; intro a hr
    refine wpList_nil ?_
    refine then_normal ?_
    refine wp_region_lit ?_
    refine ovs [43, 44] [.pointer (some ⟨B1, 0, none⟩), .pointer (some ⟨b9, 3, none⟩)] hr ⟨rfl, rfl⟩ (by kernel_rfl) ?_; clear hr a; intro a hr
    refine op_val (wn rfl) rfl rfl hr (v := .int .i64 p2.A) (rl rfl (by kernel_rfl) (by kernel_rfl) ((h.pick 6).cell 3 rfl)) ?_; clear hr a; intro a hr
    replace H := bd1 H; obtain ⟨r34, e35, H⟩ := H
    have hc := plunderlaw2_mod_ok (H := e35) (h := h)
    refine op_call (wn rfl) rfl rfl hr (f := 23) (args := #[.int .i64 p2.A, .int .i64 2]) (by kernel_rfl) hc ?_; clear hc h
    rintro _ w ⟨rfl, h⟩; refine ⟨_, rfl, ?_⟩
    clear hr a; intro a hr
    refine ovs [47, 48, 49] [.bool (r34 == (1 : Int)), .pointer (some ⟨B1, 0, none⟩), .pointer (some ⟨B1, 2, none⟩)] hr ⟨rfl, rfl⟩ (by kernel_rfl) ?_; clear hr a; intro a hr
    refine op_store (wn rfl) rfl hr rfl (by kernel_rfl) (by kernel_rfl) (v := .bool (r34 == (1 : Int))) rfl rfl (by kernel_rfl) h (i := 2) rfl ?_; clear h; intro w h
    refine wpList_nil ?_
    replace h : Fit z (sepL (pts B1 (.cells #[.int .i64 p1.Most, .slice ca1 p1.Held.length cc2, .bool (r34 == (1 : Int)), .int .i64 p1.Actor, .slice ca3 p1.Book.length cc4] 62) :: ro2 ca1 cc2 p1.Held :: ro90 ca3 cc4 p1.Book :: ob78 B3 p3 ca5 cc6 ca7 cc8 :: rn139 ca5 cc6 p3.numberLists :: rn142 ca7 cc8 p3.accessLists :: ob30 b9 p2 :: L)) _ := h
    refine blk_normal ?_
    refine then_normal ?_
    refine wp_seq ?_
    refine wp_region_lit ?_
    refine ov hr (.bool true) (by kernel_rfl) ?_; clear hr a; intro a hr
    refine wpList_nil ?_
    refine then_normal ?_
    refine wp_ret ?_
    refine end_ret1 (v := .bool true) rfl hr (by kernel_rfl) ?_
    replace h : Fit z (sepL (pts B1 (.cells #[.int .i64 p1.Most, .slice ca1 p1.Held.length cc2, .bool (r34 == (1 : Int)), .int .i64 p1.Actor, .slice ca3 p1.Book.length cc4] 62) :: ro2 ca1 cc2 p1.Held :: ro90 ca3 cc4 p1.Book :: ob78 B3 p3 ca5 cc6 ca7 cc8 :: rn139 ca5 cc6 p3.numberLists :: rn142 ca7 cc8 p3.accessLists :: L)) _ := h.sel 7 [0, 1, 2, 3, 4, 5] (by kernel_rfl) (by kernel_rfl)
    replace H := ej3 H; obtain ⟨rfl, rfl, rfl⟩ := H
    exact ⟨ca1, cc2, ca3, cc4, ca5, cc6, ca7, cc8, rfl, h⟩
  ·
    replace H := ifF c30 H
    refine cond_ff hr (b := (p2.Kind == (5 : Int))) (beq_eq_false_iff_ne.mpr c30) ?_
    refine wp_seq ?_
    refine wp_region_lit ?_
    refine ovs [51, 50] [.bool (p2.Kind == (6 : Int)), .bool (p2.Kind == (6 : Int))] hr ⟨rfl, rfl⟩ (by kernel_rfl) ?_; clear hr a; intro a hr
    refine wpList_nil ?_
    refine then_normal ?_
    by_cases c36 : p2.Kind = (6 : Int)
    ·
      replace H := ifT c36 H
      refine cond_tt hr (b := (p2.Kind == (6 : Int))) (beq_iff_eq.mpr c36) ?_
      refine wp_seq ?_
      refine wp_region_lit ?_
      refine ovs [52, 53] [.pointer none, .pointer (some ⟨b9, 2, none⟩)] hr ⟨rfl, rfl⟩ (by kernel_rfl) ?_; clear hr a; intro a hr
      refine op_val (wn rfl) rfl rfl hr (v := .int .i64 p2.Addr) (rl rfl (by kernel_rfl) (by kernel_rfl) ((h.pick 6).cell 2 rfl)) ?_; clear hr a; intro a hr
      replace H := bd0 H; obtain ⟨e37, H⟩ := H
      have hc := cells_Arena_Who_nil_ok (H := e37) (h := h)
      refine op_call (wn rfl) rfl rfl hr (f := 96) (args := #[.pointer none, .int .i64 p2.Addr]) (by kernel_rfl) hc ?_; clear hc h
      rintro _ w ⟨rfl, h⟩; refine ⟨_, rfl, ?_⟩
      clear hr a; intro a hr
      refine wpList_nil ?_
      refine then_normal ?_
      refine wp_region_lit ?_
      refine ovs [56, 57] [.pointer (some ⟨B1, 0, none⟩), .pointer (some ⟨b9, 2, none⟩)] hr ⟨rfl, rfl⟩ (by kernel_rfl) ?_; clear hr a; intro a hr
      refine op_val (wn rfl) rfl rfl hr (v := .int .i64 p2.Addr) (rl rfl (by kernel_rfl) (by kernel_rfl) ((h.pick 6).cell 2 rfl)) ?_; clear hr a; intro a hr
      refine ovs [59, 60] [.pointer (some ⟨B1, 0, none⟩), .pointer (some ⟨B1, 3, none⟩)] hr ⟨rfl, rfl⟩ (by kernel_rfl) ?_; clear hr a; intro a hr
      refine op_store (wn rfl) rfl hr rfl (by kernel_rfl) (by kernel_rfl) (v := .int .i64 p2.Addr) rfl rfl (by kernel_rfl) h (i := 3) rfl ?_; clear h; intro w h
      refine wpList_nil ?_
      replace h : Fit z (sepL (pts B1 (.cells #[.int .i64 p1.Most, .slice ca1 p1.Held.length cc2, .bool p1.On, .int .i64 p2.Addr, .slice ca3 p1.Book.length cc4] 62) :: ro2 ca1 cc2 p1.Held :: ro90 ca3 cc4 p1.Book :: ob78 B3 p3 ca5 cc6 ca7 cc8 :: rn139 ca5 cc6 p3.numberLists :: rn142 ca7 cc8 p3.accessLists :: ob30 b9 p2 :: L)) _ := h
      refine blk_normal ?_
      refine then_normal ?_
      refine wp_seq ?_
      refine wp_region_lit ?_
      refine ov hr (.bool true) (by kernel_rfl) ?_; clear hr a; intro a hr
      refine wpList_nil ?_
      refine then_normal ?_
      refine wp_ret ?_
      refine end_ret1 (v := .bool true) rfl hr (by kernel_rfl) ?_
      replace h : Fit z (sepL (pts B1 (.cells #[.int .i64 p1.Most, .slice ca1 p1.Held.length cc2, .bool p1.On, .int .i64 p2.Addr, .slice ca3 p1.Book.length cc4] 62) :: ro2 ca1 cc2 p1.Held :: ro90 ca3 cc4 p1.Book :: ob78 B3 p3 ca5 cc6 ca7 cc8 :: rn139 ca5 cc6 p3.numberLists :: rn142 ca7 cc8 p3.accessLists :: L)) _ := h.sel 7 [0, 1, 2, 3, 4, 5] (by kernel_rfl) (by kernel_rfl)
      replace H := ej3 H; obtain ⟨rfl, rfl, rfl⟩ := H
      exact ⟨ca1, cc2, ca3, cc4, ca5, cc6, ca7, cc8, rfl, h⟩
    ·
      replace H := ifF c36 H
      refine cond_ff hr (b := (p2.Kind == (6 : Int))) (beq_eq_false_iff_ne.mpr c36) ?_
      refine wp_seq ?_
      refine wp_region_lit ?_
      refine ovs [62, 61] [.bool (p2.Kind == (7 : Int)), .bool (p2.Kind == (7 : Int))] hr ⟨rfl, rfl⟩ (by kernel_rfl) ?_; clear hr a; intro a hr
      refine wpList_nil ?_
      refine then_normal ?_
      by_cases c38 : p2.Kind = (7 : Int)
      ·
        replace H := ifT c38 H
        refine cond_tt hr (b := (p2.Kind == (7 : Int))) (beq_iff_eq.mpr c38) ?_
        refine wp_seq ?_
        replace H := bd1 H; obtain ⟨r39, e40, H⟩ := H
        refine reg_E (fun w => heldC w B1 0 [.int .i64 p1.Most] ∧ True) [1, 3, 4] h (by kernel_rfl) ?_; intro w h
        change wpAnyE _ _ _ _ _ _ 8 (Array.replicate 8 false) a w
        have hgo : ∀ w w', CellsGo w w' → (heldC w B1 0 [.int .i64 p1.Most] ∧ True) → heldC w' B1 0 [.int .i64 p1.Most] ∧ True := fun w w' g hD => ⟨heldC_go _ _ _ _ _ g hD.1, trivial⟩
        refine ev 7 0 rfl (by kernel_rfl) (wn rfl) hr (.pointer none) (fun w => by kernel_rfl) ?_; clear hr a; intro a hr
        refine ev 6 2 rfl (by kernel_rfl) (wn rfl) hr (.pointer (some ⟨B1, 0, none⟩)) (fun w => by kernel_rfl) ?_; clear hr a; intro a hr
        refine evD hgo ⟨⟨h.cell 0 rfl, trivial⟩, trivial⟩ 5 3 rfl (by kernel_rfl) (wn rfl) hr (.pointer (some ⟨B1, 0, none⟩)) (fun w => by kernel_rfl) ?_; clear hr a; intro a hr
        refine evD hgo ⟨⟨h.cell 0 rfl, trivial⟩, trivial⟩ 4 4 rfl (by kernel_rfl) (wn rfl) hr (.pointer (some ⟨B1, 0, none⟩)) (fun w => by kernel_rfl) ?_; clear hr a; intro a hr
        refine el [1, 3, 4] (b := B1) (off := 0) (cs := [.int .i64 p1.Most]) (fun _ hk => ⟨hk, fun w hD => hD.1⟩) 3 5 rfl (by kernel_rfl) (wn rfl) hr (.int .i64 p1.Most) ⟨h.cell 0 rfl, trivial⟩ (fun w hc => rl rfl (by kernel_rfl) (by kernel_rfl) hc.1) ?_; clear hr a; intro a hr
        refine e_one (fuel := 2) (i := 1) (by kernel_rfl) rfl ?_
        have hc := cells_Arena_Size_nil_ok (H := e40) (h := h)
        refine op_call (wn rfl) rfl rfl hr (f := 97) (args := #[.pointer none]) (by kernel_rfl) hc ?_; clear hc h
        rintro _ w ⟨rfl, h⟩; refine ⟨_, rfl, ?_⟩
        clear hr a; intro a hr
        refine wpList_nil ?_; refine then_normal ?_
        refine ⟨fun _ => ⟨⟨h.cell 0 rfl, trivial⟩, trivial⟩, ?_⟩
        refine ev 1 6 rfl (by kernel_rfl) (wn rfl) hr (.bool (r39 == p1.Most)) (fun w => by kernel_rfl) ?_; clear hr a; intro a hr
        refine ev 0 7 rfl (by kernel_rfl) (wn rfl) hr (.bool (r39 == p1.Most)) (fun w => by kernel_rfl) ?_; clear hr a; intro a hr
        refine e_end (by kernel_rfl) ?_
        refine then_normal ?_
        refine wp_ret ?_
        refine blk_ret ?_
        refine then_ret ?_
        refine end_ret1 (v := .bool (r39 == p1.Most)) rfl hr (by kernel_rfl) ?_
        replace h : Fit z (sepL (ob62 B1 p1 ca1 cc2 ca3 cc4 :: ro2 ca1 cc2 p1.Held :: ro90 ca3 cc4 p1.Book :: ob78 B3 p3 ca5 cc6 ca7 cc8 :: rn139 ca5 cc6 p3.numberLists :: rn142 ca7 cc8 p3.accessLists :: L)) _ := h.sel 7 [0, 1, 2, 3, 4, 5] (by kernel_rfl) (by kernel_rfl)
        replace H := ej3 H; obtain ⟨rfl, rfl, rfl⟩ := H
        exact ⟨ca1, cc2, ca3, cc4, ca5, cc6, ca7, cc8, rfl, h⟩
      ·
        replace H := ifF c38 H
        refine cond_ff hr (b := (p2.Kind == (7 : Int))) (beq_eq_false_iff_ne.mpr c38) ?_
        refine wp_seq ?_
        refine wp_region_lit ?_
        refine ovs [71, 70] [.bool (p2.Kind == (8 : Int)), .bool (p2.Kind == (8 : Int))] hr ⟨rfl, rfl⟩ (by kernel_rfl) ?_; clear hr a; intro a hr
        refine wpList_nil ?_
        refine then_normal ?_
        by_cases c41 : p2.Kind = (8 : Int)
        ·
          replace H := ifT c41 H
          refine cond_tt hr (b := (p2.Kind == (8 : Int))) (beq_iff_eq.mpr c41) ?_
          refine wp_seq ?_
          replace H := bd1 H; obtain ⟨r42, e43, H⟩ := H
          refine reg_E (fun w => heldC w B1 1 [.slice ca1 p1.Held.length cc2] ∧ True) [1, 3, 4] h (by kernel_rfl) ?_; intro w h
          change wpAnyE _ _ _ _ _ _ 9 (Array.replicate 9 false) a w
          have hgo : ∀ w w', CellsGo w w' → (heldC w B1 1 [.slice ca1 p1.Held.length cc2] ∧ True) → heldC w' B1 1 [.slice ca1 p1.Held.length cc2] ∧ True := fun w w' g hD => ⟨heldC_go _ _ _ _ _ g hD.1, trivial⟩
          refine ev 8 0 rfl (by kernel_rfl) (wn rfl) hr (.pointer none) (fun w => by kernel_rfl) ?_; clear hr a; intro a hr
          refine ev 7 2 rfl (by kernel_rfl) (wn rfl) hr (.pointer (some ⟨B1, 0, none⟩)) (fun w => by kernel_rfl) ?_; clear hr a; intro a hr
          refine evD hgo ⟨⟨h.cell 1 rfl, trivial⟩, trivial⟩ 6 3 rfl (by kernel_rfl) (wn rfl) hr (.pointer (some ⟨B1, 0, none⟩)) (fun w => by kernel_rfl) ?_; clear hr a; intro a hr
          refine evD hgo ⟨⟨h.cell 1 rfl, trivial⟩, trivial⟩ 5 4 rfl (by kernel_rfl) (wn rfl) hr (.pointer (some ⟨B1, 1, none⟩)) (fun w => by kernel_rfl) ?_; clear hr a; intro a hr
          refine el [1, 3, 4] (b := B1) (off := 1) (cs := [.slice ca1 p1.Held.length cc2]) (fun _ hk => ⟨hk, fun w hD => hD.1⟩) 4 5 rfl (by kernel_rfl) (wn rfl) hr (.slice ca1 p1.Held.length cc2) ⟨h.cell 1 rfl, trivial⟩ (fun w hc => rl rfl (by kernel_rfl) (by kernel_rfl) hc.1) ?_; clear hr a; intro a hr
          refine ev 3 6 rfl (by kernel_rfl) (wn rfl) hr (.int .i64 ((p1.Held.length : Nat) : Int)) (fun w => by kernel_rfl) ?_; clear hr a; intro a hr
          refine e_one (fuel := 2) (i := 1) (by kernel_rfl) rfl ?_
          have hc := cells_Arena_Mark_nil_ok (H := e43) (h := h)
          refine op_call (wn rfl) rfl rfl hr (f := 98) (args := #[.pointer none]) (by kernel_rfl) hc ?_; clear hc h
          rintro _ w ⟨rfl, h⟩; refine ⟨_, rfl, ?_⟩
          clear hr a; intro a hr
          refine wpList_nil ?_; refine then_normal ?_
          refine ⟨fun _ => ⟨⟨h.cell 1 rfl, trivial⟩, trivial⟩, ?_⟩
          refine ev 1 7 rfl (by kernel_rfl) (wn rfl) hr (.bool (r42 == ((p1.Held.length : Nat) : Int))) (fun w => by kernel_rfl) ?_; clear hr a; intro a hr
          refine ev 0 8 rfl (by kernel_rfl) (wn rfl) hr (.bool (r42 == ((p1.Held.length : Nat) : Int))) (fun w => by kernel_rfl) ?_; clear hr a; intro a hr
          refine e_end (by kernel_rfl) ?_
          refine then_normal ?_
          refine wp_ret ?_
          refine blk_ret ?_
          refine then_ret ?_
          refine end_ret1 (v := .bool (r42 == ((p1.Held.length : Nat) : Int))) rfl hr (by kernel_rfl) ?_
          replace h : Fit z (sepL (ob62 B1 p1 ca1 cc2 ca3 cc4 :: ro2 ca1 cc2 p1.Held :: ro90 ca3 cc4 p1.Book :: ob78 B3 p3 ca5 cc6 ca7 cc8 :: rn139 ca5 cc6 p3.numberLists :: rn142 ca7 cc8 p3.accessLists :: L)) _ := h.sel 7 [0, 1, 2, 3, 4, 5] (by kernel_rfl) (by kernel_rfl)
          replace H := ej3 H; obtain ⟨rfl, rfl, rfl⟩ := H
          exact ⟨ca1, cc2, ca3, cc4, ca5, cc6, ca7, cc8, rfl, h⟩
        ·
          replace H := ifF c41 H
          refine cond_ff hr (b := (p2.Kind == (8 : Int))) (beq_eq_false_iff_ne.mpr c41) ?_
          refine wp_seq ?_
          refine wp_region_lit ?_
          refine ovs [81, 80] [.bool (p2.Kind == (9 : Int)), .bool (p2.Kind == (9 : Int))] hr ⟨rfl, rfl⟩ (by kernel_rfl) ?_; clear hr a; intro a hr
          refine wpList_nil ?_
          refine then_normal ?_
          by_cases c44 : p2.Kind = (9 : Int)
          ·
            replace H := ifT c44 H
            refine cond_tt hr (b := (p2.Kind == (9 : Int))) (beq_iff_eq.mpr c44) ?_
            refine wp_seq ?_
            refine wp_region_lit ?_
            replace H := bd1 H; obtain ⟨r45, e46, H⟩ := H
            refine ov hr (.pointer none) (by kernel_rfl) ?_; clear hr a; intro a hr
            have hc := cells_Arena_Cells_nil_ok (H := e46) (h := h)
            refine op_call (wn rfl) rfl rfl hr (f := 24) (args := #[.pointer none]) (by kernel_rfl) hc ?_; clear hc h
            rintro _ w ⟨car47, rfl, h⟩; refine ⟨_, rfl, ?_⟩
            clear hr a; intro a hr
            refine ov hr (.slice car47 r45.length r45.length) (by kernel_rfl) ?_; clear hr a; intro a hr
            refine wpList_nil ?_
            refine then_normal ?_
            refine wp_seq ?_
            refine wp_region_lit ?_
            refine ovs [84, 85, 86, 87] [.slice car47 r45.length r45.length, .pointer (some ⟨B1, 0, none⟩), .pointer (some ⟨B1, 0, none⟩), .pointer (some ⟨B1, 1, none⟩)] hr ⟨rfl, rfl⟩ (by kernel_rfl) ?_; clear hr a; intro a hr
            refine op_val (wn rfl) rfl rfl hr (v := .slice ca1 p1.Held.length cc2) (rl rfl (by kernel_rfl) (by kernel_rfl) ((h.pick 1).cell 1 rfl)) ?_; clear hr a; intro a hr
            replace H := bd1 H; obtain ⟨r48, e49, H⟩ := H
            have hc := plunderlaw2_sameNumbers_ok (va0 := car47) (vc0 := r45.length) (va1 := ca1) (vc1 := cc2) (hv0 := (RdRow.of_row encZ_i64_ok h (fun h => h))) (hv1 := (RdRow.of_row encZ_i64_ok (h.pick 2) (fun h => (h.pick 2)))) (H := e49) (h := h)
            refine op_call (wn rfl) rfl rfl hr (f := 40) (args := #[.slice car47 r45.length r45.length, .slice ca1 p1.Held.length cc2]) (by kernel_rfl) hc ?_; clear hc h
            rintro _ w ⟨rfl, h⟩; refine ⟨_, rfl, ?_⟩
            clear hr a; intro a hr
            refine ov hr (.bool r48) (by kernel_rfl) ?_; clear hr a; intro a hr
            refine wpList_nil ?_
            refine then_normal ?_
            refine wp_seq ?_
            refine wp_region_lit ?_
            replace H := bd1 H; obtain ⟨S50, e51, H⟩ := H
            refine ovs [90, 91] [.pointer (some ⟨B3, 0, none⟩), .slice car47 r45.length r45.length] hr ⟨rfl, rfl⟩ (by kernel_rfl) ?_; clear hr a; intro a hr
            replace h : Fit z (sepL (ob78 B3 p3 ca5 cc6 ca7 cc8 :: rn139 ca5 cc6 p3.numberLists :: rn142 ca7 cc8 p3.accessLists :: ro2 car47 r45.length r45 :: ob62 B1 p1 ca1 cc2 ca3 cc4 :: ro2 ca1 cc2 p1.Held :: ro90 ca3 cc4 p1.Book :: ob30 b9 p2 :: L)) _ := h.sel 8 [4, 5, 6, 0, 1, 2, 3, 7] (by kernel_rfl) (by kernel_rfl)
            have hc := plunderlaw2_book_numbers_ok (H := e51) (h := h)
            refine op_call (wn rfl) rfl rfl hr (f := 42) (args := #[.pointer (some ⟨B3, 0, none⟩), .slice car47 r45.length r45.length]) (by kernel_rfl) hc ?_; clear hc h
            rintro _ w ⟨caq52, ccq53, caq54, ccq55, rfl, h⟩; refine ⟨_, rfl, ?_⟩
            clear hr a; intro a hr
            refine wpList_nil ?_
            refine then_normal ?_
            refine wp_seq ?_
            refine wp_region_lit ?_
            refine ovs [93, 8] [.bool r48, .bool r48] hr ⟨rfl, rfl⟩ (by kernel_rfl) ?_; clear hr a; intro a hr
            refine wpList_nil ?_
            refine then_normal ?_
            refine wp_ret ?_
            refine blk_ret ?_
            refine then_ret ?_
            refine end_ret1 (v := .bool r48) rfl hr (by kernel_rfl) ?_
            replace h : Fit z (sepL (ob62 B1 p1 ca1 cc2 ca3 cc4 :: ro2 ca1 cc2 p1.Held :: ro90 ca3 cc4 p1.Book :: ob78 B3 S50 caq52 ccq53 caq54 ccq55 :: rn139 caq52 ccq53 S50.numberLists :: rn142 caq54 ccq55 S50.accessLists :: L)) _ := h.sel 7 [3, 4, 5, 0, 1, 2] (by kernel_rfl) (by kernel_rfl)
            replace H := ej3 H; obtain ⟨rfl, rfl, rfl⟩ := H
            exact ⟨ca1, cc2, ca3, cc4, caq52, ccq53, caq54, ccq55, rfl, h⟩
          ·
            replace H := ifF c44 H
            refine cond_ff hr (b := (p2.Kind == (9 : Int))) (beq_eq_false_iff_ne.mpr c44) ?_
            refine wp_seq ?_
            refine wp_region_lit ?_
            refine ovs [95, 94] [.bool (p2.Kind == (10 : Int)), .bool (p2.Kind == (10 : Int))] hr ⟨rfl, rfl⟩ (by kernel_rfl) ?_; clear hr a; intro a hr
            refine wpList_nil ?_
            refine then_normal ?_
            by_cases c56 : p2.Kind = (10 : Int)
            ·
              replace H := ifT c56 H
              refine cond_tt hr (b := (p2.Kind == (10 : Int))) (beq_iff_eq.mpr c56) ?_
              refine wp_seq ?_
              refine wp_region_lit ?_
              replace H := bd1 H; obtain ⟨r57, e58, H⟩ := H
              refine ov hr (.pointer none) (by kernel_rfl) ?_; clear hr a; intro a hr
              have hc := cells_Arena_Log_nil_ok (H := e58) (h := h)
              refine op_call (wn rfl) rfl rfl hr (f := 70) (args := #[.pointer none]) (by kernel_rfl) hc ?_; clear hc h
              rintro _ w ⟨car59, rfl, h⟩; refine ⟨_, rfl, ?_⟩
              clear hr a; intro a hr
              refine ov hr (.slice car59 r57.length r57.length) (by kernel_rfl) ?_; clear hr a; intro a hr
              refine wpList_nil ?_
              refine then_normal ?_
              refine wp_seq ?_
              refine wp_region_lit ?_
              refine ovs [98, 99, 100, 101] [.slice car59 r57.length r57.length, .pointer (some ⟨B1, 0, none⟩), .pointer (some ⟨B1, 0, none⟩), .pointer (some ⟨B1, 4, none⟩)] hr ⟨rfl, rfl⟩ (by kernel_rfl) ?_; clear hr a; intro a hr
              refine op_val (wn rfl) rfl rfl hr (v := .slice ca3 p1.Book.length cc4) (rl rfl (by kernel_rfl) (by kernel_rfl) ((h.pick 1).cell 4 rfl)) ?_; clear hr a; intro a hr
              replace H := bd1 H; obtain ⟨r60, e61, H⟩ := H
              have hc := plunderlaw2_sameLog_ok (va0 := car59) (vc0 := r57.length) (va1 := ca3) (vc1 := cc4) (hv0 := (RdRow.of_row enc_T_api_Access_ok h (fun h => h))) (hv1 := (RdRow.of_row enc_T_api_Access_ok (h.pick 3) (fun h => (h.pick 3)))) (H := e61) (h := h)
              refine op_call (wn rfl) rfl rfl hr (f := 41) (args := #[.slice car59 r57.length r57.length, .slice ca3 p1.Book.length cc4]) (by kernel_rfl) hc ?_; clear hc h
              rintro _ w ⟨rfl, h⟩; refine ⟨_, rfl, ?_⟩
              clear hr a; intro a hr
              refine ov hr (.bool r60) (by kernel_rfl) ?_; clear hr a; intro a hr
              refine wpList_nil ?_
              refine then_normal ?_
              refine wp_seq ?_
              refine wp_region_lit ?_
              replace H := bd1 H; obtain ⟨S62, e63, H⟩ := H
              refine ovs [104, 105] [.pointer (some ⟨B3, 0, none⟩), .slice car59 r57.length r57.length] hr ⟨rfl, rfl⟩ (by kernel_rfl) ?_; clear hr a; intro a hr
              replace h : Fit z (sepL (ob78 B3 p3 ca5 cc6 ca7 cc8 :: rn139 ca5 cc6 p3.numberLists :: rn142 ca7 cc8 p3.accessLists :: ro90 car59 r57.length r57 :: ob62 B1 p1 ca1 cc2 ca3 cc4 :: ro2 ca1 cc2 p1.Held :: ro90 ca3 cc4 p1.Book :: ob30 b9 p2 :: L)) _ := h.sel 8 [4, 5, 6, 0, 1, 2, 3, 7] (by kernel_rfl) (by kernel_rfl)
              have hc := plunderlaw2_book_accesses_ok (H := e63) (h := h)
              refine op_call (wn rfl) rfl rfl hr (f := 43) (args := #[.pointer (some ⟨B3, 0, none⟩), .slice car59 r57.length r57.length]) (by kernel_rfl) hc ?_; clear hc h
              rintro _ w ⟨caq64, ccq65, caq66, ccq67, rfl, h⟩; refine ⟨_, rfl, ?_⟩
              clear hr a; intro a hr
              refine wpList_nil ?_
              refine then_normal ?_
              refine wp_seq ?_
              refine wp_region_lit ?_
              refine ovs [107, 8] [.bool r60, .bool r60] hr ⟨rfl, rfl⟩ (by kernel_rfl) ?_; clear hr a; intro a hr
              refine wpList_nil ?_
              refine then_normal ?_
              refine wp_ret ?_
              refine blk_ret ?_
              refine then_ret ?_
              refine end_ret1 (v := .bool r60) rfl hr (by kernel_rfl) ?_
              replace h : Fit z (sepL (ob62 B1 p1 ca1 cc2 ca3 cc4 :: ro2 ca1 cc2 p1.Held :: ro90 ca3 cc4 p1.Book :: ob78 B3 S62 caq64 ccq65 caq66 ccq67 :: rn139 caq64 ccq65 S62.numberLists :: rn142 caq66 ccq67 S62.accessLists :: L)) _ := h.sel 7 [3, 4, 5, 0, 1, 2] (by kernel_rfl) (by kernel_rfl)
              replace H := ej3 H; obtain ⟨rfl, rfl, rfl⟩ := H
              exact ⟨ca1, cc2, ca3, cc4, caq64, ccq65, caq66, ccq67, rfl, h⟩
            ·
              replace H := ifF c56 H
              refine cond_ff hr (b := (p2.Kind == (10 : Int))) (beq_eq_false_iff_ne.mpr c56) ?_
              refine wp_skip ?_
              refine blk_normal ?_
              refine then_normal ?_
              refine wp_seq ?_
              refine wp_region_lit ?_
              refine ov hr (.bool true) (by kernel_rfl) ?_; clear hr a; intro a hr
              refine wpList_nil ?_
              refine then_normal ?_
              refine wp_ret ?_
              refine end_ret1 (v := .bool true) rfl hr (by kernel_rfl) ?_
              replace h : Fit z (sepL (ob62 B1 p1 ca1 cc2 ca3 cc4 :: ro2 ca1 cc2 p1.Held :: ro90 ca3 cc4 p1.Book :: ob78 B3 p3 ca5 cc6 ca7 cc8 :: rn139 ca5 cc6 p3.numberLists :: rn142 ca7 cc8 p3.accessLists :: L)) _ := h.sel 7 [0, 1, 2, 3, 4, 5] (by kernel_rfl) (by kernel_rfl)
              replace H := ej3 H; obtain ⟨rfl, rfl, rfl⟩ := H
              exact ⟨ca1, cc2, ca3, cc4, ca5, cc6, ca7, cc8, rfl, h⟩


end Go.Proofs.Ytacgigkonoegiaa.Mo
