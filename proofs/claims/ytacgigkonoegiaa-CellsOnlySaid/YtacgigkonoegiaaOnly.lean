/- The law CellsOnly: the walk. -/
import Derived.Test.YtacgigkonoegiaaCe
import Derived.Test.YtacgigkonoegiaaFlo
namespace Go.Proofs.Ytacgigkonoegiaa.Wk
open Go Go.RowKit Go.Proofs.Ytacgigkonoegiaa.SL Go.Proofs.Ytacgigkonoegiaa.GX Go.Proofs.Ytacgigkonoegiaa.Ar
set_option linter.unusedVariables false
set_option linter.unusedSimpArgs false

set_option maxRecDepth 100000 in
set_option maxHeartbeats 4000000 in
/-- plunder/plunderlaw2.mod -/
theorem mod_spec {z w : World} {L : List HProp} {x n : Int} (hn : 0 < n) (hn2 : n ≤ 9223372036854775807) (h : Fit z (sepL (L)) w) :
    Calls Try.prog 23 #[.int .i64 x, .int .i64 n] w fun e w => e = .returned (.int .i64 (x % n)) ∧ Fit z (sepL (L)) w := by
  have ⟨hm0, hm1⟩ := tmod_bd x n hn
  have hmg := mod_go x n hn
  refine enter Try.func23 rfl 15 rfl rfl [(0, .int .i64 x), (1, .int .i64 n)] ⟨by kernel_rfl, by kernel_rfl, trivial⟩ ?_
  intro j a hr
  refine wp_seq ?_
  refine wp_region_lit ?_
  refine op_val (wn rfl) rfl rfl hr (v := .int .i64 0) (by kernel_rfl) ?_; clear hr a; intro a hr
  refine wpList_nil ?_
  refine then_normal ?_
  refine wp_seq ?_
  refine wp_region_lit ?_
  refine op_val (wn rfl) rfl rfl hr (v := .int .i64 x) (by kernel_rfl) ?_; clear hr a; intro a hr
  refine op_val (wn rfl) rfl rfl hr (v := .int .i64 n) (by kernel_rfl) ?_; clear hr a; intro a hr
  refine op_val (wn rfl) rfl rfl hr (v := .int .i64 (x.tmod n)) (rrem rfl (by kernel_rfl) (by kernel_rfl) (by omega)) ?_; clear hr a; intro a hr
  refine op_val (wn rfl) rfl rfl hr (v := .int .i64 (x.tmod n)) (by kernel_rfl) ?_; clear hr a; intro a hr
  refine wpList_nil ?_
  refine then_normal ?_
  refine wp_seq ?_
  refine wp_seq ?_
  refine wp_region_lit ?_
  refine op_val (wn rfl) rfl rfl hr (v := .int .i64 (x.tmod n)) (by kernel_rfl) ?_; clear hr a; intro a hr
  refine op_val (wn rfl) rfl rfl hr (v := .bool (decide ((x.tmod n) < 0))) (by kernel_rfl) ?_; clear hr a; intro a hr
  refine wpList_nil ?_
  refine then_normal ?_
  by_cases c1 : (x.tmod n) < 0
  ·
    refine cond_t hr (b := (decide ((x.tmod n) < 0))) (by kernel_rfl) (decide_eq_true c1) ?_
    refine wp_region_lit ?_
    refine op_val (wn rfl) rfl rfl hr (v := .int .i64 (x.tmod n)) (by kernel_rfl) ?_; clear hr a; intro a hr
    refine op_val (wn rfl) rfl rfl hr (v := .int .i64 n) (by kernel_rfl) ?_; clear hr a; intro a hr
    refine op_val (wn rfl) rfl rfl hr (v := .int .i64 ((x.tmod n) + n)) (ra (m := IntKind.i64.wrap ((x.tmod n) + n)) (by kernel_rfl) ((i64_in _ (by omega)).trans (by omega))) ?_; clear hr a; intro a hr
    refine op_val (wn rfl) rfl rfl hr (v := .int .i64 ((x.tmod n) + n)) (by kernel_rfl) ?_; clear hr a; intro a hr
    refine wpList_nil ?_
    refine then_normal ?_
    refine wp_seq ?_
    refine wp_region_lit ?_
    refine op_val (wn rfl) rfl rfl hr (v := .int .i64 ((x.tmod n) + n)) (by kernel_rfl) ?_; clear hr a; intro a hr
    refine op_val (wn rfl) rfl rfl hr (v := .int .i64 ((x.tmod n) + n)) (by kernel_rfl) ?_; clear hr a; intro a hr
    refine wpList_nil ?_
    refine then_normal ?_
    refine wp_ret ?_
    refine end_ret1 (v := .int .i64 ((x.tmod n) + n)) rfl hr (by kernel_rfl) ?_
    exact ⟨by rw [← hmg]; first | rw [if_pos (by omega)] | rw [if_neg (by omega)], h⟩
  ·
    refine cond_f hr (b := (decide ((x.tmod n) < 0))) (by kernel_rfl) (decide_eq_false c1) ?_
    refine wp_skip ?_
    refine then_normal ?_
    refine wp_seq ?_
    refine wp_region_lit ?_
    refine op_val (wn rfl) rfl rfl hr (v := .int .i64 (x.tmod n)) (by kernel_rfl) ?_; clear hr a; intro a hr
    refine op_val (wn rfl) rfl rfl hr (v := .int .i64 (x.tmod n)) (by kernel_rfl) ?_; clear hr a; intro a hr
    refine wpList_nil ?_
    refine then_normal ?_
    refine wp_ret ?_
    refine end_ret1 (v := .int .i64 (x.tmod n)) rfl hr (by kernel_rfl) ?_
    exact ⟨by rw [← hmg]; first | rw [if_pos (by omega)] | rw [if_neg (by omega)], h⟩

set_option maxRecDepth 100000 in
set_option maxHeartbeats 4000000 in
/-- plunder/plunderlaw2.done -/
theorem done_spec {z w : World} {L : List HProp} {A : Nat} {S : ASt} {sd k i x y : Int} (hl : S.log.length < 1099511627776) (hs : S.cells.length ≤ 1048576) (hz : S.size ≤ 1048576) (hz0 : ((S.cells.length : Nat) : Int) ≤ S.size) (wx : -9223372036854775808 ≤ x ∧ x ≤ 9223372036854775807) (h : Fit z (sepL (ArenaP A S :: L)) w) :
    Calls Try.prog 22 #[.pointer (some ⟨A, 0, none⟩), .agg #[.int .i64 sd, .int .i64 k, .int .i64 i, .int .i64 x, .int .i64 y]] w fun e w => e = .returned (.agg #[.int .i64 ((S.done k i x y).1.1), .bool ((S.done k i x y).1.2.1), .int .i64 ((S.done k i x y).1.2.2)]) ∧ Fit z (sepL (ArenaP A ((S.done k i x y).2) :: L)) w := by
  refine enter Try.func22 rfl 86 rfl rfl [(0, .pointer (some ⟨A, 0, none⟩)), (1, .agg #[.int .i64 sd, .int .i64 k, .int .i64 i, .int .i64 x, .int .i64 y])] ⟨by kernel_rfl, by kernel_rfl, trivial⟩ ?_
  intro j a hr
  refine wp_seq ?_
  refine wp_region_lit ?_
  refine op_new (wn rfl) rfl rfl hr h (vf := fun b => .pointer (some ⟨b, 0, none⟩)) (cs := #[.int .i64 sd, .int .i64 k, .int .i64 i, .int .i64 x, .int .i64 y]) (T := 30) (by kernel_rfl) ?_; clear h hr a; intro b1 w a h hr
  refine op_new (wn rfl) rfl rfl hr h (vf := fun b => .pointer (some ⟨b, 0, none⟩)) (cs := #[.int .i64 0, .bool false, .int .i64 0]) (T := 39) (by kernel_rfl) ?_; clear h hr a; intro b2 w a h hr
  refine wpList_nil ?_
  refine then_normal ?_
  refine wp_seq ?_
  refine wp_seq ?_
  refine wp_region_lit ?_
  refine op_val (wn rfl) rfl rfl hr (v := .pointer (some ⟨b1, 1, none⟩)) (by kernel_rfl) ?_; clear hr a; intro a hr
  refine op_val (wn rfl) rfl rfl hr (v := .int .i64 k) (rl rfl (by kernel_rfl) (by kernel_rfl) ((h.pick 1).cell 1 rfl)) ?_; clear hr a; intro a hr
  refine wpList_nil ?_
  refine then_normal ?_
  refine wp_block ?_
  refine wp_seq ?_
  refine wp_region_lit ?_
  refine op_val (wn rfl) rfl rfl hr (v := .bool (k == 0)) (by kernel_rfl) ?_; clear hr a; intro a hr
  refine op_val (wn rfl) rfl rfl hr (v := .bool (k == 0)) (by kernel_rfl) ?_; clear hr a; intro a hr
  refine wpList_nil ?_
  refine then_normal ?_
  by_cases c3 : k = 0
  ·
    refine cond_t hr (b := (k == 0)) (by kernel_rfl) (beq_iff_eq.mpr c3) ?_
    refine wp_seq ?_
    refine wp_region_lit ?_
    refine op_val (wn rfl) rfl rfl hr (v := .pointer (some ⟨A, 0, none⟩)) (by kernel_rfl) ?_; clear hr a; intro a hr
    refine op_val (wn rfl) rfl rfl hr (v := .pointer (some ⟨b1, 2, none⟩)) (by kernel_rfl) ?_; clear hr a; intro a hr
    refine op_val (wn rfl) rfl rfl hr (v := .int .i64 i) (rl rfl (by kernel_rfl) (by kernel_rfl) ((h.pick 1).cell 2 rfl)) ?_; clear hr a; intro a hr
    refine op_call (wn rfl) rfl rfl hr (f := 66) (args := #[.pointer (some ⟨A, 0, none⟩), .int .i64 i]) (by kernel_rfl) (load_spec (hl := (by omega)) (hs := (by omega)) (h := (h.pick 2))) ?_; clear h
    rintro _ w ⟨rfl, h⟩; refine ⟨_, rfl, ?_⟩
    clear hr a; intro a hr
    have h : Fit z (sepL (ArenaP A ((S.load i).2) :: pts b2 (.cells #[.int .i64 0, .bool false, .int .i64 0] 39) :: pts b1 (.cells #[.int .i64 sd, .int .i64 k, .int .i64 i, .int .i64 x, .int .i64 y] 30) :: L)) _ := h
    refine op_val (wn rfl) rfl rfl hr (v := .tuple #[.int .i64 ((S.load i).1.1), .int .i64 ((S.load i).1.2)]) (by kernel_rfl) ?_; clear hr a; intro a hr
    refine op_val (wn rfl) rfl rfl hr (v := .int .i64 ((S.load i).1.1)) (by kernel_rfl) ?_; clear hr a; intro a hr
    refine op_val (wn rfl) rfl rfl hr (v := .int .i64 ((S.load i).1.2)) (by kernel_rfl) ?_; clear hr a; intro a hr
    refine op_val (wn rfl) rfl rfl hr (v := .int .i64 ((S.load i).1.1)) (by kernel_rfl) ?_; clear hr a; intro a hr
    refine op_val (wn rfl) rfl rfl hr (v := .int .i64 ((S.load i).1.2)) (by kernel_rfl) ?_; clear hr a; intro a hr
    refine wpList_nil ?_
    refine then_normal ?_
    refine wp_seq ?_
    refine wp_region_lit ?_
    refine op_val (wn rfl) rfl rfl hr (v := .int .i64 ((S.load i).1.1)) (by kernel_rfl) ?_; clear hr a; intro a hr
    refine op_val (wn rfl) rfl rfl hr (v := .int .i64 ((S.load i).1.2)) (by kernel_rfl) ?_; clear hr a; intro a hr
    refine op_val (wn rfl) rfl rfl hr (v := .bool (((S.load i).1.2) == 0)) (by kernel_rfl) ?_; clear hr a; intro a hr
    refine op_val (wn rfl) rfl rfl hr (v := .int .i64 ((S.load i).1.2)) (by kernel_rfl) ?_; clear hr a; intro a hr
    refine op_val (wn rfl) rfl rfl hr (v := .agg #[.int .i64 ((S.load i).1.1), .bool (((S.load i).1.2) == 0), .int .i64 ((S.load i).1.2)]) (by kernel_rfl) ?_; clear hr a; intro a hr
    refine op_stores (wn rfl) rfl hr rfl (by kernel_rfl) (by kernel_rfl) (vs := [.int .i64 ((S.load i).1.1), .bool (((S.load i).1.2) == 0), .int .i64 ((S.load i).1.2)]) rfl rfl (by kernel_rfl) (h.pick 1) (i := 0) (cs' := #[.int .i64 ((S.load i).1.1), .bool (((S.load i).1.2) == 0), .int .i64 ((S.load i).1.2)]) rfl ?_; clear h; intro w h
    have h : Fit z (sepL (pts b2 (.cells #[.int .i64 ((S.load i).1.1), .bool (((S.load i).1.2) == 0), .int .i64 ((S.load i).1.2)] 39) :: ArenaP A ((S.load i).2) :: pts b1 (.cells #[.int .i64 sd, .int .i64 k, .int .i64 i, .int .i64 x, .int .i64 y] 30) :: L)) _ := h
    refine wpList_nil ?_
    refine then_normal ?_
    refine wp_ret ?_
    refine blk_ret ?_
    refine then_ret ?_
    refine end_retC (cs := [.int .i64 ((S.load i).1.1), .bool (((S.load i).1.2) == 0), .int .i64 ((S.load i).1.2)]) rfl hr (by kernel_rfl) (by kernel_rfl) (by kernel_rfl) ⟨h.cell 0 rfl, h.cell 1 rfl, h.cell 2 rfl, trivial⟩ ?_
    have e9 := show S.done k i x y = _ from by unfold ASt.done; rw [if_pos c3]
    rw [e9]
    exact ⟨rfl, (((((h.pick 1).pick 2).pick 2).drop).drop)⟩
  ·
    refine cond_f hr (b := (k == 0)) (by kernel_rfl) (beq_eq_false_iff_ne.mpr c3) ?_
    refine wp_seq ?_
    refine wp_region_lit ?_
    refine op_val (wn rfl) rfl rfl hr (v := .bool (k == 1)) (by kernel_rfl) ?_; clear hr a; intro a hr
    refine op_val (wn rfl) rfl rfl hr (v := .bool (k == 1)) (by kernel_rfl) ?_; clear hr a; intro a hr
    refine wpList_nil ?_
    refine then_normal ?_
    by_cases c4 : k = 1
    ·
      refine cond_t hr (b := (k == 1)) (by kernel_rfl) (beq_iff_eq.mpr c4) ?_
      refine wp_seq ?_
      refine wp_region_lit ?_
      refine op_val (wn rfl) rfl rfl hr (v := .pointer (some ⟨A, 0, none⟩)) (by kernel_rfl) ?_; clear hr a; intro a hr
      refine op_val (wn rfl) rfl rfl hr (v := .pointer (some ⟨b1, 2, none⟩)) (by kernel_rfl) ?_; clear hr a; intro a hr
      refine op_val (wn rfl) rfl rfl hr (v := .int .i64 i) (rl rfl (by kernel_rfl) (by kernel_rfl) ((h.pick 1).cell 2 rfl)) ?_; clear hr a; intro a hr
      refine op_val (wn rfl) rfl rfl hr (v := .pointer (some ⟨b1, 3, none⟩)) (by kernel_rfl) ?_; clear hr a; intro a hr
      refine op_val (wn rfl) rfl rfl hr (v := .int .i64 x) (rl rfl (by kernel_rfl) (by kernel_rfl) ((h.pick 1).cell 3 rfl)) ?_; clear hr a; intro a hr
      refine op_call (wn rfl) rfl rfl hr (f := 21) (args := #[.pointer (some ⟨A, 0, none⟩), .int .i64 i, .int .i64 x]) (by kernel_rfl) (store_spec (hl := (by omega)) (hs := (by omega)) (h := (h.pick 2))) ?_; clear h
      rintro _ w ⟨rfl, h⟩; refine ⟨_, rfl, ?_⟩
      clear hr a; intro a hr
      have h : Fit z (sepL (ArenaP A ((S.store i x).2) :: pts b2 (.cells #[.int .i64 0, .bool false, .int .i64 0] 39) :: pts b1 (.cells #[.int .i64 sd, .int .i64 k, .int .i64 i, .int .i64 x, .int .i64 y] 30) :: L)) _ := h
      refine op_val (wn rfl) rfl rfl hr (v := .int .i64 ((S.store i x).1)) (by kernel_rfl) ?_; clear hr a; intro a hr
      refine wpList_nil ?_
      refine then_normal ?_
      refine wp_seq ?_
      refine wp_region_lit ?_
      refine op_val (wn rfl) rfl rfl hr (v := .int .i64 ((S.store i x).1)) (by kernel_rfl) ?_; clear hr a; intro a hr
      refine op_val (wn rfl) rfl rfl hr (v := .bool (((S.store i x).1) == 0)) (by kernel_rfl) ?_; clear hr a; intro a hr
      refine op_val (wn rfl) rfl rfl hr (v := .int .i64 ((S.store i x).1)) (by kernel_rfl) ?_; clear hr a; intro a hr
      refine op_val (wn rfl) rfl rfl hr (v := .agg #[.int .i64 0, .bool (((S.store i x).1) == 0), .int .i64 ((S.store i x).1)]) (by kernel_rfl) ?_; clear hr a; intro a hr
      refine op_stores (wn rfl) rfl hr rfl (by kernel_rfl) (by kernel_rfl) (vs := [.int .i64 0, .bool (((S.store i x).1) == 0), .int .i64 ((S.store i x).1)]) rfl rfl (by kernel_rfl) (h.pick 1) (i := 0) (cs' := #[.int .i64 0, .bool (((S.store i x).1) == 0), .int .i64 ((S.store i x).1)]) rfl ?_; clear h; intro w h
      have h : Fit z (sepL (pts b2 (.cells #[.int .i64 0, .bool (((S.store i x).1) == 0), .int .i64 ((S.store i x).1)] 39) :: ArenaP A ((S.store i x).2) :: pts b1 (.cells #[.int .i64 sd, .int .i64 k, .int .i64 i, .int .i64 x, .int .i64 y] 30) :: L)) _ := h
      refine wpList_nil ?_
      refine then_normal ?_
      refine wp_ret ?_
      refine blk_ret ?_
      refine then_ret ?_
      refine end_retC (cs := [.int .i64 0, .bool (((S.store i x).1) == 0), .int .i64 ((S.store i x).1)]) rfl hr (by kernel_rfl) (by kernel_rfl) (by kernel_rfl) ⟨h.cell 0 rfl, h.cell 1 rfl, h.cell 2 rfl, trivial⟩ ?_
      have e9 := show S.done k i x y = _ from by unfold ASt.done; rw [if_neg c3, if_pos c4]
      rw [e9]
      exact ⟨rfl, (((((h.pick 1).pick 2).pick 2).drop).drop)⟩
    ·
      refine cond_f hr (b := (k == 1)) (by kernel_rfl) (beq_eq_false_iff_ne.mpr c4) ?_
      refine wp_seq ?_
      refine wp_region_lit ?_
      refine op_val (wn rfl) rfl rfl hr (v := .bool (k == 2)) (by kernel_rfl) ?_; clear hr a; intro a hr
      refine op_val (wn rfl) rfl rfl hr (v := .bool (k == 2)) (by kernel_rfl) ?_; clear hr a; intro a hr
      refine wpList_nil ?_
      refine then_normal ?_
      by_cases c5 : k = 2
      ·
        refine cond_t hr (b := (k == 2)) (by kernel_rfl) (beq_iff_eq.mpr c5) ?_
        refine wp_seq ?_
        refine wp_region_lit ?_
        refine op_val (wn rfl) rfl rfl hr (v := .pointer (some ⟨A, 0, none⟩)) (by kernel_rfl) ?_; clear hr a; intro a hr
        refine op_val (wn rfl) rfl rfl hr (v := .pointer (some ⟨b1, 2, none⟩)) (by kernel_rfl) ?_; clear hr a; intro a hr
        refine op_val (wn rfl) rfl rfl hr (v := .int .i64 i) (rl rfl (by kernel_rfl) (by kernel_rfl) ((h.pick 1).cell 2 rfl)) ?_; clear hr a; intro a hr
        refine op_val (wn rfl) rfl rfl hr (v := .pointer (some ⟨b1, 3, none⟩)) (by kernel_rfl) ?_; clear hr a; intro a hr
        refine op_val (wn rfl) rfl rfl hr (v := .int .i64 x) (rl rfl (by kernel_rfl) (by kernel_rfl) ((h.pick 1).cell 3 rfl)) ?_; clear hr a; intro a hr
        refine op_val (wn rfl) rfl rfl hr (v := .pointer (some ⟨b1, 4, none⟩)) (by kernel_rfl) ?_; clear hr a; intro a hr
        refine op_val (wn rfl) rfl rfl hr (v := .int .i64 y) (rl rfl (by kernel_rfl) (by kernel_rfl) ((h.pick 1).cell 4 rfl)) ?_; clear hr a; intro a hr
        refine op_call (wn rfl) rfl rfl hr (f := 67) (args := #[.pointer (some ⟨A, 0, none⟩), .int .i64 i, .int .i64 x, .int .i64 y]) (by kernel_rfl) (cas_spec (hl := (by omega)) (hs := (by omega)) (h := (h.pick 2))) ?_; clear h
        rintro _ w ⟨rfl, h⟩; refine ⟨_, rfl, ?_⟩
        clear hr a; intro a hr
        have h : Fit z (sepL (ArenaP A ((S.cas i x y).2) :: pts b2 (.cells #[.int .i64 0, .bool false, .int .i64 0] 39) :: pts b1 (.cells #[.int .i64 sd, .int .i64 k, .int .i64 i, .int .i64 x, .int .i64 y] 30) :: L)) _ := h
        refine op_val (wn rfl) rfl rfl hr (v := .tuple #[.bool ((S.cas i x y).1.1), .int .i64 ((S.cas i x y).1.2)]) (by kernel_rfl) ?_; clear hr a; intro a hr
        refine op_val (wn rfl) rfl rfl hr (v := .bool ((S.cas i x y).1.1)) (by kernel_rfl) ?_; clear hr a; intro a hr
        refine op_val (wn rfl) rfl rfl hr (v := .int .i64 ((S.cas i x y).1.2)) (by kernel_rfl) ?_; clear hr a; intro a hr
        refine op_val (wn rfl) rfl rfl hr (v := .bool ((S.cas i x y).1.1)) (by kernel_rfl) ?_; clear hr a; intro a hr
        refine op_val (wn rfl) rfl rfl hr (v := .int .i64 ((S.cas i x y).1.2)) (by kernel_rfl) ?_; clear hr a; intro a hr
        refine wpList_nil ?_
        refine then_normal ?_
        refine wp_seq ?_
        refine wp_region_lit ?_
        refine op_val (wn rfl) rfl rfl hr (v := .bool ((S.cas i x y).1.1)) (by kernel_rfl) ?_; clear hr a; intro a hr
        refine op_val (wn rfl) rfl rfl hr (v := .int .i64 ((S.cas i x y).1.2)) (by kernel_rfl) ?_; clear hr a; intro a hr
        refine op_val (wn rfl) rfl rfl hr (v := .agg #[.int .i64 0, .bool ((S.cas i x y).1.1), .int .i64 ((S.cas i x y).1.2)]) (by kernel_rfl) ?_; clear hr a; intro a hr
        refine op_stores (wn rfl) rfl hr rfl (by kernel_rfl) (by kernel_rfl) (vs := [.int .i64 0, .bool ((S.cas i x y).1.1), .int .i64 ((S.cas i x y).1.2)]) rfl rfl (by kernel_rfl) (h.pick 1) (i := 0) (cs' := #[.int .i64 0, .bool ((S.cas i x y).1.1), .int .i64 ((S.cas i x y).1.2)]) rfl ?_; clear h; intro w h
        have h : Fit z (sepL (pts b2 (.cells #[.int .i64 0, .bool ((S.cas i x y).1.1), .int .i64 ((S.cas i x y).1.2)] 39) :: ArenaP A ((S.cas i x y).2) :: pts b1 (.cells #[.int .i64 sd, .int .i64 k, .int .i64 i, .int .i64 x, .int .i64 y] 30) :: L)) _ := h
        refine wpList_nil ?_
        refine then_normal ?_
        refine wp_ret ?_
        refine blk_ret ?_
        refine then_ret ?_
        refine end_retC (cs := [.int .i64 0, .bool ((S.cas i x y).1.1), .int .i64 ((S.cas i x y).1.2)]) rfl hr (by kernel_rfl) (by kernel_rfl) (by kernel_rfl) ⟨h.cell 0 rfl, h.cell 1 rfl, h.cell 2 rfl, trivial⟩ ?_
        have e9 := show S.done k i x y = _ from by unfold ASt.done; rw [if_neg c3, if_neg c4, if_pos c5]
        rw [e9]
        exact ⟨rfl, (((((h.pick 1).pick 2).pick 2).drop).drop)⟩
      ·
        refine cond_f hr (b := (k == 2)) (by kernel_rfl) (beq_eq_false_iff_ne.mpr c5) ?_
        refine wp_seq ?_
        refine wp_region_lit ?_
        refine op_val (wn rfl) rfl rfl hr (v := .bool (k == 3)) (by kernel_rfl) ?_; clear hr a; intro a hr
        refine op_val (wn rfl) rfl rfl hr (v := .bool (k == 3)) (by kernel_rfl) ?_; clear hr a; intro a hr
        refine wpList_nil ?_
        refine then_normal ?_
        by_cases c6 : k = 3
        ·
          refine cond_t hr (b := (k == 3)) (by kernel_rfl) (beq_iff_eq.mpr c6) ?_
          refine wp_seq ?_
          refine wp_region_lit ?_
          refine op_val (wn rfl) rfl rfl hr (v := .pointer (some ⟨A, 0, none⟩)) (by kernel_rfl) ?_; clear hr a; intro a hr
          refine op_val (wn rfl) rfl rfl hr (v := .pointer (some ⟨b1, 2, none⟩)) (by kernel_rfl) ?_; clear hr a; intro a hr
          refine op_val (wn rfl) rfl rfl hr (v := .int .i64 i) (rl rfl (by kernel_rfl) (by kernel_rfl) ((h.pick 1).cell 2 rfl)) ?_; clear hr a; intro a hr
          refine op_val (wn rfl) rfl rfl hr (v := .pointer (some ⟨b1, 3, none⟩)) (by kernel_rfl) ?_; clear hr a; intro a hr
          refine op_val (wn rfl) rfl rfl hr (v := .int .i64 x) (rl rfl (by kernel_rfl) (by kernel_rfl) ((h.pick 1).cell 3 rfl)) ?_; clear hr a; intro a hr
          refine op_call (wn rfl) rfl rfl hr (f := 68) (args := #[.pointer (some ⟨A, 0, none⟩), .int .i64 i, .int .i64 x]) (by kernel_rfl) (add_spec (hl := (by omega)) (hs := (by omega)) (h := (h.pick 2))) ?_; clear h
          rintro _ w ⟨rfl, h⟩; refine ⟨_, rfl, ?_⟩
          clear hr a; intro a hr
          have h : Fit z (sepL (ArenaP A ((S.add i x).2) :: pts b2 (.cells #[.int .i64 0, .bool false, .int .i64 0] 39) :: pts b1 (.cells #[.int .i64 sd, .int .i64 k, .int .i64 i, .int .i64 x, .int .i64 y] 30) :: L)) _ := h
          refine op_val (wn rfl) rfl rfl hr (v := .tuple #[.int .i64 ((S.add i x).1.1), .int .i64 ((S.add i x).1.2)]) (by kernel_rfl) ?_; clear hr a; intro a hr
          refine op_val (wn rfl) rfl rfl hr (v := .int .i64 ((S.add i x).1.1)) (by kernel_rfl) ?_; clear hr a; intro a hr
          refine op_val (wn rfl) rfl rfl hr (v := .int .i64 ((S.add i x).1.2)) (by kernel_rfl) ?_; clear hr a; intro a hr
          refine op_val (wn rfl) rfl rfl hr (v := .int .i64 ((S.add i x).1.1)) (by kernel_rfl) ?_; clear hr a; intro a hr
          refine op_val (wn rfl) rfl rfl hr (v := .int .i64 ((S.add i x).1.2)) (by kernel_rfl) ?_; clear hr a; intro a hr
          refine wpList_nil ?_
          refine then_normal ?_
          refine wp_seq ?_
          refine wp_region_lit ?_
          refine op_val (wn rfl) rfl rfl hr (v := .int .i64 ((S.add i x).1.1)) (by kernel_rfl) ?_; clear hr a; intro a hr
          refine op_val (wn rfl) rfl rfl hr (v := .int .i64 ((S.add i x).1.2)) (by kernel_rfl) ?_; clear hr a; intro a hr
          refine op_val (wn rfl) rfl rfl hr (v := .bool (((S.add i x).1.2) == 0)) (by kernel_rfl) ?_; clear hr a; intro a hr
          refine op_val (wn rfl) rfl rfl hr (v := .int .i64 ((S.add i x).1.2)) (by kernel_rfl) ?_; clear hr a; intro a hr
          refine op_val (wn rfl) rfl rfl hr (v := .agg #[.int .i64 ((S.add i x).1.1), .bool (((S.add i x).1.2) == 0), .int .i64 ((S.add i x).1.2)]) (by kernel_rfl) ?_; clear hr a; intro a hr
          refine op_stores (wn rfl) rfl hr rfl (by kernel_rfl) (by kernel_rfl) (vs := [.int .i64 ((S.add i x).1.1), .bool (((S.add i x).1.2) == 0), .int .i64 ((S.add i x).1.2)]) rfl rfl (by kernel_rfl) (h.pick 1) (i := 0) (cs' := #[.int .i64 ((S.add i x).1.1), .bool (((S.add i x).1.2) == 0), .int .i64 ((S.add i x).1.2)]) rfl ?_; clear h; intro w h
          have h : Fit z (sepL (pts b2 (.cells #[.int .i64 ((S.add i x).1.1), .bool (((S.add i x).1.2) == 0), .int .i64 ((S.add i x).1.2)] 39) :: ArenaP A ((S.add i x).2) :: pts b1 (.cells #[.int .i64 sd, .int .i64 k, .int .i64 i, .int .i64 x, .int .i64 y] 30) :: L)) _ := h
          refine wpList_nil ?_
          refine then_normal ?_
          refine wp_ret ?_
          refine blk_ret ?_
          refine then_ret ?_
          refine end_retC (cs := [.int .i64 ((S.add i x).1.1), .bool (((S.add i x).1.2) == 0), .int .i64 ((S.add i x).1.2)]) rfl hr (by kernel_rfl) (by kernel_rfl) (by kernel_rfl) ⟨h.cell 0 rfl, h.cell 1 rfl, h.cell 2 rfl, trivial⟩ ?_
          have e9 := show S.done k i x y = _ from by unfold ASt.done; rw [if_neg c3, if_neg c4, if_neg c5, if_pos c6]
          rw [e9]
          exact ⟨rfl, (((((h.pick 1).pick 2).pick 2).drop).drop)⟩
        ·
          refine cond_f hr (b := (k == 3)) (by kernel_rfl) (beq_eq_false_iff_ne.mpr c6) ?_
          refine wp_skip ?_
          refine blk_normal ?_
          refine then_normal ?_
          refine wp_seq ?_
          refine wp_region_lit ?_
          refine op_val (wn rfl) rfl rfl hr (v := .pointer (some ⟨A, 0, none⟩)) (by kernel_rfl) ?_; clear hr a; intro a hr
          refine op_val (wn rfl) rfl rfl hr (v := .pointer (some ⟨b1, 3, none⟩)) (by kernel_rfl) ?_; clear hr a; intro a hr
          refine op_val (wn rfl) rfl rfl hr (v := .int .i64 x) (rl rfl (by kernel_rfl) (by kernel_rfl) ((h.pick 1).cell 3 rfl)) ?_; clear hr a; intro a hr
          refine op_call (wn rfl) rfl rfl hr (f := 20) (args := #[.pointer (some ⟨A, 0, none⟩), .int .i64 x]) (by kernel_rfl) (reserve_spec (hl := (by omega)) (hs := (by omega)) (hz := (by omega)) (hz0 := (by omega)) (h := (h.pick 2))) ?_; clear h
          rintro _ w ⟨rfl, h⟩; refine ⟨_, rfl, ?_⟩
          clear hr a; intro a hr
          have h : Fit z (sepL (ArenaP A ((S.reserve x).2) :: pts b2 (.cells #[.int .i64 0, .bool false, .int .i64 0] 39) :: pts b1 (.cells #[.int .i64 sd, .int .i64 k, .int .i64 i, .int .i64 x, .int .i64 y] 30) :: L)) _ := h
          refine op_val (wn rfl) rfl rfl hr (v := .tuple #[.int .i64 ((S.reserve x).1.1), .int .i64 ((S.reserve x).1.2)]) (by kernel_rfl) ?_; clear hr a; intro a hr
          refine op_val (wn rfl) rfl rfl hr (v := .int .i64 ((S.reserve x).1.1)) (by kernel_rfl) ?_; clear hr a; intro a hr
          refine op_val (wn rfl) rfl rfl hr (v := .int .i64 ((S.reserve x).1.2)) (by kernel_rfl) ?_; clear hr a; intro a hr
          refine op_val (wn rfl) rfl rfl hr (v := .int .i64 ((S.reserve x).1.1)) (by kernel_rfl) ?_; clear hr a; intro a hr
          refine op_val (wn rfl) rfl rfl hr (v := .int .i64 ((S.reserve x).1.2)) (by kernel_rfl) ?_; clear hr a; intro a hr
          refine wpList_nil ?_
          refine then_normal ?_
          refine wp_seq ?_
          refine wp_region_lit ?_
          refine op_val (wn rfl) rfl rfl hr (v := .int .i64 ((S.reserve x).1.1)) (by kernel_rfl) ?_; clear hr a; intro a hr
          refine op_val (wn rfl) rfl rfl hr (v := .int .i64 ((S.reserve x).1.2)) (by kernel_rfl) ?_; clear hr a; intro a hr
          refine op_val (wn rfl) rfl rfl hr (v := .bool (((S.reserve x).1.2) == 0)) (by kernel_rfl) ?_; clear hr a; intro a hr
          refine op_val (wn rfl) rfl rfl hr (v := .int .i64 ((S.reserve x).1.2)) (by kernel_rfl) ?_; clear hr a; intro a hr
          refine op_val (wn rfl) rfl rfl hr (v := .agg #[.int .i64 ((S.reserve x).1.1), .bool (((S.reserve x).1.2) == 0), .int .i64 ((S.reserve x).1.2)]) (by kernel_rfl) ?_; clear hr a; intro a hr
          refine op_stores (wn rfl) rfl hr rfl (by kernel_rfl) (by kernel_rfl) (vs := [.int .i64 ((S.reserve x).1.1), .bool (((S.reserve x).1.2) == 0), .int .i64 ((S.reserve x).1.2)]) rfl rfl (by kernel_rfl) (h.pick 1) (i := 0) (cs' := #[.int .i64 ((S.reserve x).1.1), .bool (((S.reserve x).1.2) == 0), .int .i64 ((S.reserve x).1.2)]) rfl ?_; clear h; intro w h
          have h : Fit z (sepL (pts b2 (.cells #[.int .i64 ((S.reserve x).1.1), .bool (((S.reserve x).1.2) == 0), .int .i64 ((S.reserve x).1.2)] 39) :: ArenaP A ((S.reserve x).2) :: pts b1 (.cells #[.int .i64 sd, .int .i64 k, .int .i64 i, .int .i64 x, .int .i64 y] 30) :: L)) _ := h
          refine wpList_nil ?_
          refine then_normal ?_
          refine wp_ret ?_
          refine end_retC (cs := [.int .i64 ((S.reserve x).1.1), .bool (((S.reserve x).1.2) == 0), .int .i64 ((S.reserve x).1.2)]) rfl hr (by kernel_rfl) (by kernel_rfl) (by kernel_rfl) ⟨h.cell 0 rfl, h.cell 1 rfl, h.cell 2 rfl, trivial⟩ ?_
          have e9 := show S.done k i x y = _ from by unfold ASt.done; rw [if_neg c3, if_neg c4, if_neg c5, if_neg c6]
          rw [e9]
          exact ⟨rfl, (((((h.pick 1).pick 2).pick 2).drop).drop)⟩

/-- The arena at the walk's round i: its first i cells filled. -/
def St (nn : Nat) (vals : List Int) (i : Nat) : ASt := { size := (nn : Int) + 2, cells := vals.take i ++ List.replicate (nn - i) 0, log := [], actor := 0, on := false }
theorem only_new {nn : Nat} {vals : List Int} (h : nn = 0) : ASt.new (((nn : Nat) : Int) + 2) = St nn vals 0 := by subst h; simp [ASt.new, St]
theorem only_res {nn : Nat} {vals : List Int} (h : 0 < nn) : (ASt.new (((nn : Nat) : Int) + 2)).reserve ((nn : Nat) : Int) = ((0, 0), St nn vals 0) := by
  rw [ASt.reserve_ok (by omega) (by simp [ASt.new]; omega)]
  simp [ASt.new, St, ASt.note, logn]
theorem St_len {nn i : Nat} {vals : List Int} (h : i ≤ nn) (h2 : nn ≤ vals.length) : (St nn vals i).cells.length = nn := by simp [St]; omega
theorem only_store {nn i : Nat} {vals : List Int} (h : i < nn) (h2 : nn ≤ vals.length) : (St nn vals i).store ((i : Nat) : Int) (at_ vals i) = (0, St nn vals (i + 1)) := by
  rw [ASt.store_in (by rw [St_len (by omega) h2]; simp [inbB]; omega)]
  refine congrArg (Prod.mk 0) ?_
  have e : vals[i]? = some (at_ vals i) := get_at (by omega)
  have e1 : nn - i = (nn - (i + 1)) + 1 := by omega
  simp only [St, ASt.note, logn, Bool.false_eq_true, if_false, ASt.mk.injEq, true_and, and_true]
  rw [e1, List.replicate_succ]
  rw [List.take_add_one, e]
  simp only [Int.toNat_natCast, Option.toList_some]
  rw [List.set_append_right _ _ (by simp; omega)]
  simp [show i - min i vals.length = 0 by omega]
theorem St_full {nn i : Nat} {vals : List Int} (hi : i = nn) : (St nn vals i).cells = vals.take nn := by subst hi; simp [St]
theorem keep_at {nn j : Nat} {vals : List Int} (h : j < nn) : at_ (vals.take nn) j = at_ vals j := by simp [at_, List.getElem?_take, h]
theorem only_done {nn i : Nat} {vals : List Int} {k ad x y : Int} (hi : i = nn) (h2 : nn ≤ vals.length) :
    nn ≤ ((St nn vals i).done k ad x y).2.cells.length ∧ (k = 0 ∨ k = 1 ∨ k = 2 ∨ k = 3 → ((St nn vals i).done k ad x y).2.cells.length = nn) ∧
    ∀ j < nn, (k ≠ 1 ∧ k ≠ 2 ∧ k ≠ 3 ∨ ((St nn vals i).done k ad x y).1.2.1 = false ∨ ((j : Nat) : Int) ≠ ad) → at_ ((St nn vals i).done k ad x y).2.cells j = at_ vals j := by
  have hl : (St nn vals i).cells.length = nn := St_len (by omega) h2
  have hc := St_full (vals := vals) hi
  have hset : ∀ v : Int, ∀ j < nn, inbB ((nn : Nat) : Int) ad = true → ((j : Nat) : Int) ≠ ad → at_ ((vals.take nn).set ad.toNat v) j = at_ vals j := by
    intro v j hj hb hne
    have hb := inbB_true hb
    refine Eq.trans ?_ (keep_at hj)
    simp only [at_, List.getD_eq_getElem?_getD, List.getElem?_set]
    rw [if_neg (by omega)]
  unfold ASt.done
  split
  · unfold ASt.load; split
    · simp only [ASt.note, hc, hl]; exact ⟨by simp; omega, fun _ => by simp; omega, fun j hj _ => keep_at hj⟩
    · simp only [hc, hl]; exact ⟨by simp; omega, fun _ => by simp; omega, fun j hj _ => keep_at hj⟩
  · split
    · unfold ASt.store; split
      · rename_i hb; rw [hl] at hb
        simp only [ASt.note, hc, hl]; exact ⟨by simp; omega, fun _ => by simp; omega, fun j hj hk => by
          rcases hk with hk | hk | hk
          · omega
          · simp at hk
          · exact hset _ j hj hb hk⟩
      · simp only [hc, hl]; exact ⟨by simp; omega, fun _ => by simp; omega, fun j hj _ => keep_at hj⟩
    · split
      · unfold ASt.cas; split
        · rename_i hb; rw [hl] at hb
          split
          · simp only [ASt.note, hc, hl]; exact ⟨by simp; omega, fun _ => by simp; omega, fun j hj hk => by
              rcases hk with hk | hk | hk
              · omega
              · simp at hk
              · exact hset _ j hj hb hk⟩
          · simp only [ASt.note, hc, hl]; exact ⟨by simp; omega, fun _ => by simp; omega, fun j hj _ => keep_at hj⟩
        · simp only [hc, hl]; exact ⟨by simp; omega, fun _ => by simp; omega, fun j hj _ => keep_at hj⟩
      · split
        · unfold ASt.add; split
          · rename_i hb; rw [hl] at hb
            simp only [ASt.note, hc, hl]; exact ⟨by simp; omega, fun _ => by simp; omega, fun j hj hk => by
              rcases hk with hk | hk | hk
              · omega
              · simp at hk
              · exact hset _ j hj hb hk⟩
          · simp only [hc, hl]; exact ⟨by simp; omega, fun _ => by simp; omega, fun j hj _ => keep_at hj⟩
        · have hr : ∀ n : Nat, ∀ j < nn, at_ (vals.take nn ++ List.replicate n 0) j = at_ vals j := by
            intro n j hj
            refine Eq.trans ?_ (keep_at hj)
            simp only [at_, List.getD_eq_getElem?_getD]
            rw [List.getElem?_append_left (by simp; omega)]
          unfold ASt.reserve; split
          · simp only [hc, hl]; exact ⟨by simp; omega, fun _ => by omega, fun j hj _ => keep_at hj⟩
          · split
            · simp only [hc, hl]; exact ⟨by simp; omega, fun _ => by omega, fun j hj _ => keep_at hj⟩
            · simp only [ASt.note, hc, hl]; exact ⟨by simp; omega, fun _ => by omega, fun j hj _ => hr _ j hj⟩

theorem only_done4 {nn i : Nat} {vals : List Int} {k ad x y : Int} (hi : i = nn) (h2 : nn ≤ vals.length) : ((St nn vals i).done k ad x y).2.cells.length ≤ nn + 2 := by
  have hl : (St nn vals i).cells.length = nn := St_len (by omega) h2
  have hz : (St nn vals i).size = (nn : Int) + 2 := rfl
  by_cases h : k = 0 ∨ k = 1 ∨ k = 2 ∨ k = 3
  · have := (only_done (k := k) (ad := ad) (x := x) (y := y) hi h2).2.1 h; omega
  · unfold ASt.done
    rw [if_neg (by omega), if_neg (by omega), if_neg (by omega), if_neg (by omega)]
    unfold ASt.reserve
    split
    · simp only [hl]; omega
    · split
      · simp only [hl]; omega
      · simp only [ASt.note, List.length_append, List.length_replicate, hl] at *; omega
theorem St_log {nn i : Nat} {vals : List Int} {k ad x y : Int} : ((St nn vals i).done k ad x y).2.log = [] := by
  have e : ∀ (S : ASt) k i x y ok, S.on = false → S.log = [] → (S.note k i x y ok).log = [] := fun S k i x y ok h1 h2 => by simp [ASt.note, logn, h1, h2]
  unfold ASt.done ASt.load ASt.store ASt.cas ASt.add ASt.reserve
  repeat' split
  all_goals first | rfl | exact e _ _ _ _ _ _ rfl rfl

set_option maxRecDepth 100000 in
set_option maxHeartbeats 4000000 in
/-- plunder/plunderlaw2.CellsOnly -/
theorem only_spec {z w : World} {L : List HProp} {W : World} {va : Option Addr} {vals : List Int} {vc : Nat} {sd mk mi mx my : Int} (hv : ArgV W encI 1 va vals) (hvl : vals.length ≤ 9223372036854775807) (wmk : -9223372036854775808 ≤ mk ∧ mk ≤ 9223372036854775807) (wmi : -9223372036854775808 ≤ mi ∧ mi ≤ 9223372036854775807) (wmx : -9223372036854775808 ≤ mx ∧ mx ≤ 9223372036854775807) (wmy : -9223372036854775808 ≤ my ∧ my ≤ 9223372036854775807) (h : Fit z (sepL (old W :: L)) w) :
    Calls Try.prog 5 #[.slice va vals.length vc, .agg #[.int .i64 sd, .int .i64 mk, .int .i64 mi, .int .i64 mx, .int .i64 my]] w fun e w => e = .returned (.bool true) ∧ Fit z (sepL (old W :: L)) w := by
  refine enter Try.func5 rfl 128 rfl rfl [(0, .slice va vals.length vc), (1, .agg #[.int .i64 sd, .int .i64 mk, .int .i64 mi, .int .i64 mx, .int .i64 my])] ⟨by kernel_rfl, by kernel_rfl, trivial⟩ ?_
  intro j a hr
  refine wp_seq ?_
  refine wp_region_lit ?_
  refine op_new (wn rfl) rfl rfl hr h (vf := fun b => .pointer (some ⟨b, 0, none⟩)) (cs := #[.int .i64 sd, .int .i64 mk, .int .i64 mi, .int .i64 mx, .int .i64 my]) (T := 30) (by kernel_rfl) ?_; clear h hr a; intro b1 w a h hr
  refine op_val (wn rfl) rfl rfl hr (v := .bool false) (by kernel_rfl) ?_; clear hr a; intro a hr
  refine wpList_nil ?_
  refine then_normal ?_
  refine wp_seq ?_
  refine wp_region_lit ?_
  refine op_val (wn rfl) rfl rfl hr (v := .slice va vals.length vc) (by kernel_rfl) ?_; clear hr a; intro a hr
  refine op_val (wn rfl) rfl rfl hr (v := .int .i64 ((vals.length : Nat) : Int)) (by kernel_rfl) ?_; clear hr a; intro a hr
  refine op_val (wn rfl) rfl rfl hr (v := .int .i64 ((vals.length : Nat) : Int)) (by kernel_rfl) ?_; clear hr a; intro a hr
  refine wpList_nil ?_
  refine then_normal ?_
  refine cut_rule (β := Unit) (fun _ a w => ∃ nn : Nat, ∃ j, Rep 128 (lk [(0, .slice va vals.length vc), (3, .pointer (some ⟨b1, 0, none⟩)), (4, .bool false), (5, .int .i64 ((nn : Nat) : Int))] j) a ∧ (nn ≤ 64) ∧ (nn ≤ vals.length) ∧ Fit z (sepL (old W :: pts b1 (.cells #[.int .i64 sd, .int .i64 mk, .int .i64 mi, .int .i64 mx, .int .i64 my] 30) :: L)) w) ?_ ?_
  ·
    refine wp_seq ?_
    refine wp_region_lit ?_
    refine op_val (wn rfl) rfl rfl hr (v := .int .i64 ((vals.length : Nat) : Int)) (by kernel_rfl) ?_; clear hr a; intro a hr
    refine op_val (wn rfl) rfl rfl hr (v := .bool (decide (((vals.length : Nat) : Int) > 64))) (by kernel_rfl) ?_; clear hr a; intro a hr
    refine wpList_nil ?_
    refine then_normal ?_
    by_cases c2 : ((vals.length : Nat) : Int) > 64
    ·
      refine cond_t hr (b := (decide (((vals.length : Nat) : Int) > 64))) (by kernel_rfl) (decide_eq_true c2) ?_
      refine wp_region_lit ?_
      refine op_val (wn rfl) rfl rfl hr (v := .int .i64 64) (by kernel_rfl) ?_; clear hr a; intro a hr
      refine wpList_nil ?_
      refine then_normal ?_
      obtain ⟨j, hr2⟩ := hr.fold [(0, .slice va vals.length vc), (3, .pointer (some ⟨b1, 0, none⟩)), (4, .bool false), (5, .int .i64 ((64 : Nat) : Int))] ⟨by kernel_rfl, by kernel_rfl, by kernel_rfl, by kernel_rfl, trivial⟩; clear hr; have hr := hr2; clear hr2
      have h : Fit z (sepL (old W :: pts b1 (.cells #[.int .i64 sd, .int .i64 mk, .int .i64 mi, .int .i64 mx, .int .i64 my] 30) :: L)) _ := (h.pick 1)
      exact ⟨(), 64, j, hr, (by omega), (by omega), h⟩
    ·
      refine cond_f hr (b := (decide (((vals.length : Nat) : Int) > 64))) (by kernel_rfl) (decide_eq_false c2) ?_
      refine wp_skip ?_
      refine then_normal ?_
      obtain ⟨j, hr2⟩ := hr.fold [(0, .slice va vals.length vc), (3, .pointer (some ⟨b1, 0, none⟩)), (4, .bool false), (5, .int .i64 ((vals.length : Nat) : Int))] ⟨by kernel_rfl, by kernel_rfl, by kernel_rfl, by kernel_rfl, trivial⟩; clear hr; have hr := hr2; clear hr2
      have h : Fit z (sepL (old W :: pts b1 (.cells #[.int .i64 sd, .int .i64 mk, .int .i64 mi, .int .i64 mx, .int .i64 my] 30) :: L)) _ := (h.pick 1)
      exact ⟨(), vals.length, j, hr, (by omega), (by omega), h⟩
  clear h hr a; rintro _ a w ⟨nn, j, hr, hn1, hn2, h⟩
  refine wp_seq ?_
  refine wp_region_lit ?_
  refine op_val (wn rfl) rfl rfl hr (v := .int .i64 ((nn : Nat) : Int)) (by kernel_rfl) ?_; clear hr a; intro a hr
  refine op_val (wn rfl) rfl rfl hr (v := .int .i64 (((nn : Nat) : Int) + 2)) (ra (m := IntKind.i64.wrap (((nn : Nat) : Int) + 2)) (by kernel_rfl) ((i64_in _ (by omega)).trans (by omega))) ?_; clear hr a; intro a hr
  refine op_call (wn rfl) rfl rfl hr (f := 19) (args := #[.int .i64 (((nn : Nat) : Int) + 2)]) (by kernel_rfl) (new_ok (hg := (by unfold goodB; simp; omega)) (h := h)) ?_; clear h
  rintro _ w ⟨A3, rfl, h⟩; refine ⟨_, rfl, ?_⟩
  clear hr a; intro a hr
  have h : Fit z (sepL (ArenaP A3 (ASt.new (((nn : Nat) : Int) + 2)) :: old W :: pts b1 (.cells #[.int .i64 sd, .int .i64 mk, .int .i64 mi, .int .i64 mx, .int .i64 my] 30) :: L)) _ := h
  refine op_val (wn rfl) rfl rfl hr (v := .tuple #[.pointer (some ⟨A3, 0, none⟩), .int .i64 0]) (by kernel_rfl) ?_; clear hr a; intro a hr
  refine op_val (wn rfl) rfl rfl hr (v := .pointer (some ⟨A3, 0, none⟩)) (by kernel_rfl) ?_; clear hr a; intro a hr
  refine op_val (wn rfl) rfl rfl hr (v := .int .i64 0) (by kernel_rfl) ?_; clear hr a; intro a hr
  refine op_val (wn rfl) rfl rfl hr (v := .pointer (some ⟨A3, 0, none⟩)) (by kernel_rfl) ?_; clear hr a; intro a hr
  refine op_val (wn rfl) rfl rfl hr (v := .int .i64 0) (by kernel_rfl) ?_; clear hr a; intro a hr
  refine wpList_nil ?_
  refine then_normal ?_
  refine wp_seq ?_
  refine wp_seq ?_
  refine wp_region_lit ?_
  refine op_val (wn rfl) rfl rfl hr (v := .int .i64 0) (by kernel_rfl) ?_; clear hr a; intro a hr
  refine op_val (wn rfl) rfl rfl hr (v := .bool false) (by kernel_rfl) ?_; clear hr a; intro a hr
  refine op_val (wn rfl) rfl rfl hr (v := .bool false) (by kernel_rfl) ?_; clear hr a; intro a hr
  refine op_val ((wg hr rfl rfl rfl (b' := false) (by kernel_rfl)).trans rfl) rfl rfl hr (v := .pointer (some ⟨A3, 0, none⟩)) (by kernel_rfl) ?_; clear hr a; intro a hr
  refine op_val ((wg hr rfl rfl rfl (b' := false) (by kernel_rfl)).trans rfl) rfl rfl hr (v := .bool false) (by kernel_rfl) ?_; clear hr a; intro a hr
  refine op_val (wn rfl) rfl rfl hr (v := .bool false) (by kernel_rfl) ?_; clear hr a; intro a hr
  refine wpList_nil ?_
  refine then_normal ?_
  refine cond_f hr (b := false) (by kernel_rfl) rfl ?_
  refine wp_skip ?_
  refine then_normal ?_
  refine cut_rule (β := Unit) (fun _ a w => ∃ j, Rep 128 (lk [(0, .slice va vals.length vc), (3, .pointer (some ⟨b1, 0, none⟩)), (5, .int .i64 ((nn : Nat) : Int)), (6, .pointer (some ⟨A3, 0, none⟩))] j) a ∧ Fit z (sepL (old W :: ArenaP A3 (St nn vals 0) :: pts b1 (.cells #[.int .i64 sd, .int .i64 mk, .int .i64 mi, .int .i64 mx, .int .i64 my] 30) :: L)) w) ?_ ?_
  ·
    refine wp_seq ?_
    refine wp_region_lit ?_
    refine op_val (wn rfl) rfl rfl hr (v := .int .i64 ((nn : Nat) : Int)) (by kernel_rfl) ?_; clear hr a; intro a hr
    refine op_val (wn rfl) rfl rfl hr (v := .bool (decide (((nn : Nat) : Int) > 0))) (by kernel_rfl) ?_; clear hr a; intro a hr
    refine wpList_nil ?_
    refine then_normal ?_
    by_cases c4 : ((nn : Nat) : Int) > 0
    ·
      refine cond_t hr (b := (decide (((nn : Nat) : Int) > 0))) (by kernel_rfl) (decide_eq_true c4) ?_
      refine wp_seq ?_
      refine wp_region_lit ?_
      refine op_val (wn rfl) rfl rfl hr (v := .pointer (some ⟨A3, 0, none⟩)) (by kernel_rfl) ?_; clear hr a; intro a hr
      refine op_val (wn rfl) rfl rfl hr (v := .int .i64 ((nn : Nat) : Int)) (by kernel_rfl) ?_; clear hr a; intro a hr
      refine op_call (wn rfl) rfl rfl hr (f := 20) (args := #[.pointer (some ⟨A3, 0, none⟩), .int .i64 ((nn : Nat) : Int)]) (by kernel_rfl) (reserve_spec (hl := (by exact Nat.lt_of_le_of_lt (Nat.zero_le 0) (by decide))) (hs := (by exact Nat.zero_le _)) (hz := (by show ((nn : Int) + 2) ≤ 1048576; omega)) (hz0 := (by show (0 : Int) ≤ ((nn : Int) + 2); omega)) (h := h)) ?_; clear h
      rintro _ w ⟨rfl, h⟩; refine ⟨_, rfl, ?_⟩
      clear hr a; intro a hr
      have h : Fit z (sepL (ArenaP A3 (((ASt.new (((nn : Nat) : Int) + 2)).reserve ((nn : Nat) : Int)).2) :: old W :: pts b1 (.cells #[.int .i64 sd, .int .i64 mk, .int .i64 mi, .int .i64 mx, .int .i64 my] 30) :: L)) _ := h
      refine op_val (wn rfl) rfl rfl hr (v := .tuple #[.int .i64 (((ASt.new (((nn : Nat) : Int) + 2)).reserve ((nn : Nat) : Int)).1.1), .int .i64 (((ASt.new (((nn : Nat) : Int) + 2)).reserve ((nn : Nat) : Int)).1.2)]) (by kernel_rfl) ?_; clear hr a; intro a hr
      refine op_val (wn rfl) rfl rfl hr (v := .int .i64 (((ASt.new (((nn : Nat) : Int) + 2)).reserve ((nn : Nat) : Int)).1.1)) (by kernel_rfl) ?_; clear hr a; intro a hr
      refine op_val (wn rfl) rfl rfl hr (v := .int .i64 (((ASt.new (((nn : Nat) : Int) + 2)).reserve ((nn : Nat) : Int)).1.2)) (by kernel_rfl) ?_; clear hr a; intro a hr
      refine op_val (wn rfl) rfl rfl hr (v := .int .i64 (((ASt.new (((nn : Nat) : Int) + 2)).reserve ((nn : Nat) : Int)).1.1)) (by kernel_rfl) ?_; clear hr a; intro a hr
      refine op_val (wn rfl) rfl rfl hr (v := .int .i64 (((ASt.new (((nn : Nat) : Int) + 2)).reserve ((nn : Nat) : Int)).1.2)) (by kernel_rfl) ?_; clear hr a; intro a hr
      refine wpList_nil ?_
      refine then_normal ?_
      refine wp_seq ?_
      refine wp_region_lit ?_
      refine op_val (wn rfl) rfl rfl hr (v := .int .i64 (((ASt.new (((nn : Nat) : Int) + 2)).reserve ((nn : Nat) : Int)).1.2)) (by kernel_rfl) ?_; clear hr a; intro a hr
      refine op_val (wn rfl) rfl rfl hr (v := .bool ((((ASt.new (((nn : Nat) : Int) + 2)).reserve ((nn : Nat) : Int)).1.2) != 0)) (by kernel_rfl) ?_; clear hr a; intro a hr
      refine op_val (wn rfl) rfl rfl hr (v := .bool ((((ASt.new (((nn : Nat) : Int) + 2)).reserve ((nn : Nat) : Int)).1.2) != 0)) (by kernel_rfl) ?_; clear hr a; intro a hr
      refine op_val ((wg hr rfl rfl rfl (b' := ((((ASt.new (((nn : Nat) : Int) + 2)).reserve ((nn : Nat) : Int)).1.2) != 0)) (by kernel_rfl)).trans (by rw [show ((((ASt.new (((nn : Nat) : Int) + 2)).reserve ((nn : Nat) : Int)).1.2) != 0) = false from (bne_eq_false_iff_eq.mpr (by rw [only_res (vals := vals) (by omega)]))]; rfl)) rfl rfl hr (v := .int .i64 (((ASt.new (((nn : Nat) : Int) + 2)).reserve ((nn : Nat) : Int)).1.1)) (by kernel_rfl) ?_; clear hr a; intro a hr
      refine op_val ((wg hr rfl rfl rfl (b' := ((((ASt.new (((nn : Nat) : Int) + 2)).reserve ((nn : Nat) : Int)).1.2) != 0)) (by kernel_rfl)).trans (by rw [show ((((ASt.new (((nn : Nat) : Int) + 2)).reserve ((nn : Nat) : Int)).1.2) != 0) = false from (bne_eq_false_iff_eq.mpr (by rw [only_res (vals := vals) (by omega)]))]; rfl)) rfl rfl hr (v := .bool ((((ASt.new (((nn : Nat) : Int) + 2)).reserve ((nn : Nat) : Int)).1.1) != 0)) (by kernel_rfl) ?_; clear hr a; intro a hr
      refine op_val (wn rfl) rfl rfl hr (v := .bool ((((ASt.new (((nn : Nat) : Int) + 2)).reserve ((nn : Nat) : Int)).1.1) != 0)) (rp_f (b := ((((ASt.new (((nn : Nat) : Int) + 2)).reserve ((nn : Nat) : Int)).1.2) != 0)) rfl (by kernel_rfl) (bne_eq_false_iff_eq.mpr (by rw [only_res (vals := vals) (by omega)])) (by kernel_rfl)) ?_; clear hr a; intro a hr
      refine wpList_nil ?_
      refine then_normal ?_
      refine cond_f hr (b := ((((ASt.new (((nn : Nat) : Int) + 2)).reserve ((nn : Nat) : Int)).1.1) != 0)) (by kernel_rfl) (bne_eq_false_iff_eq.mpr (by rw [only_res (vals := vals) (by omega)])) ?_
      refine wp_skip ?_
      refine then_normal ?_
      obtain ⟨j, hr2⟩ := hr.fold [(0, .slice va vals.length vc), (3, .pointer (some ⟨b1, 0, none⟩)), (5, .int .i64 ((nn : Nat) : Int)), (6, .pointer (some ⟨A3, 0, none⟩))] ⟨by kernel_rfl, by kernel_rfl, by kernel_rfl, by kernel_rfl, trivial⟩; clear hr; have hr := hr2; clear hr2
      have h : Fit z (sepL (old W :: ArenaP A3 (St nn vals 0) :: pts b1 (.cells #[.int .i64 sd, .int .i64 mk, .int .i64 mi, .int .i64 mx, .int .i64 my] 30) :: L)) w := by first | (rw [← only_new (by omega)]; exact (((h.pick 2).pick 1).pick 2)) | (rw [show St nn vals 0 = ((ASt.new (((nn : Nat) : Int) + 2)).reserve ((nn : Nat) : Int)).2 by rw [only_res (by omega)]]; exact (((h.pick 2).pick 1).pick 2))
      exact ⟨(), j, hr, h⟩
    ·
      refine cond_f hr (b := (decide (((nn : Nat) : Int) > 0))) (by kernel_rfl) (decide_eq_false c4) ?_
      refine wp_skip ?_
      refine then_normal ?_
      obtain ⟨j, hr2⟩ := hr.fold [(0, .slice va vals.length vc), (3, .pointer (some ⟨b1, 0, none⟩)), (5, .int .i64 ((nn : Nat) : Int)), (6, .pointer (some ⟨A3, 0, none⟩))] ⟨by kernel_rfl, by kernel_rfl, by kernel_rfl, by kernel_rfl, trivial⟩; clear hr; have hr := hr2; clear hr2
      have h : Fit z (sepL (old W :: ArenaP A3 (St nn vals 0) :: pts b1 (.cells #[.int .i64 sd, .int .i64 mk, .int .i64 mi, .int .i64 mx, .int .i64 my] 30) :: L)) w := by first | (rw [← only_new (by omega)]; exact (((h.pick 2).pick 1).pick 2)) | (rw [show St nn vals 0 = ((ASt.new (((nn : Nat) : Int) + 2)).reserve ((nn : Nat) : Int)).2 by rw [only_res (by omega)]]; exact (((h.pick 2).pick 1).pick 2))
      exact ⟨(), j, hr, h⟩
  clear h hr a; rintro _ a w ⟨j, hr, h⟩
  refine wp_seq ?_
  refine wp_seq ?_
  refine wp_region_lit ?_
  refine op_val (wn rfl) rfl rfl hr (v := .int .i64 0) (by kernel_rfl) ?_; clear hr a; intro a hr
  refine wpList_nil ?_
  refine then_normal ?_
  refine wp_block ?_
  obtain ⟨j, hr2⟩ := hr.fold [(0, .slice va vals.length vc), (3, .pointer (some ⟨b1, 0, none⟩)), (5, .int .i64 ((nn : Nat) : Int)), (6, .pointer (some ⟨A3, 0, none⟩)), (10, .int .i64 ((0 : Nat) : Int))] ⟨by kernel_rfl, by kernel_rfl, by kernel_rfl, by kernel_rfl, by kernel_rfl, trivial⟩; clear hr; have hr := hr2; clear hr2
  have h : Fit z (sepL (old W :: ArenaP A3 (St nn vals 0) :: pts b1 (.cells #[.int .i64 sd, .int .i64 mk, .int .i64 mi, .int .i64 mx, .int .i64 my] 30) :: L)) w := by first | exact (((h.pick 2).pick 2).pick 2) | (rw [show St nn vals (i + 1) = ((St nn vals i).store ((i : Nat) : Int) (at_ vals i)).2 by rw [only_store (by omega) hn2]]; exact (((h.pick 2).pick 2).pick 2))
  refine loop_rule (β := Nat) id (fun m a w => ∃ i : Nat, m = nn - i ∧ ∃ j, Rep 128 (lk [(0, .slice va vals.length vc), (3, .pointer (some ⟨b1, 0, none⟩)), (5, .int .i64 ((nn : Nat) : Int)), (6, .pointer (some ⟨A3, 0, none⟩)), (10, .int .i64 ((i : Nat) : Int))] j) a ∧ (i ≤ nn) ∧ Fit z (sepL (old W :: ArenaP A3 (St nn vals i) :: pts b1 (.cells #[.int .i64 sd, .int .i64 mk, .int .i64 mi, .int .i64 mx, .int .i64 my] 30) :: L)) w) (nn - 0) ⟨0, rfl, j, hr, (by omega), h⟩ ?_
  clear h hr a; rintro m a w ⟨i, rfl, j, hr, hi, h⟩
  have hS := St_len hi hn2
  refine wp_seq ?_
  refine wp_seq ?_
  refine wp_region_lit ?_
  refine op_val (wn rfl) rfl rfl hr (v := .int .i64 ((i : Nat) : Int)) (by kernel_rfl) ?_; clear hr a; intro a hr
  refine op_val (wn rfl) rfl rfl hr (v := .int .i64 ((nn : Nat) : Int)) (by kernel_rfl) ?_; clear hr a; intro a hr
  refine op_val (wn rfl) rfl rfl hr (v := .bool (decide (((i : Nat) : Int) < ((nn : Nat) : Int)))) (by kernel_rfl) ?_; clear hr a; intro a hr
  refine wpList_nil ?_
  refine then_normal ?_
  by_cases c5 : ((i : Nat) : Int) < ((nn : Nat) : Int)
  ·
    refine cond_t hr (b := (decide (((i : Nat) : Int) < ((nn : Nat) : Int)))) (by kernel_rfl) (decide_eq_true c5) ?_
    refine wp_skip ?_
    refine then_normal ?_
    refine wp_seq ?_
    refine wp_block ?_
    refine wp_seq ?_
    refine wp_region_lit ?_
    refine op_val (wn rfl) rfl rfl hr (v := .pointer (some ⟨A3, 0, none⟩)) (by kernel_rfl) ?_; clear hr a; intro a hr
    refine op_val (wn rfl) rfl rfl hr (v := .int .i64 ((i : Nat) : Int)) (by kernel_rfl) ?_; clear hr a; intro a hr
    refine op_val (wn rfl) rfl rfl hr (v := .slice va vals.length vc) (by kernel_rfl) ?_; clear hr a; intro a hr
    refine op_val (wn rfl) rfl rfl hr (v := .int .i64 ((i : Nat) : Int)) (by kernel_rfl) ?_; clear hr a; intro a hr
    obtain ⟨ab6, ao7, ae8, ah9⟩ := hv (by omega)
    refine op_val (wn rfl) rfl rfl hr (v := .pointer (some ⟨ab6, ao7 + ((((i : Nat) : Int)).toNat) * 1, none⟩)) (rie (k := .i64) (g := ab6) (off := ao7) (len := vals.length) (cap := vc) ae8 (i := ((i : Nat) : Int)) (E := 2) (sz := 1) rfl (by kernel_rfl) (by kernel_rfl) (by kernel_rfl) (by kernel_rfl) (by omega) (by omega)) ?_; clear hr a; intro a hr
    refine op_val (wn rfl) rfl rfl hr (v := .int .i64 (at_ vals ((((i : Nat) : Int)).toNat))) (rl rfl (by kernel_rfl) (by kernel_rfl) (h.old_cell (ah9 ((((i : Nat) : Int)).toNat) (at_ vals ((((i : Nat) : Int)).toNat)) 0 _ (get_at (by (try simp only [List.length_set, List.length_append, List.length_replicate]); omega)) rfl))) ?_; clear hr a; intro a hr
    refine op_call (wn rfl) rfl rfl hr (f := 21) (args := #[.pointer (some ⟨A3, 0, none⟩), .int .i64 ((i : Nat) : Int), .int .i64 (at_ vals ((((i : Nat) : Int)).toNat))]) (by kernel_rfl) (store_spec (hl := (by exact Nat.lt_of_le_of_lt (Nat.zero_le 0) (by decide))) (hs := (by rw [hS]; omega)) (h := (h.pick 1))) ?_; clear h
    rintro _ w ⟨rfl, h⟩; refine ⟨_, rfl, ?_⟩
    clear hr a; intro a hr
    have h : Fit z (sepL (ArenaP A3 (((St nn vals i).store ((i : Nat) : Int) (at_ vals ((((i : Nat) : Int)).toNat))).2) :: old W :: pts b1 (.cells #[.int .i64 sd, .int .i64 mk, .int .i64 mi, .int .i64 mx, .int .i64 my] 30) :: L)) _ := h
    refine op_val (wn rfl) rfl rfl hr (v := .int .i64 (((St nn vals i).store ((i : Nat) : Int) (at_ vals ((((i : Nat) : Int)).toNat))).1)) (by kernel_rfl) ?_; clear hr a; intro a hr
    refine wpList_nil ?_
    refine then_normal ?_
    refine wp_seq ?_
    refine wp_region_lit ?_
    refine op_val (wn rfl) rfl rfl hr (v := .int .i64 (((St nn vals i).store ((i : Nat) : Int) (at_ vals ((((i : Nat) : Int)).toNat))).1)) (by kernel_rfl) ?_; clear hr a; intro a hr
    refine op_val (wn rfl) rfl rfl hr (v := .bool ((((St nn vals i).store ((i : Nat) : Int) (at_ vals ((((i : Nat) : Int)).toNat))).1) != 0)) (by kernel_rfl) ?_; clear hr a; intro a hr
    refine wpList_nil ?_
    refine then_normal ?_
    refine cond_f hr (b := ((((St nn vals i).store ((i : Nat) : Int) (at_ vals ((((i : Nat) : Int)).toNat))).1) != 0)) (by kernel_rfl) (bne_eq_false_iff_eq.mpr (by exact congrArg Prod.fst (only_store (by omega) hn2))) ?_
    refine wp_skip ?_
    refine blk_normal ?_
    refine then_normal ?_
    refine wp_region_lit ?_
    refine op_val (wn rfl) rfl rfl hr (v := .int .i64 ((i : Nat) : Int)) (by kernel_rfl) ?_; clear hr a; intro a hr
    refine op_val (wn rfl) rfl rfl hr (v := .int .i64 (((i : Nat) : Int) + 1)) (ra (m := IntKind.i64.wrap (((i : Nat) : Int) + 1)) (by kernel_rfl) ((i64_in _ (by omega)).trans (by omega))) ?_; clear hr a; intro a hr
    refine op_val (wn rfl) rfl rfl hr (v := .int .i64 (((i : Nat) : Int) + 1)) (by kernel_rfl) ?_; clear hr a; intro a hr
    refine wpList_nil ?_
    refine then_normal ?_
    obtain ⟨j, hr2⟩ := hr.fold [(0, .slice va vals.length vc), (3, .pointer (some ⟨b1, 0, none⟩)), (5, .int .i64 ((nn : Nat) : Int)), (6, .pointer (some ⟨A3, 0, none⟩)), (10, .int .i64 (((i + 1) : Nat) : Int))] ⟨by kernel_rfl, by kernel_rfl, by kernel_rfl, by kernel_rfl, by kernel_rfl, trivial⟩; clear hr; have hr := hr2; clear hr2
    have h : Fit z (sepL (old W :: ArenaP A3 (St nn vals (i + 1)) :: pts b1 (.cells #[.int .i64 sd, .int .i64 mk, .int .i64 mi, .int .i64 mx, .int .i64 my] 30) :: L)) w := by first | exact (((h.pick 2).pick 1).pick 2) | (rw [show St nn vals (i + 1) = ((St nn vals i).store ((i : Nat) : Int) (at_ vals i)).2 by rw [only_store (by omega) hn2]]; exact (((h.pick 2).pick 1).pick 2))
    exact ⟨_, ⟨i + 1, rfl, j, hr, (by omega), h⟩, by simp only [id]; omega⟩
  ·
    have hiN : i = nn := by omega
    refine cond_f hr (b := (decide (((i : Nat) : Int) < ((nn : Nat) : Int)))) (by kernel_rfl) (decide_eq_false c5) ?_
    refine wp_exit ?_
    refine then_exit ?_
    refine then_exit ?_
    refine blk_here ?_
    refine then_normal ?_
    refine cut_rule (β := Unit) (fun _ a w => ∃ fb : Nat, ∃ j, Rep 128 (lk [(0, .slice va vals.length vc), (3, .pointer (some ⟨b1, 0, none⟩)), (5, .int .i64 ((nn : Nat) : Int)), (6, .pointer (some ⟨A3, 0, none⟩)), (12, .pointer (some ⟨fb, 0, none⟩))] j) a ∧ Fit z (sepL (old W :: ArenaP A3 (((St nn vals i).done (mk % 5) mi mx my).2) :: pts b1 (.cells #[.int .i64 sd, .int .i64 mk, .int .i64 mi, .int .i64 mx, .int .i64 my] 30) :: pts fb (.cells #[.int .i64 (((St nn vals i).done (mk % 5) mi mx my).1.1), .bool (((St nn vals i).done (mk % 5) mi mx my).1.2.1), .int .i64 (((St nn vals i).done (mk % 5) mi mx my).1.2.2)] 39) :: L)) w) ?_ ?_
    ·
      refine reg_any h (by kernel_rfl) ?_; intro w h
      change wpAny _ _ _ _ 14 (Array.replicate 14 false) a w
      refine any_val (fuel := 13) (i := 0) rfl (paninv_then paninv_body) (by kernel_rfl) (by kernel_rfl) (by kernel_rfl) (wn rfl) rfl rfl hr (v := .pointer (some ⟨A3, 0, none⟩)) (fun w => by kernel_rfl) ?_; clear hr a; intro a hr
      refine any_val (fuel := 12) (i := 1) rfl (paninv_then paninv_body) (by kernel_rfl) (by kernel_rfl) (by kernel_rfl) (wn rfl) rfl rfl hr (v := .pointer (some ⟨b1, 1, none⟩)) (fun w => by kernel_rfl) ?_; clear hr a; intro a hr
      refine any_val (fuel := 11) (i := 4) rfl (paninv_then paninv_body) (by kernel_rfl) (by kernel_rfl) (by kernel_rfl) (wn rfl) rfl rfl hr (v := .pointer (some ⟨b1, 2, none⟩)) (fun w => by kernel_rfl) ?_; clear hr a; intro a hr
      refine any_val (fuel := 10) (i := 6) rfl (paninv_then paninv_body) (by kernel_rfl) (by kernel_rfl) (by kernel_rfl) (wn rfl) rfl rfl hr (v := .pointer (some ⟨b1, 3, none⟩)) (fun w => by kernel_rfl) ?_; clear hr a; intro a hr
      refine any_val (fuel := 9) (i := 8) rfl (paninv_then paninv_body) (by kernel_rfl) (by kernel_rfl) (by kernel_rfl) (wn rfl) rfl rfl hr (v := .pointer (some ⟨b1, 4, none⟩)) (fun w => by kernel_rfl) ?_; clear hr a; intro a hr
      refine any_load (b := b1) (off := 1) (cs := [.int .i64 mk]) (fuel := 8) (i := 2) rfl (paninv_then paninv_body) (by kernel_rfl) (by kernel_rfl) (by kernel_rfl) (by kernel_rfl) (wn rfl) rfl rfl hr ⟨(h.pick 2).cell 1 rfl, trivial⟩ (v := .int .i64 mk) (fun w hc => rl rfl (by kernel_rfl) (by kernel_rfl) hc.1) ?_; clear hr a; intro a hr
      refine flo_start [3, 5, 7, 9, 10] [12] (fun Ls => old W :: ArenaP A3 (St nn vals i) :: pts b1 (.cells #[.int .i64 sd, .int .i64 mk, .int .i64 mi, .int .i64 mx, .int .i64 my] 30) :: Ls) (fun p Ls w h => have h : Fit z (sepL (p :: old W :: ArenaP A3 (St nn vals i) :: pts b1 (.cells #[.int .i64 sd, .int .i64 mk, .int .i64 mi, .int .i64 mx, .int .i64 my] 30) :: Ls)) w := h; (((h.pick 3).pick 3).pick 3)) h ?_
      refine flo_call (fuel := 7) (i := 3) rfl (by kernel_rfl) (by kernel_rfl) (by kernel_rfl) (by kernel_rfl) (by kernel_rfl) (wn rfl) rfl rfl hr (f := 23) (args := #[.int .i64 mk, .int .i64 5]) (v := .int .i64 (mk % 5)) (fun Ls w h => by kernel_rfl) (fun Ls w h => have h : Fit z (sepL (old W :: ArenaP A3 (St nn vals i) :: pts b1 (.cells #[.int .i64 sd, .int .i64 mk, .int .i64 mi, .int .i64 mx, .int .i64 my] 30) :: Ls)) w := h; ((mod_spec (hn := (by omega)) (hn2 := (by omega)) (h := h)).mono (by rintro _ w ⟨rfl, h⟩; exact ⟨rfl, (((h.pick 2).pick 2).pick 2)⟩))) ?_; clear hr a; intro a hr
      refine flo_val (fuel := 6) (i := 5) rfl (by kernel_rfl) (by kernel_rfl) (by kernel_rfl) (by kernel_rfl) (by kernel_rfl) (wn rfl) rfl rfl hr (v := .int .i64 mi) (fun Ls w h => have h : Fit z (sepL (old W :: ArenaP A3 (St nn vals i) :: pts b1 (.cells #[.int .i64 sd, .int .i64 mk, .int .i64 mi, .int .i64 mx, .int .i64 my] 30) :: Ls)) w := h; (rl rfl (by kernel_rfl) (by kernel_rfl) ((h.pick 2).cell 2 rfl))) ?_; clear hr a; intro a hr
      refine flo_val (fuel := 5) (i := 7) rfl (by kernel_rfl) (by kernel_rfl) (by kernel_rfl) (by kernel_rfl) (by kernel_rfl) (wn rfl) rfl rfl hr (v := .int .i64 mx) (fun Ls w h => have h : Fit z (sepL (old W :: ArenaP A3 (St nn vals i) :: pts b1 (.cells #[.int .i64 sd, .int .i64 mk, .int .i64 mi, .int .i64 mx, .int .i64 my] 30) :: Ls)) w := h; (rl rfl (by kernel_rfl) (by kernel_rfl) ((h.pick 2).cell 3 rfl))) ?_; clear hr a; intro a hr
      refine flo_val (fuel := 4) (i := 9) rfl (by kernel_rfl) (by kernel_rfl) (by kernel_rfl) (by kernel_rfl) (by kernel_rfl) (wn rfl) rfl rfl hr (v := .int .i64 my) (fun Ls w h => have h : Fit z (sepL (old W :: ArenaP A3 (St nn vals i) :: pts b1 (.cells #[.int .i64 sd, .int .i64 mk, .int .i64 mi, .int .i64 mx, .int .i64 my] 30) :: Ls)) w := h; (rl rfl (by kernel_rfl) (by kernel_rfl) ((h.pick 2).cell 4 rfl))) ?_; clear hr a; intro a hr
      refine flo_val (fuel := 3) (i := 10) rfl (by kernel_rfl) (by kernel_rfl) (by kernel_rfl) (by kernel_rfl) (by kernel_rfl) (wn rfl) rfl rfl hr (v := .agg #[.int .i64 0, .int .i64 (mk % 5), .int .i64 mi, .int .i64 mx, .int .i64 my]) (fun Ls w h => have h : Fit z (sepL (old W :: ArenaP A3 (St nn vals i) :: pts b1 (.cells #[.int .i64 sd, .int .i64 mk, .int .i64 mi, .int .i64 mx, .int .i64 my] 30) :: Ls)) w := h; (by kernel_rfl)) ?_; clear hr a; intro a hr
      refine flo_split [11, 12] (by kernel_rfl) rfl (vall_cons ?_ (vall_cons ?_ (vall_nil))) 
      ·
        refine flo_eff (fuel := 2) (i := 11) rfl (by kernel_rfl) (by kernel_rfl) ?_; intro w h
        have h : Fit z (sepL (old W :: ArenaP A3 (St nn vals i) :: pts b1 (.cells #[.int .i64 sd, .int .i64 mk, .int .i64 mi, .int .i64 mx, .int .i64 my] 30) :: L)) _ := h
        refine op_call (wn rfl) rfl rfl hr (f := 22) (args := #[.pointer (some ⟨A3, 0, none⟩), .agg #[.int .i64 0, .int .i64 (mk % 5), .int .i64 mi, .int .i64 mx, .int .i64 my]]) (by kernel_rfl) (done_spec (hl := (by exact Nat.lt_of_le_of_lt (Nat.zero_le 0) (by decide))) (hs := (by first | omega | (rw [St_len (by omega) hn2]; omega))) (hz := (by show ((nn : Int) + 2) ≤ 1048576; omega)) (hz0 := (by show _ ≤ ((nn : Int) + 2); rw [St_len (by omega) hn2]; omega)) (wx := (by omega)) (h := (h.pick 1))) ?_; clear h
        rintro _ w ⟨rfl, h⟩; refine ⟨_, rfl, ?_⟩
        clear hr a; intro a hr
        have h : Fit z (sepL (ArenaP A3 (((St nn vals i).done (mk % 5) mi mx my).2) :: old W :: pts b1 (.cells #[.int .i64 sd, .int .i64 mk, .int .i64 mi, .int .i64 mx, .int .i64 my] 30) :: L)) _ := h
        refine wpList_nil ?_; refine then_normal ?_
        refine any_one (fuel := 1) (i := 12) (by kernel_rfl) rfl ?_
        refine op_new (wn rfl) rfl rfl hr h (vf := fun b => .pointer (some ⟨b, 0, none⟩)) (cs := #[.int .i64 0, .bool false, .int .i64 0]) (T := 39) (by kernel_rfl) ?_; clear h hr a; intro b10 w a h hr
        refine wpList_nil ?_; refine then_normal ?_
        refine any_one (fuel := 0) (i := 13) (by kernel_rfl) rfl ?_
        refine op_stores (wn rfl) rfl hr rfl (by kernel_rfl) (by kernel_rfl) (vs := [.int .i64 (((St nn vals i).done (mk % 5) mi mx my).1.1), .bool (((St nn vals i).done (mk % 5) mi mx my).1.2.1), .int .i64 (((St nn vals i).done (mk % 5) mi mx my).1.2.2)]) rfl rfl (by kernel_rfl) h (i := 0) (cs' := #[.int .i64 (((St nn vals i).done (mk % 5) mi mx my).1.1), .bool (((St nn vals i).done (mk % 5) mi mx my).1.2.1), .int .i64 (((St nn vals i).done (mk % 5) mi mx my).1.2.2)]) rfl ?_; clear h; intro w h
        have h : Fit z (sepL (pts b10 (.cells #[.int .i64 (((St nn vals i).done (mk % 5) mi mx my).1.1), .bool (((St nn vals i).done (mk % 5) mi mx my).1.2.1), .int .i64 (((St nn vals i).done (mk % 5) mi mx my).1.2.2)] 39) :: ArenaP A3 (((St nn vals i).done (mk % 5) mi mx my).2) :: old W :: pts b1 (.cells #[.int .i64 sd, .int .i64 mk, .int .i64 mi, .int .i64 mx, .int .i64 my] 30) :: L)) _ := h
        refine wpList_nil ?_; refine then_normal ?_
        refine any_end (by kernel_rfl) ?_
        refine then_normal ?_
        obtain ⟨j, hr2⟩ := hr.fold [(0, .slice va vals.length vc), (3, .pointer (some ⟨b1, 0, none⟩)), (5, .int .i64 ((nn : Nat) : Int)), (6, .pointer (some ⟨A3, 0, none⟩)), (12, .pointer (some ⟨b10, 0, none⟩))] ⟨by kernel_rfl, by kernel_rfl, by kernel_rfl, by kernel_rfl, by kernel_rfl, trivial⟩; clear hr; have hr := hr2; clear hr2
        have h : Fit z (sepL (old W :: ArenaP A3 (((St nn vals i).done (mk % 5) mi mx my).2) :: pts b1 (.cells #[.int .i64 sd, .int .i64 mk, .int .i64 mi, .int .i64 mx, .int .i64 my] 30) :: pts b10 (.cells #[.int .i64 (((St nn vals i).done (mk % 5) mi mx my).1.1), .bool (((St nn vals i).done (mk % 5) mi mx my).1.2.1), .int .i64 (((St nn vals i).done (mk % 5) mi mx my).1.2.2)] 39) :: L)) _ := (((h.pick 3).pick 2).pick 3)
        exact ⟨(), b10, j, hr, h⟩
      ·
        refine flo_new (fuel := 2) (i := 12) rfl (by kernel_rfl) (by kernel_rfl) (cs := #[.int .i64 0, .bool false, .int .i64 0]) (T := 39) (wn rfl) rfl rfl hr (fun w => by kernel_rfl) ?_; clear hr a; intro b11 a hr
        refine flo_split [11] (by kernel_rfl) rfl (vall_cons ?_ (vall_nil)) 
        ·
          refine flo_eff (fuel := 1) (i := 11) rfl (by kernel_rfl) (by kernel_rfl) ?_; intro w h
          have h : Fit z (sepL (old W :: ArenaP A3 (St nn vals i) :: pts b1 (.cells #[.int .i64 sd, .int .i64 mk, .int .i64 mi, .int .i64 mx, .int .i64 my] 30) :: pts b11 (.cells #[.int .i64 0, .bool false, .int .i64 0] 39) :: L)) _ := h
          refine op_call (wn rfl) rfl rfl hr (f := 22) (args := #[.pointer (some ⟨A3, 0, none⟩), .agg #[.int .i64 0, .int .i64 (mk % 5), .int .i64 mi, .int .i64 mx, .int .i64 my]]) (by kernel_rfl) (done_spec (hl := (by exact Nat.lt_of_le_of_lt (Nat.zero_le 0) (by decide))) (hs := (by first | omega | (rw [St_len (by omega) hn2]; omega))) (hz := (by show ((nn : Int) + 2) ≤ 1048576; omega)) (hz0 := (by show _ ≤ ((nn : Int) + 2); rw [St_len (by omega) hn2]; omega)) (wx := (by omega)) (h := (h.pick 1))) ?_; clear h
          rintro _ w ⟨rfl, h⟩; refine ⟨_, rfl, ?_⟩
          clear hr a; intro a hr
          have h : Fit z (sepL (ArenaP A3 (((St nn vals i).done (mk % 5) mi mx my).2) :: old W :: pts b1 (.cells #[.int .i64 sd, .int .i64 mk, .int .i64 mi, .int .i64 mx, .int .i64 my] 30) :: pts b11 (.cells #[.int .i64 0, .bool false, .int .i64 0] 39) :: L)) _ := h
          refine wpList_nil ?_; refine then_normal ?_
          refine any_one (fuel := 0) (i := 13) (by kernel_rfl) rfl ?_
          refine op_stores (wn rfl) rfl hr rfl (by kernel_rfl) (by kernel_rfl) (vs := [.int .i64 (((St nn vals i).done (mk % 5) mi mx my).1.1), .bool (((St nn vals i).done (mk % 5) mi mx my).1.2.1), .int .i64 (((St nn vals i).done (mk % 5) mi mx my).1.2.2)]) rfl rfl (by kernel_rfl) (h.pick 3) (i := 0) (cs' := #[.int .i64 (((St nn vals i).done (mk % 5) mi mx my).1.1), .bool (((St nn vals i).done (mk % 5) mi mx my).1.2.1), .int .i64 (((St nn vals i).done (mk % 5) mi mx my).1.2.2)]) rfl ?_; clear h; intro w h
          have h : Fit z (sepL (pts b11 (.cells #[.int .i64 (((St nn vals i).done (mk % 5) mi mx my).1.1), .bool (((St nn vals i).done (mk % 5) mi mx my).1.2.1), .int .i64 (((St nn vals i).done (mk % 5) mi mx my).1.2.2)] 39) :: ArenaP A3 (((St nn vals i).done (mk % 5) mi mx my).2) :: old W :: pts b1 (.cells #[.int .i64 sd, .int .i64 mk, .int .i64 mi, .int .i64 mx, .int .i64 my] 30) :: L)) _ := h
          refine wpList_nil ?_; refine then_normal ?_
          refine any_end (by kernel_rfl) ?_
          refine then_normal ?_
          obtain ⟨j, hr2⟩ := hr.fold [(0, .slice va vals.length vc), (3, .pointer (some ⟨b1, 0, none⟩)), (5, .int .i64 ((nn : Nat) : Int)), (6, .pointer (some ⟨A3, 0, none⟩)), (12, .pointer (some ⟨b11, 0, none⟩))] ⟨by kernel_rfl, by kernel_rfl, by kernel_rfl, by kernel_rfl, by kernel_rfl, trivial⟩; clear hr; have hr := hr2; clear hr2
          have h : Fit z (sepL (old W :: ArenaP A3 (((St nn vals i).done (mk % 5) mi mx my).2) :: pts b1 (.cells #[.int .i64 sd, .int .i64 mk, .int .i64 mi, .int .i64 mx, .int .i64 my] 30) :: pts b11 (.cells #[.int .i64 (((St nn vals i).done (mk % 5) mi mx my).1.1), .bool (((St nn vals i).done (mk % 5) mi mx my).1.2.1), .int .i64 (((St nn vals i).done (mk % 5) mi mx my).1.2.2)] 39) :: L)) _ := (((h.pick 3).pick 2).pick 3)
          exact ⟨(), b11, j, hr, h⟩
    clear h hr a; rintro _ a w ⟨fb, j, hr, h⟩
    obtain ⟨hd1, hd2, hd3⟩ := only_done (k := mk % 5) (ad := mi) (x := mx) (y := my) hiN hn2
    have hd4 := only_done4 (k := mk % 5) (ad := mi) (x := mx) (y := my) hiN hn2
    refine wp_seq ?_
    refine wp_region_lit ?_
    refine op_val (wn rfl) rfl rfl hr (v := .pointer (some ⟨A3, 0, none⟩)) (by kernel_rfl) ?_; clear hr a; intro a hr
    refine op_call (wn rfl) rfl rfl hr (f := 24) (args := #[.pointer (some ⟨A3, 0, none⟩)]) (by kernel_rfl) (cells_spec (hs := (by omega)) (h := (h.pick 1))) ?_; clear h
    rintro _ w ⟨g12, cp13, rfl, h⟩; refine ⟨_, rfl, ?_⟩
    clear hr a; intro a hr
    have h : Fit z (sepL (ArenaP A3 (((St nn vals i).done (mk % 5) mi mx my).2) :: slc 2 1 encI g12 cp13 ((((St nn vals i).done (mk % 5) mi mx my).2).cells) :: old W :: pts b1 (.cells #[.int .i64 sd, .int .i64 mk, .int .i64 mi, .int .i64 mx, .int .i64 my] 30) :: pts fb (.cells #[.int .i64 (((St nn vals i).done (mk % 5) mi mx my).1.1), .bool (((St nn vals i).done (mk % 5) mi mx my).1.2.1), .int .i64 (((St nn vals i).done (mk % 5) mi mx my).1.2.2)] 39) :: L)) _ := h
    refine op_val (wn rfl) rfl rfl hr (v := .slice (some ⟨g12, 0, none⟩) ((((St nn vals i).done (mk % 5) mi mx my).2).cells.length) cp13) (by kernel_rfl) ?_; clear hr a; intro a hr
    refine wpList_nil ?_
    refine then_normal ?_
    refine cut_rule (β := Unit) (fun _ a w => ∃ j, Rep 128 (lk [(0, .slice va vals.length vc), (3, .pointer (some ⟨b1, 0, none⟩)), (5, .int .i64 ((nn : Nat) : Int)), (12, .pointer (some ⟨fb, 0, none⟩)), (13, .slice (some ⟨g12, 0, none⟩) ((((St nn vals i).done (mk % 5) mi mx my).2).cells.length) cp13)] j) a ∧ Fit z (sepL (ArenaP A3 (((St nn vals i).done (mk % 5) mi mx my).2) :: slc 2 1 encI g12 cp13 ((((St nn vals i).done (mk % 5) mi mx my).2).cells) :: old W :: pts b1 (.cells #[.int .i64 sd, .int .i64 mk, .int .i64 mi, .int .i64 mx, .int .i64 my] 30) :: pts fb (.cells #[.int .i64 (((St nn vals i).done (mk % 5) mi mx my).1.1), .bool (((St nn vals i).done (mk % 5) mi mx my).1.2.1), .int .i64 (((St nn vals i).done (mk % 5) mi mx my).1.2.2)] 39) :: L)) w) ?_ ?_
    ·
      refine wp_seq ?_
      refine wp_region_lit ?_
      refine op_val (wn rfl) rfl rfl hr (v := .slice (some ⟨g12, 0, none⟩) ((((St nn vals i).done (mk % 5) mi mx my).2).cells.length) cp13) (by kernel_rfl) ?_; clear hr a; intro a hr
      refine op_val (wn rfl) rfl rfl hr (v := .int .i64 (((((St nn vals i).done (mk % 5) mi mx my).2).cells.length : Nat) : Int)) (by kernel_rfl) ?_; clear hr a; intro a hr
      refine op_val (wn rfl) rfl rfl hr (v := .int .i64 ((nn : Nat) : Int)) (by kernel_rfl) ?_; clear hr a; intro a hr
      refine op_val (wn rfl) rfl rfl hr (v := .bool (decide ((((((St nn vals i).done (mk % 5) mi mx my).2).cells.length : Nat) : Int) < ((nn : Nat) : Int)))) (by kernel_rfl) ?_; clear hr a; intro a hr
      refine op_val (wn rfl) rfl rfl hr (v := .bool (decide ((((((St nn vals i).done (mk % 5) mi mx my).2).cells.length : Nat) : Int) < ((nn : Nat) : Int)))) (by kernel_rfl) ?_; clear hr a; intro a hr
      refine op_val ((wg hr rfl rfl rfl (b' := (decide ((((((St nn vals i).done (mk % 5) mi mx my).2).cells.length : Nat) : Int) < ((nn : Nat) : Int)))) (by kernel_rfl)).trans (by rw [show (decide ((((((St nn vals i).done (mk % 5) mi mx my).2).cells.length : Nat) : Int) < ((nn : Nat) : Int))) = false from (decide_eq_false (by omega))]; rfl)) rfl rfl hr (v := .pointer (some ⟨b1, 1, none⟩)) (by kernel_rfl) ?_; clear hr a; intro a hr
      refine op_val ((wg hr rfl rfl rfl (b' := (decide ((((((St nn vals i).done (mk % 5) mi mx my).2).cells.length : Nat) : Int) < ((nn : Nat) : Int)))) (by kernel_rfl)).trans (by rw [show (decide ((((((St nn vals i).done (mk % 5) mi mx my).2).cells.length : Nat) : Int) < ((nn : Nat) : Int))) = false from (decide_eq_false (by omega))]; rfl)) rfl rfl hr (v := .int .i64 mk) (rl rfl (by kernel_rfl) (by kernel_rfl) ((h.pick 3).cell 1 rfl)) ?_; clear hr a; intro a hr
      refine op_call ((wg hr rfl rfl rfl (b' := (decide ((((((St nn vals i).done (mk % 5) mi mx my).2).cells.length : Nat) : Int) < ((nn : Nat) : Int)))) (by kernel_rfl)).trans (by rw [show (decide ((((((St nn vals i).done (mk % 5) mi mx my).2).cells.length : Nat) : Int) < ((nn : Nat) : Int))) = false from (decide_eq_false (by omega))]; rfl)) rfl rfl hr (f := 23) (args := #[.int .i64 mk, .int .i64 5]) (by kernel_rfl) (mod_spec (hn := (by omega)) (hn2 := (by omega)) (h := h)) ?_; clear h
      rintro _ w ⟨rfl, h⟩; refine ⟨_, rfl, ?_⟩
      clear hr a; intro a hr
      have h : Fit z (sepL (ArenaP A3 (((St nn vals i).done (mk % 5) mi mx my).2) :: slc 2 1 encI g12 cp13 ((((St nn vals i).done (mk % 5) mi mx my).2).cells) :: old W :: pts b1 (.cells #[.int .i64 sd, .int .i64 mk, .int .i64 mi, .int .i64 mx, .int .i64 my] 30) :: pts fb (.cells #[.int .i64 (((St nn vals i).done (mk % 5) mi mx my).1.1), .bool (((St nn vals i).done (mk % 5) mi mx my).1.2.1), .int .i64 (((St nn vals i).done (mk % 5) mi mx my).1.2.2)] 39) :: L)) _ := h
      refine op_val ((wg hr rfl rfl rfl (b' := (decide ((((((St nn vals i).done (mk % 5) mi mx my).2).cells.length : Nat) : Int) < ((nn : Nat) : Int)))) (by kernel_rfl)).trans (by rw [show (decide ((((((St nn vals i).done (mk % 5) mi mx my).2).cells.length : Nat) : Int) < ((nn : Nat) : Int))) = false from (decide_eq_false (by omega))]; rfl)) rfl rfl hr (v := .bool ((mk % 5) != 4)) (by kernel_rfl) ?_; clear hr a; intro a hr
      refine op_val ((wg hr rfl rfl rfl (b' := (decide ((((((St nn vals i).done (mk % 5) mi mx my).2).cells.length : Nat) : Int) < ((nn : Nat) : Int)))) (by kernel_rfl)).trans (by rw [show (decide ((((((St nn vals i).done (mk % 5) mi mx my).2).cells.length : Nat) : Int) < ((nn : Nat) : Int))) = false from (decide_eq_false (by omega))]; rfl)) rfl rfl hr (v := .bool ((mk % 5) != 4)) (by kernel_rfl) ?_; clear hr a; intro a hr
      by_cases c14 : (mk % 5) = 4
      ·
        refine op_off ((wg hr rfl rfl rfl (b' := ((mk % 5) != 4)) (by kernel_rfl)).trans (by rw [show ((mk % 5) != 4) = false from (bne_eq_false_iff_eq.mpr c14)]; rfl)) rfl rfl hr ?_
        clear hr a; intro a hr
        refine op_off ((wg hr rfl rfl rfl (b' := ((mk % 5) != 4)) (by kernel_rfl)).trans (by rw [show ((mk % 5) != 4) = false from (bne_eq_false_iff_eq.mpr c14)]; rfl)) rfl rfl hr ?_
        clear hr a; intro a hr
        refine op_off ((wg hr rfl rfl rfl (b' := ((mk % 5) != 4)) (by kernel_rfl)).trans (by rw [show ((mk % 5) != 4) = false from (bne_eq_false_iff_eq.mpr c14)]; rfl)) rfl rfl hr ?_
        clear hr a; intro a hr
        refine op_off ((wg hr rfl rfl rfl (b' := ((mk % 5) != 4)) (by kernel_rfl)).trans (by rw [show ((mk % 5) != 4) = false from (bne_eq_false_iff_eq.mpr c14)]; rfl)) rfl rfl hr ?_
        clear hr a; intro a hr
        refine op_val ((wg hr rfl rfl rfl (b' := (decide ((((((St nn vals i).done (mk % 5) mi mx my).2).cells.length : Nat) : Int) < ((nn : Nat) : Int)))) (by kernel_rfl)).trans (by rw [show (decide ((((((St nn vals i).done (mk % 5) mi mx my).2).cells.length : Nat) : Int) < ((nn : Nat) : Int))) = false from (decide_eq_false (by omega))]; rfl)) rfl rfl hr (v := .bool false) (rp_f (b := ((mk % 5) != 4)) rfl (by kernel_rfl) (bne_eq_false_iff_eq.mpr c14) (by kernel_rfl)) ?_; clear hr a; intro a hr
        refine op_val (wn rfl) rfl rfl hr (v := .bool false) (rp_f (b := (decide ((((((St nn vals i).done (mk % 5) mi mx my).2).cells.length : Nat) : Int) < ((nn : Nat) : Int)))) rfl (by kernel_rfl) (decide_eq_false (by omega)) (by kernel_rfl)) ?_; clear hr a; intro a hr
        refine wpList_nil ?_
        refine then_normal ?_
        refine cond_f hr (b := false) (by kernel_rfl) rfl ?_
        refine wp_skip ?_
        refine then_normal ?_
        obtain ⟨j, hr2⟩ := hr.fold [(0, .slice va vals.length vc), (3, .pointer (some ⟨b1, 0, none⟩)), (5, .int .i64 ((nn : Nat) : Int)), (12, .pointer (some ⟨fb, 0, none⟩)), (13, .slice (some ⟨g12, 0, none⟩) ((((St nn vals i).done (mk % 5) mi mx my).2).cells.length) cp13)] ⟨by kernel_rfl, by kernel_rfl, by kernel_rfl, by kernel_rfl, by kernel_rfl, trivial⟩; clear hr; have hr := hr2; clear hr2
        have h : Fit z (sepL (ArenaP A3 (((St nn vals i).done (mk % 5) mi mx my).2) :: slc 2 1 encI g12 cp13 ((((St nn vals i).done (mk % 5) mi mx my).2).cells) :: old W :: pts b1 (.cells #[.int .i64 sd, .int .i64 mk, .int .i64 mi, .int .i64 mx, .int .i64 my] 30) :: pts fb (.cells #[.int .i64 (((St nn vals i).done (mk % 5) mi mx my).1.1), .bool (((St nn vals i).done (mk % 5) mi mx my).1.2.1), .int .i64 (((St nn vals i).done (mk % 5) mi mx my).1.2.2)] 39) :: L)) _ := (((((h.pick 4).pick 4).pick 4).pick 4).pick 4)
        exact ⟨(), j, hr, h⟩
      ·
        refine op_val ((wg hr rfl rfl rfl (b' := ((mk % 5) != 4)) (by kernel_rfl)).trans (by rw [show ((mk % 5) != 4) = true from (bne_iff_ne.mpr c14)]; rfl)) rfl rfl hr (v := .slice (some ⟨g12, 0, none⟩) ((((St nn vals i).done (mk % 5) mi mx my).2).cells.length) cp13) (by kernel_rfl) ?_; clear hr a; intro a hr
        refine op_val ((wg hr rfl rfl rfl (b' := ((mk % 5) != 4)) (by kernel_rfl)).trans (by rw [show ((mk % 5) != 4) = true from (bne_iff_ne.mpr c14)]; rfl)) rfl rfl hr (v := .int .i64 (((((St nn vals i).done (mk % 5) mi mx my).2).cells.length : Nat) : Int)) (by kernel_rfl) ?_; clear hr a; intro a hr
        refine op_val ((wg hr rfl rfl rfl (b' := ((mk % 5) != 4)) (by kernel_rfl)).trans (by rw [show ((mk % 5) != 4) = true from (bne_iff_ne.mpr c14)]; rfl)) rfl rfl hr (v := .int .i64 ((nn : Nat) : Int)) (by kernel_rfl) ?_; clear hr a; intro a hr
        refine op_val ((wg hr rfl rfl rfl (b' := ((mk % 5) != 4)) (by kernel_rfl)).trans (by rw [show ((mk % 5) != 4) = true from (bne_iff_ne.mpr c14)]; rfl)) rfl rfl hr (v := .bool ((((((St nn vals i).done (mk % 5) mi mx my).2).cells.length : Nat) : Int) != ((nn : Nat) : Int))) (by kernel_rfl) ?_; clear hr a; intro a hr
        refine op_val ((wg hr rfl rfl rfl (b' := (decide ((((((St nn vals i).done (mk % 5) mi mx my).2).cells.length : Nat) : Int) < ((nn : Nat) : Int)))) (by kernel_rfl)).trans (by rw [show (decide ((((((St nn vals i).done (mk % 5) mi mx my).2).cells.length : Nat) : Int) < ((nn : Nat) : Int))) = false from (decide_eq_false (by omega))]; rfl)) rfl rfl hr (v := .bool ((((((St nn vals i).done (mk % 5) mi mx my).2).cells.length : Nat) : Int) != ((nn : Nat) : Int))) (rp_t (b := ((mk % 5) != 4)) rfl (by kernel_rfl) (bne_iff_ne.mpr c14) (by kernel_rfl)) ?_; clear hr a; intro a hr
        refine op_val (wn rfl) rfl rfl hr (v := .bool ((((((St nn vals i).done (mk % 5) mi mx my).2).cells.length : Nat) : Int) != ((nn : Nat) : Int))) (rp_f (b := (decide ((((((St nn vals i).done (mk % 5) mi mx my).2).cells.length : Nat) : Int) < ((nn : Nat) : Int)))) rfl (by kernel_rfl) (decide_eq_false (by omega)) (by kernel_rfl)) ?_; clear hr a; intro a hr
        refine wpList_nil ?_
        refine then_normal ?_
        refine cond_f hr (b := ((((((St nn vals i).done (mk % 5) mi mx my).2).cells.length : Nat) : Int) != ((nn : Nat) : Int))) (by kernel_rfl) (bne_eq_false_iff_eq.mpr (by have := hd2 (by omega); omega)) ?_
        refine wp_skip ?_
        refine then_normal ?_
        obtain ⟨j, hr2⟩ := hr.fold [(0, .slice va vals.length vc), (3, .pointer (some ⟨b1, 0, none⟩)), (5, .int .i64 ((nn : Nat) : Int)), (12, .pointer (some ⟨fb, 0, none⟩)), (13, .slice (some ⟨g12, 0, none⟩) ((((St nn vals i).done (mk % 5) mi mx my).2).cells.length) cp13)] ⟨by kernel_rfl, by kernel_rfl, by kernel_rfl, by kernel_rfl, by kernel_rfl, trivial⟩; clear hr; have hr := hr2; clear hr2
        have h : Fit z (sepL (ArenaP A3 (((St nn vals i).done (mk % 5) mi mx my).2) :: slc 2 1 encI g12 cp13 ((((St nn vals i).done (mk % 5) mi mx my).2).cells) :: old W :: pts b1 (.cells #[.int .i64 sd, .int .i64 mk, .int .i64 mi, .int .i64 mx, .int .i64 my] 30) :: pts fb (.cells #[.int .i64 (((St nn vals i).done (mk % 5) mi mx my).1.1), .bool (((St nn vals i).done (mk % 5) mi mx my).1.2.1), .int .i64 (((St nn vals i).done (mk % 5) mi mx my).1.2.2)] 39) :: L)) _ := (((((h.pick 4).pick 4).pick 4).pick 4).pick 4)
        exact ⟨(), j, hr, h⟩
    clear h hr a; rintro _ a w ⟨j, hr, h⟩
    refine wp_seq ?_
    refine wp_seq ?_
    refine wp_region_lit ?_
    refine op_val (wn rfl) rfl rfl hr (v := .int .i64 0) (by kernel_rfl) ?_; clear hr a; intro a hr
    refine wpList_nil ?_
    refine then_normal ?_
    refine wp_block ?_
    obtain ⟨j, hr2⟩ := hr.fold [(0, .slice va vals.length vc), (3, .pointer (some ⟨b1, 0, none⟩)), (5, .int .i64 ((nn : Nat) : Int)), (12, .pointer (some ⟨fb, 0, none⟩)), (13, .slice (some ⟨g12, 0, none⟩) ((((St nn vals i).done (mk % 5) mi mx my).2).cells.length) cp13), (14, .int .i64 ((0 : Nat) : Int))] ⟨by kernel_rfl, by kernel_rfl, by kernel_rfl, by kernel_rfl, by kernel_rfl, by kernel_rfl, trivial⟩; clear hr; have hr := hr2; clear hr2
    have h : Fit z (sepL (ArenaP A3 (((St nn vals i).done (mk % 5) mi mx my).2) :: slc 2 1 encI g12 cp13 ((((St nn vals i).done (mk % 5) mi mx my).2).cells) :: old W :: pts b1 (.cells #[.int .i64 sd, .int .i64 mk, .int .i64 mi, .int .i64 mx, .int .i64 my] 30) :: pts fb (.cells #[.int .i64 (((St nn vals i).done (mk % 5) mi mx my).1.1), .bool (((St nn vals i).done (mk % 5) mi mx my).1.2.1), .int .i64 (((St nn vals i).done (mk % 5) mi mx my).1.2.2)] 39) :: L)) _ := (((((h.pick 4).pick 4).pick 4).pick 4).pick 4)
    refine loop_rule (β := Nat) id (fun m a w => ∃ j2 : Nat, m = nn - j2 ∧ ∃ j, Rep 128 (lk [(0, .slice va vals.length vc), (3, .pointer (some ⟨b1, 0, none⟩)), (5, .int .i64 ((nn : Nat) : Int)), (12, .pointer (some ⟨fb, 0, none⟩)), (13, .slice (some ⟨g12, 0, none⟩) ((((St nn vals i).done (mk % 5) mi mx my).2).cells.length) cp13), (14, .int .i64 ((j2 : Nat) : Int))] j) a ∧ (j2 ≤ nn) ∧ Fit z (sepL (ArenaP A3 (((St nn vals i).done (mk % 5) mi mx my).2) :: slc 2 1 encI g12 cp13 ((((St nn vals i).done (mk % 5) mi mx my).2).cells) :: old W :: pts b1 (.cells #[.int .i64 sd, .int .i64 mk, .int .i64 mi, .int .i64 mx, .int .i64 my] 30) :: pts fb (.cells #[.int .i64 (((St nn vals i).done (mk % 5) mi mx my).1.1), .bool (((St nn vals i).done (mk % 5) mi mx my).1.2.1), .int .i64 (((St nn vals i).done (mk % 5) mi mx my).1.2.2)] 39) :: L)) w) (nn - 0) ⟨0, rfl, j, hr, (by omega), h⟩ ?_
    clear h hr a; rintro m a w ⟨j2, rfl, j, hr, hj2, h⟩
    refine wp_seq ?_
    refine wp_seq ?_
    refine wp_region_lit ?_
    refine op_val (wn rfl) rfl rfl hr (v := .int .i64 ((j2 : Nat) : Int)) (by kernel_rfl) ?_; clear hr a; intro a hr
    refine op_val (wn rfl) rfl rfl hr (v := .int .i64 ((nn : Nat) : Int)) (by kernel_rfl) ?_; clear hr a; intro a hr
    refine op_val (wn rfl) rfl rfl hr (v := .bool (decide (((j2 : Nat) : Int) < ((nn : Nat) : Int)))) (by kernel_rfl) ?_; clear hr a; intro a hr
    refine wpList_nil ?_
    refine then_normal ?_
    by_cases c15 : ((j2 : Nat) : Int) < ((nn : Nat) : Int)
    ·
      refine cond_t hr (b := (decide (((j2 : Nat) : Int) < ((nn : Nat) : Int)))) (by kernel_rfl) (decide_eq_true c15) ?_
      refine wp_skip ?_
      refine then_normal ?_
      refine wp_seq ?_
      refine wp_block ?_
      refine wp_seq ?_
      refine wp_region_lit ?_
      refine op_val (wn rfl) rfl rfl hr (v := .pointer (some ⟨b1, 1, none⟩)) (by kernel_rfl) ?_; clear hr a; intro a hr
      refine op_val (wn rfl) rfl rfl hr (v := .int .i64 mk) (rl rfl (by kernel_rfl) (by kernel_rfl) ((h.pick 3).cell 1 rfl)) ?_; clear hr a; intro a hr
      refine op_call (wn rfl) rfl rfl hr (f := 23) (args := #[.int .i64 mk, .int .i64 5]) (by kernel_rfl) (mod_spec (hn := (by omega)) (hn2 := (by omega)) (h := h)) ?_; clear h
      rintro _ w ⟨rfl, h⟩; refine ⟨_, rfl, ?_⟩
      clear hr a; intro a hr
      have h : Fit z (sepL (ArenaP A3 (((St nn vals i).done (mk % 5) mi mx my).2) :: slc 2 1 encI g12 cp13 ((((St nn vals i).done (mk % 5) mi mx my).2).cells) :: old W :: pts b1 (.cells #[.int .i64 sd, .int .i64 mk, .int .i64 mi, .int .i64 mx, .int .i64 my] 30) :: pts fb (.cells #[.int .i64 (((St nn vals i).done (mk % 5) mi mx my).1.1), .bool (((St nn vals i).done (mk % 5) mi mx my).1.2.1), .int .i64 (((St nn vals i).done (mk % 5) mi mx my).1.2.2)] 39) :: L)) _ := h
      refine op_val (wn rfl) rfl rfl hr (v := .bool ((mk % 5) == 4)) (by kernel_rfl) ?_; clear hr a; intro a hr
      refine op_val (wn rfl) rfl rfl hr (v := .bool ((mk % 5) == 4)) (by kernel_rfl) ?_; clear hr a; intro a hr
      by_cases c16 : (mk % 5) = 4
      ·
        refine op_off ((wg hr rfl rfl rfl (b' := ((mk % 5) == 4)) (by kernel_rfl)).trans (by rw [show ((mk % 5) == 4) = true from (beq_iff_eq.mpr c16)]; rfl)) rfl rfl hr ?_
        clear hr a; intro a hr
        refine op_off ((wg hr rfl rfl rfl (b' := ((mk % 5) == 4)) (by kernel_rfl)).trans (by rw [show ((mk % 5) == 4) = true from (beq_iff_eq.mpr c16)]; rfl)) rfl rfl hr ?_
        clear hr a; intro a hr
        refine op_off ((wg hr rfl rfl rfl (b' := ((mk % 5) == 4)) (by kernel_rfl)).trans (by rw [show ((mk % 5) == 4) = true from (beq_iff_eq.mpr c16)]; rfl)) rfl rfl hr ?_
        clear hr a; intro a hr
        refine op_off ((wg hr rfl rfl rfl (b' := ((mk % 5) == 4)) (by kernel_rfl)).trans (by rw [show ((mk % 5) == 4) = true from (beq_iff_eq.mpr c16)]; rfl)) rfl rfl hr ?_
        clear hr a; intro a hr
        refine op_val (wn rfl) rfl rfl hr (v := .bool true) (rp_t (b := ((mk % 5) == 4)) rfl (by kernel_rfl) (beq_iff_eq.mpr c16) (by kernel_rfl)) ?_; clear hr a; intro a hr
        refine op_val (wn rfl) rfl rfl hr (v := .bool true) (by kernel_rfl) ?_; clear hr a; intro a hr
        refine op_off ((wg hr rfl rfl rfl (b' := true) (by kernel_rfl)).trans rfl) rfl rfl hr ?_
        clear hr a; intro a hr
        refine op_off ((wg hr rfl rfl rfl (b' := true) (by kernel_rfl)).trans rfl) rfl rfl hr ?_
        clear hr a; intro a hr
        refine op_off ((wg hr rfl rfl rfl (b' := true) (by kernel_rfl)).trans rfl) rfl rfl hr ?_
        clear hr a; intro a hr
        refine op_val (wn rfl) rfl rfl hr (v := .bool true) (by kernel_rfl) ?_; clear hr a; intro a hr
        refine op_val (wn rfl) rfl rfl hr (v := .bool true) (by kernel_rfl) ?_; clear hr a; intro a hr
        refine op_off ((wg hr rfl rfl rfl (b' := true) (by kernel_rfl)).trans rfl) rfl rfl hr ?_
        clear hr a; intro a hr
        refine op_off ((wg hr rfl rfl rfl (b' := true) (by kernel_rfl)).trans rfl) rfl rfl hr ?_
        clear hr a; intro a hr
        refine op_off ((wg hr rfl rfl rfl (b' := true) (by kernel_rfl)).trans rfl) rfl rfl hr ?_
        clear hr a; intro a hr
        refine op_off ((wg hr rfl rfl rfl (b' := true) (by kernel_rfl)).trans rfl) rfl rfl hr ?_
        clear hr a; intro a hr
        refine op_val (wn rfl) rfl rfl hr (v := .bool true) (by kernel_rfl) ?_; clear hr a; intro a hr
        refine op_val (wn rfl) rfl rfl hr (v := .bool true) (by kernel_rfl) ?_; clear hr a; intro a hr
        refine wpList_nil ?_
        refine then_normal ?_
        refine wp_seq ?_
        refine reg_quiet h (by kernel_rfl) (by kernel_rfl) ?_
        refine qt_val (wn rfl) rfl rfl hr (v := .bool true) (fun w h => by kernel_rfl) ?_; clear hr a; intro a hr
        refine qt_val (wn rfl) rfl rfl hr (v := .bool true) (fun w h => by kernel_rfl) ?_; clear hr a; intro a hr
        refine qt_val ((wg hr rfl rfl rfl (b' := true) (by kernel_rfl)).trans rfl) rfl rfl hr (v := .slice (some ⟨g12, 0, none⟩) ((((St nn vals i).done (mk % 5) mi mx my).2).cells.length) cp13) (fun w h => by kernel_rfl) ?_; clear hr a; intro a hr
        refine qt_val ((wg hr rfl rfl rfl (b' := true) (by kernel_rfl)).trans rfl) rfl rfl hr (v := .int .i64 ((j2 : Nat) : Int)) (fun w h => by kernel_rfl) ?_; clear hr a; intro a hr
        refine qt_val ((wg hr rfl rfl rfl (b' := true) (by kernel_rfl)).trans rfl) rfl rfl hr (v := .pointer (some ⟨g12, ((((j2 : Nat) : Int)).toNat) * 1, none⟩)) (fun w h => ri0 (k := .i64) (g := g12) (len := ((((St nn vals i).done (mk % 5) mi mx my).2).cells.length)) (cap := cp13) (i := ((j2 : Nat) : Int)) (E := 2) (sz := 1) rfl (by kernel_rfl) (by kernel_rfl) (by kernel_rfl) (by kernel_rfl) (by omega) (by omega)) ?_; clear hr a; intro a hr
        refine qt_val ((wg hr rfl rfl rfl (b' := true) (by kernel_rfl)).trans rfl) rfl rfl hr (v := .int .i64 (at_ ((((St nn vals i).done (mk % 5) mi mx my).2).cells) ((((j2 : Nat) : Int)).toNat))) (fun w h => rl rfl (by kernel_rfl) (by kernel_rfl) ((h.pick 1).slc_get encI_ok ((((j2 : Nat) : Int)).toNat) 0 (at_ ((((St nn vals i).done (mk % 5) mi mx my).2).cells) ((((j2 : Nat) : Int)).toNat)) _ (get_at (by (try simp only [List.length_set, List.length_append, List.length_replicate]); omega)) rfl)) ?_; clear hr a; intro a hr
        refine qt_val ((wg hr rfl rfl rfl (b' := true) (by kernel_rfl)).trans rfl) rfl rfl hr (v := .slice va vals.length vc) (fun w h => by kernel_rfl) ?_; clear hr a; intro a hr
        refine qt_val ((wg hr rfl rfl rfl (b' := true) (by kernel_rfl)).trans rfl) rfl rfl hr (v := .int .i64 ((j2 : Nat) : Int)) (fun w h => by kernel_rfl) ?_; clear hr a; intro a hr
        obtain ⟨ab17, ao18, ae19, ah20⟩ := hv (by omega)
        refine qt_val ((wg hr rfl rfl rfl (b' := true) (by kernel_rfl)).trans rfl) rfl rfl hr (v := .pointer (some ⟨ab17, ao18 + ((((j2 : Nat) : Int)).toNat) * 1, none⟩)) (fun w h => rie (k := .i64) (g := ab17) (off := ao18) (len := vals.length) (cap := vc) ae19 (i := ((j2 : Nat) : Int)) (E := 2) (sz := 1) rfl (by kernel_rfl) (by kernel_rfl) (by kernel_rfl) (by kernel_rfl) (by omega) (by omega)) ?_; clear hr a; intro a hr
        refine qt_val ((wg hr rfl rfl rfl (b' := true) (by kernel_rfl)).trans rfl) rfl rfl hr (v := .int .i64 (at_ vals ((((j2 : Nat) : Int)).toNat))) (fun w h => rl rfl (by kernel_rfl) (by kernel_rfl) ((h.pick 2).old_cell (ah20 ((((j2 : Nat) : Int)).toNat) (at_ vals ((((j2 : Nat) : Int)).toNat)) 0 _ (get_at (by (try simp only [List.length_set, List.length_append, List.length_replicate]); omega)) rfl))) ?_; clear hr a; intro a hr
        refine qt_val ((wg hr rfl rfl rfl (b' := true) (by kernel_rfl)).trans rfl) rfl rfl hr (v := .bool ((at_ ((((St nn vals i).done (mk % 5) mi mx my).2).cells) ((((j2 : Nat) : Int)).toNat)) != (at_ vals ((((j2 : Nat) : Int)).toNat)))) (fun w h => by kernel_rfl) ?_; clear hr a; intro a hr
        refine qt_val (wn rfl) rfl rfl hr (v := .bool ((at_ ((((St nn vals i).done (mk % 5) mi mx my).2).cells) ((((j2 : Nat) : Int)).toNat)) != (at_ vals ((((j2 : Nat) : Int)).toNat)))) (fun w h => by kernel_rfl) ?_; clear hr a; intro a hr
        refine wpQuiet_nil ?_
        intro w h
        refine then_normal ?_
        refine cond_f hr (b := ((at_ ((((St nn vals i).done (mk % 5) mi mx my).2).cells) ((((j2 : Nat) : Int)).toNat)) != (at_ vals ((((j2 : Nat) : Int)).toNat)))) (by kernel_rfl) (bne_eq_false_iff_eq.mpr (hd3 _ (by omega) (by first | exact .inl (by omega) | exact .inr (.inl (by assumption)) | exact .inr (.inr (by omega))))) ?_
        refine wp_skip ?_
        refine blk_normal ?_
        refine then_normal ?_
        refine wp_region_lit ?_
        refine op_val (wn rfl) rfl rfl hr (v := .int .i64 ((j2 : Nat) : Int)) (by kernel_rfl) ?_; clear hr a; intro a hr
        refine op_val (wn rfl) rfl rfl hr (v := .int .i64 (((j2 : Nat) : Int) + 1)) (ra (m := IntKind.i64.wrap (((j2 : Nat) : Int) + 1)) (by kernel_rfl) ((i64_in _ (by omega)).trans (by omega))) ?_; clear hr a; intro a hr
        refine op_val (wn rfl) rfl rfl hr (v := .int .i64 (((j2 : Nat) : Int) + 1)) (by kernel_rfl) ?_; clear hr a; intro a hr
        refine wpList_nil ?_
        refine then_normal ?_
        obtain ⟨j, hr2⟩ := hr.fold [(0, .slice va vals.length vc), (3, .pointer (some ⟨b1, 0, none⟩)), (5, .int .i64 ((nn : Nat) : Int)), (12, .pointer (some ⟨fb, 0, none⟩)), (13, .slice (some ⟨g12, 0, none⟩) ((((St nn vals i).done (mk % 5) mi mx my).2).cells.length) cp13), (14, .int .i64 (((j2 + 1) : Nat) : Int))] ⟨by kernel_rfl, by kernel_rfl, by kernel_rfl, by kernel_rfl, by kernel_rfl, by kernel_rfl, trivial⟩; clear hr; have hr := hr2; clear hr2
        have h : Fit z (sepL (ArenaP A3 (((St nn vals i).done (mk % 5) mi mx my).2) :: slc 2 1 encI g12 cp13 ((((St nn vals i).done (mk % 5) mi mx my).2).cells) :: old W :: pts b1 (.cells #[.int .i64 sd, .int .i64 mk, .int .i64 mi, .int .i64 mx, .int .i64 my] 30) :: pts fb (.cells #[.int .i64 (((St nn vals i).done (mk % 5) mi mx my).1.1), .bool (((St nn vals i).done (mk % 5) mi mx my).1.2.1), .int .i64 (((St nn vals i).done (mk % 5) mi mx my).1.2.2)] 39) :: L)) _ := (((((h.pick 4).pick 4).pick 4).pick 4).pick 4)
        exact ⟨_, ⟨j2 + 1, rfl, j, hr, (by omega), h⟩, by simp only [id]; omega⟩
      ·
        refine op_val ((wg hr rfl rfl rfl (b' := ((mk % 5) == 4)) (by kernel_rfl)).trans (by rw [show ((mk % 5) == 4) = false from (beq_eq_false_iff_ne.mpr c16)]; rfl)) rfl rfl hr (v := .pointer (some ⟨b1, 1, none⟩)) (by kernel_rfl) ?_; clear hr a; intro a hr
        refine op_val ((wg hr rfl rfl rfl (b' := ((mk % 5) == 4)) (by kernel_rfl)).trans (by rw [show ((mk % 5) == 4) = false from (beq_eq_false_iff_ne.mpr c16)]; rfl)) rfl rfl hr (v := .int .i64 mk) (rl rfl (by kernel_rfl) (by kernel_rfl) ((h.pick 3).cell 1 rfl)) ?_; clear hr a; intro a hr
        refine op_call ((wg hr rfl rfl rfl (b' := ((mk % 5) == 4)) (by kernel_rfl)).trans (by rw [show ((mk % 5) == 4) = false from (beq_eq_false_iff_ne.mpr c16)]; rfl)) rfl rfl hr (f := 23) (args := #[.int .i64 mk, .int .i64 5]) (by kernel_rfl) (mod_spec (hn := (by omega)) (hn2 := (by omega)) (h := h)) ?_; clear h
        rintro _ w ⟨rfl, h⟩; refine ⟨_, rfl, ?_⟩
        clear hr a; intro a hr
        have h : Fit z (sepL (ArenaP A3 (((St nn vals i).done (mk % 5) mi mx my).2) :: slc 2 1 encI g12 cp13 ((((St nn vals i).done (mk % 5) mi mx my).2).cells) :: old W :: pts b1 (.cells #[.int .i64 sd, .int .i64 mk, .int .i64 mi, .int .i64 mx, .int .i64 my] 30) :: pts fb (.cells #[.int .i64 (((St nn vals i).done (mk % 5) mi mx my).1.1), .bool (((St nn vals i).done (mk % 5) mi mx my).1.2.1), .int .i64 (((St nn vals i).done (mk % 5) mi mx my).1.2.2)] 39) :: L)) _ := h
        refine op_val ((wg hr rfl rfl rfl (b' := ((mk % 5) == 4)) (by kernel_rfl)).trans (by rw [show ((mk % 5) == 4) = false from (beq_eq_false_iff_ne.mpr c16)]; rfl)) rfl rfl hr (v := .bool ((mk % 5) == 0)) (by kernel_rfl) ?_; clear hr a; intro a hr
        refine op_val (wn rfl) rfl rfl hr (v := .bool ((mk % 5) == 0)) (rp_f (b := ((mk % 5) == 4)) rfl (by kernel_rfl) (beq_eq_false_iff_ne.mpr c16) (by kernel_rfl)) ?_; clear hr a; intro a hr
        refine op_val (wn rfl) rfl rfl hr (v := .bool ((mk % 5) == 0)) (by kernel_rfl) ?_; clear hr a; intro a hr
        by_cases c21 : (mk % 5) = 0
        ·
          refine op_off ((wg hr rfl rfl rfl (b' := ((mk % 5) == 0)) (by kernel_rfl)).trans (by rw [show ((mk % 5) == 0) = true from (beq_iff_eq.mpr c21)]; rfl)) rfl rfl hr ?_
          clear hr a; intro a hr
          refine op_off ((wg hr rfl rfl rfl (b' := ((mk % 5) == 0)) (by kernel_rfl)).trans (by rw [show ((mk % 5) == 0) = true from (beq_iff_eq.mpr c21)]; rfl)) rfl rfl hr ?_
          clear hr a; intro a hr
          refine op_off ((wg hr rfl rfl rfl (b' := ((mk % 5) == 0)) (by kernel_rfl)).trans (by rw [show ((mk % 5) == 0) = true from (beq_iff_eq.mpr c21)]; rfl)) rfl rfl hr ?_
          clear hr a; intro a hr
          refine op_val (wn rfl) rfl rfl hr (v := .bool true) (rp_t (b := ((mk % 5) == 0)) rfl (by kernel_rfl) (beq_iff_eq.mpr c21) (by kernel_rfl)) ?_; clear hr a; intro a hr
          refine op_val (wn rfl) rfl rfl hr (v := .bool true) (by kernel_rfl) ?_; clear hr a; intro a hr
          refine op_off ((wg hr rfl rfl rfl (b' := true) (by kernel_rfl)).trans rfl) rfl rfl hr ?_
          clear hr a; intro a hr
          refine op_off ((wg hr rfl rfl rfl (b' := true) (by kernel_rfl)).trans rfl) rfl rfl hr ?_
          clear hr a; intro a hr
          refine op_off ((wg hr rfl rfl rfl (b' := true) (by kernel_rfl)).trans rfl) rfl rfl hr ?_
          clear hr a; intro a hr
          refine op_off ((wg hr rfl rfl rfl (b' := true) (by kernel_rfl)).trans rfl) rfl rfl hr ?_
          clear hr a; intro a hr
          refine op_val (wn rfl) rfl rfl hr (v := .bool true) (by kernel_rfl) ?_; clear hr a; intro a hr
          refine op_val (wn rfl) rfl rfl hr (v := .bool true) (by kernel_rfl) ?_; clear hr a; intro a hr
          refine wpList_nil ?_
          refine then_normal ?_
          refine wp_seq ?_
          refine reg_quiet h (by kernel_rfl) (by kernel_rfl) ?_
          refine qt_val (wn rfl) rfl rfl hr (v := .bool true) (fun w h => by kernel_rfl) ?_; clear hr a; intro a hr
          refine qt_val (wn rfl) rfl rfl hr (v := .bool true) (fun w h => by kernel_rfl) ?_; clear hr a; intro a hr
          refine qt_val ((wg hr rfl rfl rfl (b' := true) (by kernel_rfl)).trans rfl) rfl rfl hr (v := .slice (some ⟨g12, 0, none⟩) ((((St nn vals i).done (mk % 5) mi mx my).2).cells.length) cp13) (fun w h => by kernel_rfl) ?_; clear hr a; intro a hr
          refine qt_val ((wg hr rfl rfl rfl (b' := true) (by kernel_rfl)).trans rfl) rfl rfl hr (v := .int .i64 ((j2 : Nat) : Int)) (fun w h => by kernel_rfl) ?_; clear hr a; intro a hr
          refine qt_val ((wg hr rfl rfl rfl (b' := true) (by kernel_rfl)).trans rfl) rfl rfl hr (v := .pointer (some ⟨g12, ((((j2 : Nat) : Int)).toNat) * 1, none⟩)) (fun w h => ri0 (k := .i64) (g := g12) (len := ((((St nn vals i).done (mk % 5) mi mx my).2).cells.length)) (cap := cp13) (i := ((j2 : Nat) : Int)) (E := 2) (sz := 1) rfl (by kernel_rfl) (by kernel_rfl) (by kernel_rfl) (by kernel_rfl) (by omega) (by omega)) ?_; clear hr a; intro a hr
          refine qt_val ((wg hr rfl rfl rfl (b' := true) (by kernel_rfl)).trans rfl) rfl rfl hr (v := .int .i64 (at_ ((((St nn vals i).done (mk % 5) mi mx my).2).cells) ((((j2 : Nat) : Int)).toNat))) (fun w h => rl rfl (by kernel_rfl) (by kernel_rfl) ((h.pick 1).slc_get encI_ok ((((j2 : Nat) : Int)).toNat) 0 (at_ ((((St nn vals i).done (mk % 5) mi mx my).2).cells) ((((j2 : Nat) : Int)).toNat)) _ (get_at (by (try simp only [List.length_set, List.length_append, List.length_replicate]); omega)) rfl)) ?_; clear hr a; intro a hr
          refine qt_val ((wg hr rfl rfl rfl (b' := true) (by kernel_rfl)).trans rfl) rfl rfl hr (v := .slice va vals.length vc) (fun w h => by kernel_rfl) ?_; clear hr a; intro a hr
          refine qt_val ((wg hr rfl rfl rfl (b' := true) (by kernel_rfl)).trans rfl) rfl rfl hr (v := .int .i64 ((j2 : Nat) : Int)) (fun w h => by kernel_rfl) ?_; clear hr a; intro a hr
          obtain ⟨ab22, ao23, ae24, ah25⟩ := hv (by omega)
          refine qt_val ((wg hr rfl rfl rfl (b' := true) (by kernel_rfl)).trans rfl) rfl rfl hr (v := .pointer (some ⟨ab22, ao23 + ((((j2 : Nat) : Int)).toNat) * 1, none⟩)) (fun w h => rie (k := .i64) (g := ab22) (off := ao23) (len := vals.length) (cap := vc) ae24 (i := ((j2 : Nat) : Int)) (E := 2) (sz := 1) rfl (by kernel_rfl) (by kernel_rfl) (by kernel_rfl) (by kernel_rfl) (by omega) (by omega)) ?_; clear hr a; intro a hr
          refine qt_val ((wg hr rfl rfl rfl (b' := true) (by kernel_rfl)).trans rfl) rfl rfl hr (v := .int .i64 (at_ vals ((((j2 : Nat) : Int)).toNat))) (fun w h => rl rfl (by kernel_rfl) (by kernel_rfl) ((h.pick 2).old_cell (ah25 ((((j2 : Nat) : Int)).toNat) (at_ vals ((((j2 : Nat) : Int)).toNat)) 0 _ (get_at (by (try simp only [List.length_set, List.length_append, List.length_replicate]); omega)) rfl))) ?_; clear hr a; intro a hr
          refine qt_val ((wg hr rfl rfl rfl (b' := true) (by kernel_rfl)).trans rfl) rfl rfl hr (v := .bool ((at_ ((((St nn vals i).done (mk % 5) mi mx my).2).cells) ((((j2 : Nat) : Int)).toNat)) != (at_ vals ((((j2 : Nat) : Int)).toNat)))) (fun w h => by kernel_rfl) ?_; clear hr a; intro a hr
          refine qt_val (wn rfl) rfl rfl hr (v := .bool ((at_ ((((St nn vals i).done (mk % 5) mi mx my).2).cells) ((((j2 : Nat) : Int)).toNat)) != (at_ vals ((((j2 : Nat) : Int)).toNat)))) (fun w h => by kernel_rfl) ?_; clear hr a; intro a hr
          refine wpQuiet_nil ?_
          intro w h
          refine then_normal ?_
          refine cond_f hr (b := ((at_ ((((St nn vals i).done (mk % 5) mi mx my).2).cells) ((((j2 : Nat) : Int)).toNat)) != (at_ vals ((((j2 : Nat) : Int)).toNat)))) (by kernel_rfl) (bne_eq_false_iff_eq.mpr (hd3 _ (by omega) (by first | exact .inl (by omega) | exact .inr (.inl (by assumption)) | exact .inr (.inr (by omega))))) ?_
          refine wp_skip ?_
          refine blk_normal ?_
          refine then_normal ?_
          refine wp_region_lit ?_
          refine op_val (wn rfl) rfl rfl hr (v := .int .i64 ((j2 : Nat) : Int)) (by kernel_rfl) ?_; clear hr a; intro a hr
          refine op_val (wn rfl) rfl rfl hr (v := .int .i64 (((j2 : Nat) : Int) + 1)) (ra (m := IntKind.i64.wrap (((j2 : Nat) : Int) + 1)) (by kernel_rfl) ((i64_in _ (by omega)).trans (by omega))) ?_; clear hr a; intro a hr
          refine op_val (wn rfl) rfl rfl hr (v := .int .i64 (((j2 : Nat) : Int) + 1)) (by kernel_rfl) ?_; clear hr a; intro a hr
          refine wpList_nil ?_
          refine then_normal ?_
          obtain ⟨j, hr2⟩ := hr.fold [(0, .slice va vals.length vc), (3, .pointer (some ⟨b1, 0, none⟩)), (5, .int .i64 ((nn : Nat) : Int)), (12, .pointer (some ⟨fb, 0, none⟩)), (13, .slice (some ⟨g12, 0, none⟩) ((((St nn vals i).done (mk % 5) mi mx my).2).cells.length) cp13), (14, .int .i64 (((j2 + 1) : Nat) : Int))] ⟨by kernel_rfl, by kernel_rfl, by kernel_rfl, by kernel_rfl, by kernel_rfl, by kernel_rfl, trivial⟩; clear hr; have hr := hr2; clear hr2
          have h : Fit z (sepL (ArenaP A3 (((St nn vals i).done (mk % 5) mi mx my).2) :: slc 2 1 encI g12 cp13 ((((St nn vals i).done (mk % 5) mi mx my).2).cells) :: old W :: pts b1 (.cells #[.int .i64 sd, .int .i64 mk, .int .i64 mi, .int .i64 mx, .int .i64 my] 30) :: pts fb (.cells #[.int .i64 (((St nn vals i).done (mk % 5) mi mx my).1.1), .bool (((St nn vals i).done (mk % 5) mi mx my).1.2.1), .int .i64 (((St nn vals i).done (mk % 5) mi mx my).1.2.2)] 39) :: L)) _ := (((((h.pick 4).pick 4).pick 4).pick 4).pick 4)
          exact ⟨_, ⟨j2 + 1, rfl, j, hr, (by omega), h⟩, by simp only [id]; omega⟩
        ·
          refine op_val ((wg hr rfl rfl rfl (b' := ((mk % 5) == 0)) (by kernel_rfl)).trans (by rw [show ((mk % 5) == 0) = false from (beq_eq_false_iff_ne.mpr c21)]; rfl)) rfl rfl hr (v := .pointer (some ⟨fb, 1, none⟩)) (by kernel_rfl) ?_; clear hr a; intro a hr
          refine op_val ((wg hr rfl rfl rfl (b' := ((mk % 5) == 0)) (by kernel_rfl)).trans (by rw [show ((mk % 5) == 0) = false from (beq_eq_false_iff_ne.mpr c21)]; rfl)) rfl rfl hr (v := .bool (((St nn vals i).done (mk % 5) mi mx my).1.2.1)) (rl rfl (by kernel_rfl) (by kernel_rfl) ((h.pick 4).cell 1 rfl)) ?_; clear hr a; intro a hr
          refine op_val ((wg hr rfl rfl rfl (b' := ((mk % 5) == 0)) (by kernel_rfl)).trans (by rw [show ((mk % 5) == 0) = false from (beq_eq_false_iff_ne.mpr c21)]; rfl)) rfl rfl hr (v := .bool (!(((St nn vals i).done (mk % 5) mi mx my).1.2.1))) (by kernel_rfl) ?_; clear hr a; intro a hr
          refine op_val (wn rfl) rfl rfl hr (v := .bool (!(((St nn vals i).done (mk % 5) mi mx my).1.2.1))) (rp_f (b := ((mk % 5) == 0)) rfl (by kernel_rfl) (beq_eq_false_iff_ne.mpr c21) (by kernel_rfl)) ?_; clear hr a; intro a hr
          refine op_val (wn rfl) rfl rfl hr (v := .bool (!(((St nn vals i).done (mk % 5) mi mx my).1.2.1))) (by kernel_rfl) ?_; clear hr a; intro a hr
          rcases Bool.eq_false_or_eq_true (((St nn vals i).done (mk % 5) mi mx my).1.2.1) with c26 | c26
          ·
            refine op_val ((wg hr rfl rfl rfl (b' := (!(((St nn vals i).done (mk % 5) mi mx my).1.2.1))) (by kernel_rfl)).trans (by rw [show (!(((St nn vals i).done (mk % 5) mi mx my).1.2.1)) = false from (by rw [c26]; rfl)]; rfl)) rfl rfl hr (v := .int .i64 ((j2 : Nat) : Int)) (by kernel_rfl) ?_; clear hr a; intro a hr
            refine op_val ((wg hr rfl rfl rfl (b' := (!(((St nn vals i).done (mk % 5) mi mx my).1.2.1))) (by kernel_rfl)).trans (by rw [show (!(((St nn vals i).done (mk % 5) mi mx my).1.2.1)) = false from (by rw [c26]; rfl)]; rfl)) rfl rfl hr (v := .pointer (some ⟨b1, 2, none⟩)) (by kernel_rfl) ?_; clear hr a; intro a hr
            refine op_val ((wg hr rfl rfl rfl (b' := (!(((St nn vals i).done (mk % 5) mi mx my).1.2.1))) (by kernel_rfl)).trans (by rw [show (!(((St nn vals i).done (mk % 5) mi mx my).1.2.1)) = false from (by rw [c26]; rfl)]; rfl)) rfl rfl hr (v := .int .i64 mi) (rl rfl (by kernel_rfl) (by kernel_rfl) ((h.pick 3).cell 2 rfl)) ?_; clear hr a; intro a hr
            refine op_val ((wg hr rfl rfl rfl (b' := (!(((St nn vals i).done (mk % 5) mi mx my).1.2.1))) (by kernel_rfl)).trans (by rw [show (!(((St nn vals i).done (mk % 5) mi mx my).1.2.1)) = false from (by rw [c26]; rfl)]; rfl)) rfl rfl hr (v := .bool (((j2 : Nat) : Int) != mi)) (by kernel_rfl) ?_; clear hr a; intro a hr
            refine op_val (wn rfl) rfl rfl hr (v := .bool (((j2 : Nat) : Int) != mi)) (rp_f (b := (!(((St nn vals i).done (mk % 5) mi mx my).1.2.1))) rfl (by kernel_rfl) (by rw [c26]; rfl) (by kernel_rfl)) ?_; clear hr a; intro a hr
            refine op_val (wn rfl) rfl rfl hr (v := .bool (((j2 : Nat) : Int) != mi)) (by kernel_rfl) ?_; clear hr a; intro a hr
            refine wpList_nil ?_
            refine then_normal ?_
            refine wp_seq ?_
            refine reg_quiet h (by kernel_rfl) (by kernel_rfl) ?_
            refine qt_val (wn rfl) rfl rfl hr (v := .bool (((j2 : Nat) : Int) != mi)) (fun w h => by kernel_rfl) ?_; clear hr a; intro a hr
            refine qt_val (wn rfl) rfl rfl hr (v := .bool (((j2 : Nat) : Int) != mi)) (fun w h => by kernel_rfl) ?_; clear hr a; intro a hr
            by_cases c27 : ((j2 : Nat) : Int) = mi
            ·
              refine qt_off ((wg hr rfl rfl rfl (b' := (((j2 : Nat) : Int) != mi)) (by kernel_rfl)).trans (by rw [show (((j2 : Nat) : Int) != mi) = false from (bne_eq_false_iff_eq.mpr c27)]; rfl)) rfl rfl hr ?_
              clear hr a; intro a hr
              refine qt_off ((wg hr rfl rfl rfl (b' := (((j2 : Nat) : Int) != mi)) (by kernel_rfl)).trans (by rw [show (((j2 : Nat) : Int) != mi) = false from (bne_eq_false_iff_eq.mpr c27)]; rfl)) rfl rfl hr ?_
              clear hr a; intro a hr
              refine qt_off ((wg hr rfl rfl rfl (b' := (((j2 : Nat) : Int) != mi)) (by kernel_rfl)).trans (by rw [show (((j2 : Nat) : Int) != mi) = false from (bne_eq_false_iff_eq.mpr c27)]; rfl)) rfl rfl hr ?_
              clear hr a; intro a hr
              refine qt_off ((wg hr rfl rfl rfl (b' := (((j2 : Nat) : Int) != mi)) (by kernel_rfl)).trans (by rw [show (((j2 : Nat) : Int) != mi) = false from (bne_eq_false_iff_eq.mpr c27)]; rfl)) rfl rfl hr ?_
              clear hr a; intro a hr
              refine qt_off ((wg hr rfl rfl rfl (b' := (((j2 : Nat) : Int) != mi)) (by kernel_rfl)).trans (by rw [show (((j2 : Nat) : Int) != mi) = false from (bne_eq_false_iff_eq.mpr c27)]; rfl)) rfl rfl hr ?_
              clear hr a; intro a hr
              refine qt_off ((wg hr rfl rfl rfl (b' := (((j2 : Nat) : Int) != mi)) (by kernel_rfl)).trans (by rw [show (((j2 : Nat) : Int) != mi) = false from (bne_eq_false_iff_eq.mpr c27)]; rfl)) rfl rfl hr ?_
              clear hr a; intro a hr
              refine qt_off ((wg hr rfl rfl rfl (b' := (((j2 : Nat) : Int) != mi)) (by kernel_rfl)).trans (by rw [show (((j2 : Nat) : Int) != mi) = false from (bne_eq_false_iff_eq.mpr c27)]; rfl)) rfl rfl hr ?_
              clear hr a; intro a hr
              refine qt_off ((wg hr rfl rfl rfl (b' := (((j2 : Nat) : Int) != mi)) (by kernel_rfl)).trans (by rw [show (((j2 : Nat) : Int) != mi) = false from (bne_eq_false_iff_eq.mpr c27)]; rfl)) rfl rfl hr ?_
              clear hr a; intro a hr
              refine qt_off ((wg hr rfl rfl rfl (b' := (((j2 : Nat) : Int) != mi)) (by kernel_rfl)).trans (by rw [show (((j2 : Nat) : Int) != mi) = false from (bne_eq_false_iff_eq.mpr c27)]; rfl)) rfl rfl hr ?_
              clear hr a; intro a hr
              refine qt_val (wn rfl) rfl rfl hr (v := .bool false) (fun w h => rp_f (b := (((j2 : Nat) : Int) != mi)) rfl (by kernel_rfl) (bne_eq_false_iff_eq.mpr c27) (by kernel_rfl)) ?_; clear hr a; intro a hr
              refine wpQuiet_nil ?_
              intro w h
              refine then_normal ?_
              refine cond_f hr (b := false) (by kernel_rfl) rfl ?_
              refine wp_skip ?_
              refine blk_normal ?_
              refine then_normal ?_
              refine wp_region_lit ?_
              refine op_val (wn rfl) rfl rfl hr (v := .int .i64 ((j2 : Nat) : Int)) (by kernel_rfl) ?_; clear hr a; intro a hr
              refine op_val (wn rfl) rfl rfl hr (v := .int .i64 (((j2 : Nat) : Int) + 1)) (ra (m := IntKind.i64.wrap (((j2 : Nat) : Int) + 1)) (by kernel_rfl) ((i64_in _ (by omega)).trans (by omega))) ?_; clear hr a; intro a hr
              refine op_val (wn rfl) rfl rfl hr (v := .int .i64 (((j2 : Nat) : Int) + 1)) (by kernel_rfl) ?_; clear hr a; intro a hr
              refine wpList_nil ?_
              refine then_normal ?_
              obtain ⟨j, hr2⟩ := hr.fold [(0, .slice va vals.length vc), (3, .pointer (some ⟨b1, 0, none⟩)), (5, .int .i64 ((nn : Nat) : Int)), (12, .pointer (some ⟨fb, 0, none⟩)), (13, .slice (some ⟨g12, 0, none⟩) ((((St nn vals i).done (mk % 5) mi mx my).2).cells.length) cp13), (14, .int .i64 (((j2 + 1) : Nat) : Int))] ⟨by kernel_rfl, by kernel_rfl, by kernel_rfl, by kernel_rfl, by kernel_rfl, by kernel_rfl, trivial⟩; clear hr; have hr := hr2; clear hr2
              have h : Fit z (sepL (ArenaP A3 (((St nn vals i).done (mk % 5) mi mx my).2) :: slc 2 1 encI g12 cp13 ((((St nn vals i).done (mk % 5) mi mx my).2).cells) :: old W :: pts b1 (.cells #[.int .i64 sd, .int .i64 mk, .int .i64 mi, .int .i64 mx, .int .i64 my] 30) :: pts fb (.cells #[.int .i64 (((St nn vals i).done (mk % 5) mi mx my).1.1), .bool (((St nn vals i).done (mk % 5) mi mx my).1.2.1), .int .i64 (((St nn vals i).done (mk % 5) mi mx my).1.2.2)] 39) :: L)) _ := (((((h.pick 4).pick 4).pick 4).pick 4).pick 4)
              exact ⟨_, ⟨j2 + 1, rfl, j, hr, (by omega), h⟩, by simp only [id]; omega⟩
            ·
              refine qt_val ((wg hr rfl rfl rfl (b' := (((j2 : Nat) : Int) != mi)) (by kernel_rfl)).trans (by rw [show (((j2 : Nat) : Int) != mi) = true from (bne_iff_ne.mpr c27)]; rfl)) rfl rfl hr (v := .slice (some ⟨g12, 0, none⟩) ((((St nn vals i).done (mk % 5) mi mx my).2).cells.length) cp13) (fun w h => by kernel_rfl) ?_; clear hr a; intro a hr
              refine qt_val ((wg hr rfl rfl rfl (b' := (((j2 : Nat) : Int) != mi)) (by kernel_rfl)).trans (by rw [show (((j2 : Nat) : Int) != mi) = true from (bne_iff_ne.mpr c27)]; rfl)) rfl rfl hr (v := .int .i64 ((j2 : Nat) : Int)) (fun w h => by kernel_rfl) ?_; clear hr a; intro a hr
              refine qt_val ((wg hr rfl rfl rfl (b' := (((j2 : Nat) : Int) != mi)) (by kernel_rfl)).trans (by rw [show (((j2 : Nat) : Int) != mi) = true from (bne_iff_ne.mpr c27)]; rfl)) rfl rfl hr (v := .pointer (some ⟨g12, ((((j2 : Nat) : Int)).toNat) * 1, none⟩)) (fun w h => ri0 (k := .i64) (g := g12) (len := ((((St nn vals i).done (mk % 5) mi mx my).2).cells.length)) (cap := cp13) (i := ((j2 : Nat) : Int)) (E := 2) (sz := 1) rfl (by kernel_rfl) (by kernel_rfl) (by kernel_rfl) (by kernel_rfl) (by omega) (by omega)) ?_; clear hr a; intro a hr
              refine qt_val ((wg hr rfl rfl rfl (b' := (((j2 : Nat) : Int) != mi)) (by kernel_rfl)).trans (by rw [show (((j2 : Nat) : Int) != mi) = true from (bne_iff_ne.mpr c27)]; rfl)) rfl rfl hr (v := .int .i64 (at_ ((((St nn vals i).done (mk % 5) mi mx my).2).cells) ((((j2 : Nat) : Int)).toNat))) (fun w h => rl rfl (by kernel_rfl) (by kernel_rfl) ((h.pick 1).slc_get encI_ok ((((j2 : Nat) : Int)).toNat) 0 (at_ ((((St nn vals i).done (mk % 5) mi mx my).2).cells) ((((j2 : Nat) : Int)).toNat)) _ (get_at (by (try simp only [List.length_set, List.length_append, List.length_replicate]); omega)) rfl)) ?_; clear hr a; intro a hr
              refine qt_val ((wg hr rfl rfl rfl (b' := (((j2 : Nat) : Int) != mi)) (by kernel_rfl)).trans (by rw [show (((j2 : Nat) : Int) != mi) = true from (bne_iff_ne.mpr c27)]; rfl)) rfl rfl hr (v := .slice va vals.length vc) (fun w h => by kernel_rfl) ?_; clear hr a; intro a hr
              refine qt_val ((wg hr rfl rfl rfl (b' := (((j2 : Nat) : Int) != mi)) (by kernel_rfl)).trans (by rw [show (((j2 : Nat) : Int) != mi) = true from (bne_iff_ne.mpr c27)]; rfl)) rfl rfl hr (v := .int .i64 ((j2 : Nat) : Int)) (fun w h => by kernel_rfl) ?_; clear hr a; intro a hr
              obtain ⟨ab28, ao29, ae30, ah31⟩ := hv (by omega)
              refine qt_val ((wg hr rfl rfl rfl (b' := (((j2 : Nat) : Int) != mi)) (by kernel_rfl)).trans (by rw [show (((j2 : Nat) : Int) != mi) = true from (bne_iff_ne.mpr c27)]; rfl)) rfl rfl hr (v := .pointer (some ⟨ab28, ao29 + ((((j2 : Nat) : Int)).toNat) * 1, none⟩)) (fun w h => rie (k := .i64) (g := ab28) (off := ao29) (len := vals.length) (cap := vc) ae30 (i := ((j2 : Nat) : Int)) (E := 2) (sz := 1) rfl (by kernel_rfl) (by kernel_rfl) (by kernel_rfl) (by kernel_rfl) (by omega) (by omega)) ?_; clear hr a; intro a hr
              refine qt_val ((wg hr rfl rfl rfl (b' := (((j2 : Nat) : Int) != mi)) (by kernel_rfl)).trans (by rw [show (((j2 : Nat) : Int) != mi) = true from (bne_iff_ne.mpr c27)]; rfl)) rfl rfl hr (v := .int .i64 (at_ vals ((((j2 : Nat) : Int)).toNat))) (fun w h => rl rfl (by kernel_rfl) (by kernel_rfl) ((h.pick 2).old_cell (ah31 ((((j2 : Nat) : Int)).toNat) (at_ vals ((((j2 : Nat) : Int)).toNat)) 0 _ (get_at (by (try simp only [List.length_set, List.length_append, List.length_replicate]); omega)) rfl))) ?_; clear hr a; intro a hr
              refine qt_val ((wg hr rfl rfl rfl (b' := (((j2 : Nat) : Int) != mi)) (by kernel_rfl)).trans (by rw [show (((j2 : Nat) : Int) != mi) = true from (bne_iff_ne.mpr c27)]; rfl)) rfl rfl hr (v := .bool ((at_ ((((St nn vals i).done (mk % 5) mi mx my).2).cells) ((((j2 : Nat) : Int)).toNat)) != (at_ vals ((((j2 : Nat) : Int)).toNat)))) (fun w h => by kernel_rfl) ?_; clear hr a; intro a hr
              refine qt_val (wn rfl) rfl rfl hr (v := .bool ((at_ ((((St nn vals i).done (mk % 5) mi mx my).2).cells) ((((j2 : Nat) : Int)).toNat)) != (at_ vals ((((j2 : Nat) : Int)).toNat)))) (fun w h => rp_t (b := (((j2 : Nat) : Int) != mi)) rfl (by kernel_rfl) (bne_iff_ne.mpr c27) (by kernel_rfl)) ?_; clear hr a; intro a hr
              refine wpQuiet_nil ?_
              intro w h
              refine then_normal ?_
              refine cond_f hr (b := ((at_ ((((St nn vals i).done (mk % 5) mi mx my).2).cells) ((((j2 : Nat) : Int)).toNat)) != (at_ vals ((((j2 : Nat) : Int)).toNat)))) (by kernel_rfl) (bne_eq_false_iff_eq.mpr (hd3 _ (by omega) (by first | exact .inl (by omega) | exact .inr (.inl (by assumption)) | exact .inr (.inr (by omega))))) ?_
              refine wp_skip ?_
              refine blk_normal ?_
              refine then_normal ?_
              refine wp_region_lit ?_
              refine op_val (wn rfl) rfl rfl hr (v := .int .i64 ((j2 : Nat) : Int)) (by kernel_rfl) ?_; clear hr a; intro a hr
              refine op_val (wn rfl) rfl rfl hr (v := .int .i64 (((j2 : Nat) : Int) + 1)) (ra (m := IntKind.i64.wrap (((j2 : Nat) : Int) + 1)) (by kernel_rfl) ((i64_in _ (by omega)).trans (by omega))) ?_; clear hr a; intro a hr
              refine op_val (wn rfl) rfl rfl hr (v := .int .i64 (((j2 : Nat) : Int) + 1)) (by kernel_rfl) ?_; clear hr a; intro a hr
              refine wpList_nil ?_
              refine then_normal ?_
              obtain ⟨j, hr2⟩ := hr.fold [(0, .slice va vals.length vc), (3, .pointer (some ⟨b1, 0, none⟩)), (5, .int .i64 ((nn : Nat) : Int)), (12, .pointer (some ⟨fb, 0, none⟩)), (13, .slice (some ⟨g12, 0, none⟩) ((((St nn vals i).done (mk % 5) mi mx my).2).cells.length) cp13), (14, .int .i64 (((j2 + 1) : Nat) : Int))] ⟨by kernel_rfl, by kernel_rfl, by kernel_rfl, by kernel_rfl, by kernel_rfl, by kernel_rfl, trivial⟩; clear hr; have hr := hr2; clear hr2
              have h : Fit z (sepL (ArenaP A3 (((St nn vals i).done (mk % 5) mi mx my).2) :: slc 2 1 encI g12 cp13 ((((St nn vals i).done (mk % 5) mi mx my).2).cells) :: old W :: pts b1 (.cells #[.int .i64 sd, .int .i64 mk, .int .i64 mi, .int .i64 mx, .int .i64 my] 30) :: pts fb (.cells #[.int .i64 (((St nn vals i).done (mk % 5) mi mx my).1.1), .bool (((St nn vals i).done (mk % 5) mi mx my).1.2.1), .int .i64 (((St nn vals i).done (mk % 5) mi mx my).1.2.2)] 39) :: L)) _ := (((((h.pick 4).pick 4).pick 4).pick 4).pick 4)
              exact ⟨_, ⟨j2 + 1, rfl, j, hr, (by omega), h⟩, by simp only [id]; omega⟩
          ·
            refine op_off ((wg hr rfl rfl rfl (b' := (!(((St nn vals i).done (mk % 5) mi mx my).1.2.1))) (by kernel_rfl)).trans (by rw [show (!(((St nn vals i).done (mk % 5) mi mx my).1.2.1)) = true from (by rw [c26]; rfl)]; rfl)) rfl rfl hr ?_
            clear hr a; intro a hr
            refine op_off ((wg hr rfl rfl rfl (b' := (!(((St nn vals i).done (mk % 5) mi mx my).1.2.1))) (by kernel_rfl)).trans (by rw [show (!(((St nn vals i).done (mk % 5) mi mx my).1.2.1)) = true from (by rw [c26]; rfl)]; rfl)) rfl rfl hr ?_
            clear hr a; intro a hr
            refine op_off ((wg hr rfl rfl rfl (b' := (!(((St nn vals i).done (mk % 5) mi mx my).1.2.1))) (by kernel_rfl)).trans (by rw [show (!(((St nn vals i).done (mk % 5) mi mx my).1.2.1)) = true from (by rw [c26]; rfl)]; rfl)) rfl rfl hr ?_
            clear hr a; intro a hr
            refine op_off ((wg hr rfl rfl rfl (b' := (!(((St nn vals i).done (mk % 5) mi mx my).1.2.1))) (by kernel_rfl)).trans (by rw [show (!(((St nn vals i).done (mk % 5) mi mx my).1.2.1)) = true from (by rw [c26]; rfl)]; rfl)) rfl rfl hr ?_
            clear hr a; intro a hr
            refine op_val (wn rfl) rfl rfl hr (v := .bool true) (rp_t (b := (!(((St nn vals i).done (mk % 5) mi mx my).1.2.1))) rfl (by kernel_rfl) (by rw [c26]; rfl) (by kernel_rfl)) ?_; clear hr a; intro a hr
            refine op_val (wn rfl) rfl rfl hr (v := .bool true) (by kernel_rfl) ?_; clear hr a; intro a hr
            refine wpList_nil ?_
            refine then_normal ?_
            refine wp_seq ?_
            refine reg_quiet h (by kernel_rfl) (by kernel_rfl) ?_
            refine qt_val (wn rfl) rfl rfl hr (v := .bool true) (fun w h => by kernel_rfl) ?_; clear hr a; intro a hr
            refine qt_val (wn rfl) rfl rfl hr (v := .bool true) (fun w h => by kernel_rfl) ?_; clear hr a; intro a hr
            refine qt_val ((wg hr rfl rfl rfl (b' := true) (by kernel_rfl)).trans rfl) rfl rfl hr (v := .slice (some ⟨g12, 0, none⟩) ((((St nn vals i).done (mk % 5) mi mx my).2).cells.length) cp13) (fun w h => by kernel_rfl) ?_; clear hr a; intro a hr
            refine qt_val ((wg hr rfl rfl rfl (b' := true) (by kernel_rfl)).trans rfl) rfl rfl hr (v := .int .i64 ((j2 : Nat) : Int)) (fun w h => by kernel_rfl) ?_; clear hr a; intro a hr
            refine qt_val ((wg hr rfl rfl rfl (b' := true) (by kernel_rfl)).trans rfl) rfl rfl hr (v := .pointer (some ⟨g12, ((((j2 : Nat) : Int)).toNat) * 1, none⟩)) (fun w h => ri0 (k := .i64) (g := g12) (len := ((((St nn vals i).done (mk % 5) mi mx my).2).cells.length)) (cap := cp13) (i := ((j2 : Nat) : Int)) (E := 2) (sz := 1) rfl (by kernel_rfl) (by kernel_rfl) (by kernel_rfl) (by kernel_rfl) (by omega) (by omega)) ?_; clear hr a; intro a hr
            refine qt_val ((wg hr rfl rfl rfl (b' := true) (by kernel_rfl)).trans rfl) rfl rfl hr (v := .int .i64 (at_ ((((St nn vals i).done (mk % 5) mi mx my).2).cells) ((((j2 : Nat) : Int)).toNat))) (fun w h => rl rfl (by kernel_rfl) (by kernel_rfl) ((h.pick 1).slc_get encI_ok ((((j2 : Nat) : Int)).toNat) 0 (at_ ((((St nn vals i).done (mk % 5) mi mx my).2).cells) ((((j2 : Nat) : Int)).toNat)) _ (get_at (by (try simp only [List.length_set, List.length_append, List.length_replicate]); omega)) rfl)) ?_; clear hr a; intro a hr
            refine qt_val ((wg hr rfl rfl rfl (b' := true) (by kernel_rfl)).trans rfl) rfl rfl hr (v := .slice va vals.length vc) (fun w h => by kernel_rfl) ?_; clear hr a; intro a hr
            refine qt_val ((wg hr rfl rfl rfl (b' := true) (by kernel_rfl)).trans rfl) rfl rfl hr (v := .int .i64 ((j2 : Nat) : Int)) (fun w h => by kernel_rfl) ?_; clear hr a; intro a hr
            obtain ⟨ab32, ao33, ae34, ah35⟩ := hv (by omega)
            refine qt_val ((wg hr rfl rfl rfl (b' := true) (by kernel_rfl)).trans rfl) rfl rfl hr (v := .pointer (some ⟨ab32, ao33 + ((((j2 : Nat) : Int)).toNat) * 1, none⟩)) (fun w h => rie (k := .i64) (g := ab32) (off := ao33) (len := vals.length) (cap := vc) ae34 (i := ((j2 : Nat) : Int)) (E := 2) (sz := 1) rfl (by kernel_rfl) (by kernel_rfl) (by kernel_rfl) (by kernel_rfl) (by omega) (by omega)) ?_; clear hr a; intro a hr
            refine qt_val ((wg hr rfl rfl rfl (b' := true) (by kernel_rfl)).trans rfl) rfl rfl hr (v := .int .i64 (at_ vals ((((j2 : Nat) : Int)).toNat))) (fun w h => rl rfl (by kernel_rfl) (by kernel_rfl) ((h.pick 2).old_cell (ah35 ((((j2 : Nat) : Int)).toNat) (at_ vals ((((j2 : Nat) : Int)).toNat)) 0 _ (get_at (by (try simp only [List.length_set, List.length_append, List.length_replicate]); omega)) rfl))) ?_; clear hr a; intro a hr
            refine qt_val ((wg hr rfl rfl rfl (b' := true) (by kernel_rfl)).trans rfl) rfl rfl hr (v := .bool ((at_ ((((St nn vals i).done (mk % 5) mi mx my).2).cells) ((((j2 : Nat) : Int)).toNat)) != (at_ vals ((((j2 : Nat) : Int)).toNat)))) (fun w h => by kernel_rfl) ?_; clear hr a; intro a hr
            refine qt_val (wn rfl) rfl rfl hr (v := .bool ((at_ ((((St nn vals i).done (mk % 5) mi mx my).2).cells) ((((j2 : Nat) : Int)).toNat)) != (at_ vals ((((j2 : Nat) : Int)).toNat)))) (fun w h => by kernel_rfl) ?_; clear hr a; intro a hr
            refine wpQuiet_nil ?_
            intro w h
            refine then_normal ?_
            refine cond_f hr (b := ((at_ ((((St nn vals i).done (mk % 5) mi mx my).2).cells) ((((j2 : Nat) : Int)).toNat)) != (at_ vals ((((j2 : Nat) : Int)).toNat)))) (by kernel_rfl) (bne_eq_false_iff_eq.mpr (hd3 _ (by omega) (by first | exact .inl (by omega) | exact .inr (.inl (by assumption)) | exact .inr (.inr (by omega))))) ?_
            refine wp_skip ?_
            refine blk_normal ?_
            refine then_normal ?_
            refine wp_region_lit ?_
            refine op_val (wn rfl) rfl rfl hr (v := .int .i64 ((j2 : Nat) : Int)) (by kernel_rfl) ?_; clear hr a; intro a hr
            refine op_val (wn rfl) rfl rfl hr (v := .int .i64 (((j2 : Nat) : Int) + 1)) (ra (m := IntKind.i64.wrap (((j2 : Nat) : Int) + 1)) (by kernel_rfl) ((i64_in _ (by omega)).trans (by omega))) ?_; clear hr a; intro a hr
            refine op_val (wn rfl) rfl rfl hr (v := .int .i64 (((j2 : Nat) : Int) + 1)) (by kernel_rfl) ?_; clear hr a; intro a hr
            refine wpList_nil ?_
            refine then_normal ?_
            obtain ⟨j, hr2⟩ := hr.fold [(0, .slice va vals.length vc), (3, .pointer (some ⟨b1, 0, none⟩)), (5, .int .i64 ((nn : Nat) : Int)), (12, .pointer (some ⟨fb, 0, none⟩)), (13, .slice (some ⟨g12, 0, none⟩) ((((St nn vals i).done (mk % 5) mi mx my).2).cells.length) cp13), (14, .int .i64 (((j2 + 1) : Nat) : Int))] ⟨by kernel_rfl, by kernel_rfl, by kernel_rfl, by kernel_rfl, by kernel_rfl, by kernel_rfl, trivial⟩; clear hr; have hr := hr2; clear hr2
            have h : Fit z (sepL (ArenaP A3 (((St nn vals i).done (mk % 5) mi mx my).2) :: slc 2 1 encI g12 cp13 ((((St nn vals i).done (mk % 5) mi mx my).2).cells) :: old W :: pts b1 (.cells #[.int .i64 sd, .int .i64 mk, .int .i64 mi, .int .i64 mx, .int .i64 my] 30) :: pts fb (.cells #[.int .i64 (((St nn vals i).done (mk % 5) mi mx my).1.1), .bool (((St nn vals i).done (mk % 5) mi mx my).1.2.1), .int .i64 (((St nn vals i).done (mk % 5) mi mx my).1.2.2)] 39) :: L)) _ := (((((h.pick 4).pick 4).pick 4).pick 4).pick 4)
            exact ⟨_, ⟨j2 + 1, rfl, j, hr, (by omega), h⟩, by simp only [id]; omega⟩
    ·
      refine cond_f hr (b := (decide (((j2 : Nat) : Int) < ((nn : Nat) : Int)))) (by kernel_rfl) (decide_eq_false c15) ?_
      refine wp_exit ?_
      refine then_exit ?_
      refine then_exit ?_
      refine blk_here ?_
      refine then_normal ?_
      refine wp_seq ?_
      refine wp_region_lit ?_
      refine op_val (wn rfl) rfl rfl hr (v := .bool true) (by kernel_rfl) ?_; clear hr a; intro a hr
      refine wpList_nil ?_
      refine then_normal ?_
      refine wp_ret ?_
      refine end_ret1 (v := .bool true) rfl hr (by kernel_rfl) ?_
      exact ⟨rfl, (((((((((h.pick 2).pick 4).pick 4).pick 4).pick 4).drop).drop).drop).drop)⟩

end Go.Proofs.Ytacgigkonoegiaa.Wk
