/- The law WorkerNeeds: the walk. -/
import Derived.Test.YtacgigkonoegiaaAr
import Derived.Test.YtacgigkonoegiaaFlo
namespace Go.Proofs.Ytacgigkonoegiaa.Wk
open Go Go.RowKit Go.Proofs.Ytacgigkonoegiaa.SL Go.Proofs.Ytacgigkonoegiaa.GX Go.Proofs.Ytacgigkonoegiaa.Ar
set_option linter.unusedVariables false
set_option linter.unusedSimpArgs false

def countedB (w : Int) : Bool := decide (w ≥ 1) && decide (w ≤ 64)
def limB (f a m : Int) : Bool := decide (f ≥ 1) && decide (f ≤ 4096) && decide (1 ≤ a) && decide (a ≤ m) && decide (m ≤ 4096)
def capsB (a m : Int) : Bool := decide (1 ≤ a) && decide (a ≤ m) && decide (m ≤ 4096)
theorem countedB_true {w : Int} (h : countedB w = true) : 1 ≤ w ∧ w ≤ 64 := by simpa [countedB] using h
theorem limB_true {f a m : Int} (h : limB f a m = true) : 1 ≤ f ∧ f ≤ 4096 ∧ 1 ≤ a ∧ a ≤ m ∧ m ≤ 4096 := by simpa [limB, and_assoc] using h
/-- The cells of a deque's tables: each is twice the one before it, the last of them the greatest. -/
def dqv (m n c : Int) : Int := if h : c < m ∧ 0 < c then dqv m (n + (1 + (if m < 2 * c then m else 2 * c))) (if m < 2 * c then m else 2 * c) else n
termination_by (m - c).toNat
decreasing_by split <;> omega
theorem dqv_go {m n c : Int} (h : c < m) (h0 : 0 < c) : dqv m n c = dqv m (n + (1 + (if m < 2 * c then m else 2 * c))) (if m < 2 * c then m else 2 * c) := by
  rw [dqv, dif_pos ⟨h, h0⟩]
theorem dqv_end {m n c : Int} (h : ¬ c < m) : dqv m n c = n := by
  rw [dqv, dif_neg (fun k => h k.1)]
theorem dqv_bd : ∀ (k : Nat) {m n c : Int}, (m - c).toNat ≤ k → 1 ≤ c → c ≤ m → m ≤ 4096 → n ≤ dqv m n c ∧ dqv m n c ≤ n + (m - c) * 4097
  | 0, m, n, c, hk, h1, h2, h3 => by
    rw [dqv_end (by omega)]; omega
  | k + 1, m, n, c, hk, h1, h2, h3 => by
    by_cases h : c < m
    · rw [dqv_go h (by omega)]
      have := dqv_bd k (m := m) (n := n + (1 + (if m < 2 * c then m else 2 * c))) (c := if m < 2 * c then m else 2 * c) (by split <;> omega) (by split <;> omega) (by split <;> omega) h3
      revert this
      split <;> intro this <;> omega
    · rw [dqv_end h]; omega
theorem need_bd {w a m : Int} (h1 : 1 ≤ a) (h2 : a ≤ m) (h3 : m ≤ 4096) (hw : 1 ≤ w) (hw2 : w ≤ 64) : 0 ≤ w * dqv m (4 + a) a ∧ w * dqv m (4 + a) a ≤ 2000000000 := by
  have := dqv_bd (m - a).toNat (m := m) (n := 4 + a) (c := a) (Nat.le_refl _) h1 h2 h3
  constructor
  · exact Int.mul_nonneg (by omega) (by omega)
  · exact Int.le_trans (Int.mul_le_mul_of_nonneg_right hw2 (by omega)) (by omega)
def needv (w f a m : Int) : Int := if countedB w = true ∧ limB f a m = true then 1 + (1 + f * 10) + (2 + w) + w * dqv m (4 + a) a else 0

set_option maxRecDepth 100000 in
set_option maxHeartbeats 4000000 in
/-- plunder/worker.counted -/
theorem counted_spec {z w : World} {L : List HProp} {nw : Int}  (h : Fit z (sepL (L)) w) :
    Calls Try.prog 54 #[.int .i64 nw] w fun e w => e = .returned (.bool (countedB nw)) ∧ Fit z (sepL (L)) w := by
  refine enter Try.func54 rfl 9 rfl rfl [(0, .int .i64 nw)] ⟨by kernel_rfl, trivial⟩ ?_
  intro j a hr
  refine wp_seq ?_
  refine wp_region_lit ?_
  refine op_val (wn rfl) rfl rfl hr (v := .bool false) (by kernel_rfl) ?_; clear hr a; intro a hr
  refine wpList_nil ?_
  refine then_normal ?_
  refine wp_seq ?_
  refine wp_region_lit ?_
  refine op_val (wn rfl) rfl rfl hr (v := .int .i64 nw) (by kernel_rfl) ?_; clear hr a; intro a hr
  refine op_val (wn rfl) rfl rfl hr (v := .bool (decide (nw ≥ 1))) (by kernel_rfl) ?_; clear hr a; intro a hr
  refine op_val (wn rfl) rfl rfl hr (v := .bool (decide (nw ≥ 1))) (by kernel_rfl) ?_; clear hr a; intro a hr
  by_cases c1 : nw ≥ 1
  ·
    refine op_val ((wg hr rfl rfl rfl (b' := (decide (nw ≥ 1))) (by kernel_rfl)).trans (by rw [show (decide (nw ≥ 1)) = true from (decide_eq_true c1)]; rfl)) rfl rfl hr (v := .int .i64 nw) (by kernel_rfl) ?_; clear hr a; intro a hr
    refine op_val ((wg hr rfl rfl rfl (b' := (decide (nw ≥ 1))) (by kernel_rfl)).trans (by rw [show (decide (nw ≥ 1)) = true from (decide_eq_true c1)]; rfl)) rfl rfl hr (v := .bool (decide (nw ≤ 64))) (by kernel_rfl) ?_; clear hr a; intro a hr
    refine op_val (wn rfl) rfl rfl hr (v := .bool (decide (nw ≤ 64))) (rp_t (b := (decide (nw ≥ 1))) rfl (by kernel_rfl) (decide_eq_true c1) (by kernel_rfl)) ?_; clear hr a; intro a hr
    refine op_val (wn rfl) rfl rfl hr (v := .bool (decide (nw ≤ 64))) (by kernel_rfl) ?_; clear hr a; intro a hr
    refine wpList_nil ?_
    refine then_normal ?_
    refine wp_ret ?_
    refine end_ret1 (v := .bool (decide (nw ≤ 64))) rfl hr (by kernel_rfl) ?_
    exact ⟨(by simp only [countedB]; first | rfl | (simp_all; done) | (simp_all; omega) | (simp only [Ending.returned.injEq, Value.bool.injEq]; rw [Bool.eq_iff_iff]; simp; omega)), h⟩
  ·
    refine op_off ((wg hr rfl rfl rfl (b' := (decide (nw ≥ 1))) (by kernel_rfl)).trans (by rw [show (decide (nw ≥ 1)) = false from (decide_eq_false c1)]; rfl)) rfl rfl hr ?_
    clear hr a; intro a hr
    refine op_off ((wg hr rfl rfl rfl (b' := (decide (nw ≥ 1))) (by kernel_rfl)).trans (by rw [show (decide (nw ≥ 1)) = false from (decide_eq_false c1)]; rfl)) rfl rfl hr ?_
    clear hr a; intro a hr
    refine op_val (wn rfl) rfl rfl hr (v := .bool false) (rp_f (b := (decide (nw ≥ 1))) rfl (by kernel_rfl) (decide_eq_false c1) (by kernel_rfl)) ?_; clear hr a; intro a hr
    refine op_val (wn rfl) rfl rfl hr (v := .bool false) (by kernel_rfl) ?_; clear hr a; intro a hr
    refine wpList_nil ?_
    refine then_normal ?_
    refine wp_ret ?_
    refine end_ret1 (v := .bool false) rfl hr (by kernel_rfl) ?_
    exact ⟨(by simp only [countedB]; first | rfl | (simp_all; done) | (simp_all; omega) | (simp only [Ending.returned.injEq, Value.bool.injEq]; rw [Bool.eq_iff_iff]; simp; omega)), h⟩

set_option maxRecDepth 100000 in
set_option maxHeartbeats 4000000 in
/-- plunder/worker.limited -/
theorem limited_spec {z w : World} {L : List HProp} {fr lo mo : Int}  (h : Fit z (sepL (L)) w) :
    Calls Try.prog 55 #[.agg #[.int .i64 fr, .int .i64 lo, .int .i64 mo]] w fun e w => e = .returned (.bool (limB fr lo mo)) ∧ Fit z (sepL (L)) w := by
  refine enter Try.func55 rfl 28 rfl rfl [(0, .agg #[.int .i64 fr, .int .i64 lo, .int .i64 mo])] ⟨by kernel_rfl, trivial⟩ ?_
  intro j a hr
  refine wp_seq ?_
  refine wp_region_lit ?_
  refine op_new (wn rfl) rfl rfl hr h (vf := fun b => .pointer (some ⟨b, 0, none⟩)) (cs := #[.int .i64 fr, .int .i64 lo, .int .i64 mo]) (T := 25) (by kernel_rfl) ?_; clear h hr a; intro b1 w a h hr
  refine op_val (wn rfl) rfl rfl hr (v := .bool false) (by kernel_rfl) ?_; clear hr a; intro a hr
  refine wpList_nil ?_
  refine then_normal ?_
  refine wp_seq ?_
  refine wp_region_lit ?_
  refine op_val (wn rfl) rfl rfl hr (v := .pointer (some ⟨b1, 0, none⟩)) (by kernel_rfl) ?_; clear hr a; intro a hr
  refine op_val (wn rfl) rfl rfl hr (v := .int .i64 fr) (rl rfl (by kernel_rfl) (by kernel_rfl) (h.cell 0 rfl)) ?_; clear hr a; intro a hr
  refine op_val (wn rfl) rfl rfl hr (v := .bool (decide (fr ≥ 1))) (by kernel_rfl) ?_; clear hr a; intro a hr
  refine op_val (wn rfl) rfl rfl hr (v := .bool (decide (fr ≥ 1))) (by kernel_rfl) ?_; clear hr a; intro a hr
  by_cases c2 : fr ≥ 1
  ·
    refine op_val ((wg hr rfl rfl rfl (b' := (decide (fr ≥ 1))) (by kernel_rfl)).trans (by rw [show (decide (fr ≥ 1)) = true from (decide_eq_true c2)]; rfl)) rfl rfl hr (v := .pointer (some ⟨b1, 0, none⟩)) (by kernel_rfl) ?_; clear hr a; intro a hr
    refine op_val ((wg hr rfl rfl rfl (b' := (decide (fr ≥ 1))) (by kernel_rfl)).trans (by rw [show (decide (fr ≥ 1)) = true from (decide_eq_true c2)]; rfl)) rfl rfl hr (v := .int .i64 fr) (rl rfl (by kernel_rfl) (by kernel_rfl) (h.cell 0 rfl)) ?_; clear hr a; intro a hr
    refine op_val ((wg hr rfl rfl rfl (b' := (decide (fr ≥ 1))) (by kernel_rfl)).trans (by rw [show (decide (fr ≥ 1)) = true from (decide_eq_true c2)]; rfl)) rfl rfl hr (v := .bool (decide (fr ≤ 4096))) (by kernel_rfl) ?_; clear hr a; intro a hr
    refine op_val (wn rfl) rfl rfl hr (v := .bool (decide (fr ≤ 4096))) (rp_t (b := (decide (fr ≥ 1))) rfl (by kernel_rfl) (decide_eq_true c2) (by kernel_rfl)) ?_; clear hr a; intro a hr
    refine op_val (wn rfl) rfl rfl hr (v := .bool (decide (fr ≤ 4096))) (by kernel_rfl) ?_; clear hr a; intro a hr
    by_cases c3 : fr ≤ 4096
    ·
      refine op_val ((wg hr rfl rfl rfl (b' := (decide (fr ≤ 4096))) (by kernel_rfl)).trans (by rw [show (decide (fr ≤ 4096)) = true from (decide_eq_true c3)]; rfl)) rfl rfl hr (v := .pointer (some ⟨b1, 1, none⟩)) (by kernel_rfl) ?_; clear hr a; intro a hr
      refine op_val ((wg hr rfl rfl rfl (b' := (decide (fr ≤ 4096))) (by kernel_rfl)).trans (by rw [show (decide (fr ≤ 4096)) = true from (decide_eq_true c3)]; rfl)) rfl rfl hr (v := .int .i64 lo) (rl rfl (by kernel_rfl) (by kernel_rfl) (h.cell 1 rfl)) ?_; clear hr a; intro a hr
      refine op_val ((wg hr rfl rfl rfl (b' := (decide (fr ≤ 4096))) (by kernel_rfl)).trans (by rw [show (decide (fr ≤ 4096)) = true from (decide_eq_true c3)]; rfl)) rfl rfl hr (v := .bool (decide ((1 : Int) ≤ lo))) (by kernel_rfl) ?_; clear hr a; intro a hr
      refine op_val (wn rfl) rfl rfl hr (v := .bool (decide ((1 : Int) ≤ lo))) (rp_t (b := (decide (fr ≤ 4096))) rfl (by kernel_rfl) (decide_eq_true c3) (by kernel_rfl)) ?_; clear hr a; intro a hr
      refine op_val (wn rfl) rfl rfl hr (v := .bool (decide ((1 : Int) ≤ lo))) (by kernel_rfl) ?_; clear hr a; intro a hr
      by_cases c4 : (1 : Int) ≤ lo
      ·
        refine op_val ((wg hr rfl rfl rfl (b' := (decide ((1 : Int) ≤ lo))) (by kernel_rfl)).trans (by rw [show (decide ((1 : Int) ≤ lo)) = true from (decide_eq_true c4)]; rfl)) rfl rfl hr (v := .pointer (some ⟨b1, 1, none⟩)) (by kernel_rfl) ?_; clear hr a; intro a hr
        refine op_val ((wg hr rfl rfl rfl (b' := (decide ((1 : Int) ≤ lo))) (by kernel_rfl)).trans (by rw [show (decide ((1 : Int) ≤ lo)) = true from (decide_eq_true c4)]; rfl)) rfl rfl hr (v := .int .i64 lo) (rl rfl (by kernel_rfl) (by kernel_rfl) (h.cell 1 rfl)) ?_; clear hr a; intro a hr
        refine op_val ((wg hr rfl rfl rfl (b' := (decide ((1 : Int) ≤ lo))) (by kernel_rfl)).trans (by rw [show (decide ((1 : Int) ≤ lo)) = true from (decide_eq_true c4)]; rfl)) rfl rfl hr (v := .pointer (some ⟨b1, 2, none⟩)) (by kernel_rfl) ?_; clear hr a; intro a hr
        refine op_val ((wg hr rfl rfl rfl (b' := (decide ((1 : Int) ≤ lo))) (by kernel_rfl)).trans (by rw [show (decide ((1 : Int) ≤ lo)) = true from (decide_eq_true c4)]; rfl)) rfl rfl hr (v := .int .i64 mo) (rl rfl (by kernel_rfl) (by kernel_rfl) (h.cell 2 rfl)) ?_; clear hr a; intro a hr
        refine op_val ((wg hr rfl rfl rfl (b' := (decide ((1 : Int) ≤ lo))) (by kernel_rfl)).trans (by rw [show (decide ((1 : Int) ≤ lo)) = true from (decide_eq_true c4)]; rfl)) rfl rfl hr (v := .bool (decide (lo ≤ mo))) (by kernel_rfl) ?_; clear hr a; intro a hr
        refine op_val (wn rfl) rfl rfl hr (v := .bool (decide (lo ≤ mo))) (rp_t (b := (decide ((1 : Int) ≤ lo))) rfl (by kernel_rfl) (decide_eq_true c4) (by kernel_rfl)) ?_; clear hr a; intro a hr
        refine op_val (wn rfl) rfl rfl hr (v := .bool (decide (lo ≤ mo))) (by kernel_rfl) ?_; clear hr a; intro a hr
        by_cases c5 : lo ≤ mo
        ·
          refine op_val ((wg hr rfl rfl rfl (b' := (decide (lo ≤ mo))) (by kernel_rfl)).trans (by rw [show (decide (lo ≤ mo)) = true from (decide_eq_true c5)]; rfl)) rfl rfl hr (v := .pointer (some ⟨b1, 2, none⟩)) (by kernel_rfl) ?_; clear hr a; intro a hr
          refine op_val ((wg hr rfl rfl rfl (b' := (decide (lo ≤ mo))) (by kernel_rfl)).trans (by rw [show (decide (lo ≤ mo)) = true from (decide_eq_true c5)]; rfl)) rfl rfl hr (v := .int .i64 mo) (rl rfl (by kernel_rfl) (by kernel_rfl) (h.cell 2 rfl)) ?_; clear hr a; intro a hr
          refine op_val ((wg hr rfl rfl rfl (b' := (decide (lo ≤ mo))) (by kernel_rfl)).trans (by rw [show (decide (lo ≤ mo)) = true from (decide_eq_true c5)]; rfl)) rfl rfl hr (v := .bool (decide (mo ≤ 4096))) (by kernel_rfl) ?_; clear hr a; intro a hr
          refine op_val (wn rfl) rfl rfl hr (v := .bool (decide (mo ≤ 4096))) (rp_t (b := (decide (lo ≤ mo))) rfl (by kernel_rfl) (decide_eq_true c5) (by kernel_rfl)) ?_; clear hr a; intro a hr
          refine op_val (wn rfl) rfl rfl hr (v := .bool (decide (mo ≤ 4096))) (by kernel_rfl) ?_; clear hr a; intro a hr
          refine wpList_nil ?_
          refine then_normal ?_
          refine wp_ret ?_
          refine end_ret1 (v := .bool (decide (mo ≤ 4096))) rfl hr (by kernel_rfl) ?_
          exact ⟨(by simp only [limB]; first | rfl | (simp_all; done) | (simp_all; omega) | (simp only [Ending.returned.injEq, Value.bool.injEq]; rw [Bool.eq_iff_iff]; simp; omega)), h.drop⟩
        ·
          refine op_off ((wg hr rfl rfl rfl (b' := (decide (lo ≤ mo))) (by kernel_rfl)).trans (by rw [show (decide (lo ≤ mo)) = false from (decide_eq_false c5)]; rfl)) rfl rfl hr ?_
          clear hr a; intro a hr
          refine op_off ((wg hr rfl rfl rfl (b' := (decide (lo ≤ mo))) (by kernel_rfl)).trans (by rw [show (decide (lo ≤ mo)) = false from (decide_eq_false c5)]; rfl)) rfl rfl hr ?_
          clear hr a; intro a hr
          refine op_off ((wg hr rfl rfl rfl (b' := (decide (lo ≤ mo))) (by kernel_rfl)).trans (by rw [show (decide (lo ≤ mo)) = false from (decide_eq_false c5)]; rfl)) rfl rfl hr ?_
          clear hr a; intro a hr
          refine op_val (wn rfl) rfl rfl hr (v := .bool false) (rp_f (b := (decide (lo ≤ mo))) rfl (by kernel_rfl) (decide_eq_false c5) (by kernel_rfl)) ?_; clear hr a; intro a hr
          refine op_val (wn rfl) rfl rfl hr (v := .bool false) (by kernel_rfl) ?_; clear hr a; intro a hr
          refine wpList_nil ?_
          refine then_normal ?_
          refine wp_ret ?_
          refine end_ret1 (v := .bool false) rfl hr (by kernel_rfl) ?_
          exact ⟨(by simp only [limB]; first | rfl | (simp_all; done) | (simp_all; omega) | (simp only [Ending.returned.injEq, Value.bool.injEq]; rw [Bool.eq_iff_iff]; simp; omega)), h.drop⟩
      ·
        refine op_off ((wg hr rfl rfl rfl (b' := (decide ((1 : Int) ≤ lo))) (by kernel_rfl)).trans (by rw [show (decide ((1 : Int) ≤ lo)) = false from (decide_eq_false c4)]; rfl)) rfl rfl hr ?_
        clear hr a; intro a hr
        refine op_off ((wg hr rfl rfl rfl (b' := (decide ((1 : Int) ≤ lo))) (by kernel_rfl)).trans (by rw [show (decide ((1 : Int) ≤ lo)) = false from (decide_eq_false c4)]; rfl)) rfl rfl hr ?_
        clear hr a; intro a hr
        refine op_off ((wg hr rfl rfl rfl (b' := (decide ((1 : Int) ≤ lo))) (by kernel_rfl)).trans (by rw [show (decide ((1 : Int) ≤ lo)) = false from (decide_eq_false c4)]; rfl)) rfl rfl hr ?_
        clear hr a; intro a hr
        refine op_off ((wg hr rfl rfl rfl (b' := (decide ((1 : Int) ≤ lo))) (by kernel_rfl)).trans (by rw [show (decide ((1 : Int) ≤ lo)) = false from (decide_eq_false c4)]; rfl)) rfl rfl hr ?_
        clear hr a; intro a hr
        refine op_off ((wg hr rfl rfl rfl (b' := (decide ((1 : Int) ≤ lo))) (by kernel_rfl)).trans (by rw [show (decide ((1 : Int) ≤ lo)) = false from (decide_eq_false c4)]; rfl)) rfl rfl hr ?_
        clear hr a; intro a hr
        refine op_val (wn rfl) rfl rfl hr (v := .bool false) (rp_f (b := (decide ((1 : Int) ≤ lo))) rfl (by kernel_rfl) (decide_eq_false c4) (by kernel_rfl)) ?_; clear hr a; intro a hr
        refine op_val (wn rfl) rfl rfl hr (v := .bool false) (by kernel_rfl) ?_; clear hr a; intro a hr
        refine op_off ((wg hr rfl rfl rfl (b' := false) (by kernel_rfl)).trans rfl) rfl rfl hr ?_
        clear hr a; intro a hr
        refine op_off ((wg hr rfl rfl rfl (b' := false) (by kernel_rfl)).trans rfl) rfl rfl hr ?_
        clear hr a; intro a hr
        refine op_off ((wg hr rfl rfl rfl (b' := false) (by kernel_rfl)).trans rfl) rfl rfl hr ?_
        clear hr a; intro a hr
        refine op_val (wn rfl) rfl rfl hr (v := .bool false) (by kernel_rfl) ?_; clear hr a; intro a hr
        refine op_val (wn rfl) rfl rfl hr (v := .bool false) (by kernel_rfl) ?_; clear hr a; intro a hr
        refine wpList_nil ?_
        refine then_normal ?_
        refine wp_ret ?_
        refine end_ret1 (v := .bool false) rfl hr (by kernel_rfl) ?_
        exact ⟨(by simp only [limB]; first | rfl | (simp_all; done) | (simp_all; omega) | (simp only [Ending.returned.injEq, Value.bool.injEq]; rw [Bool.eq_iff_iff]; simp; omega)), h.drop⟩
    ·
      refine op_off ((wg hr rfl rfl rfl (b' := (decide (fr ≤ 4096))) (by kernel_rfl)).trans (by rw [show (decide (fr ≤ 4096)) = false from (decide_eq_false c3)]; rfl)) rfl rfl hr ?_
      clear hr a; intro a hr
      refine op_off ((wg hr rfl rfl rfl (b' := (decide (fr ≤ 4096))) (by kernel_rfl)).trans (by rw [show (decide (fr ≤ 4096)) = false from (decide_eq_false c3)]; rfl)) rfl rfl hr ?_
      clear hr a; intro a hr
      refine op_off ((wg hr rfl rfl rfl (b' := (decide (fr ≤ 4096))) (by kernel_rfl)).trans (by rw [show (decide (fr ≤ 4096)) = false from (decide_eq_false c3)]; rfl)) rfl rfl hr ?_
      clear hr a; intro a hr
      refine op_val (wn rfl) rfl rfl hr (v := .bool false) (rp_f (b := (decide (fr ≤ 4096))) rfl (by kernel_rfl) (decide_eq_false c3) (by kernel_rfl)) ?_; clear hr a; intro a hr
      refine op_val (wn rfl) rfl rfl hr (v := .bool false) (by kernel_rfl) ?_; clear hr a; intro a hr
      refine op_off ((wg hr rfl rfl rfl (b' := false) (by kernel_rfl)).trans rfl) rfl rfl hr ?_
      clear hr a; intro a hr
      refine op_off ((wg hr rfl rfl rfl (b' := false) (by kernel_rfl)).trans rfl) rfl rfl hr ?_
      clear hr a; intro a hr
      refine op_off ((wg hr rfl rfl rfl (b' := false) (by kernel_rfl)).trans rfl) rfl rfl hr ?_
      clear hr a; intro a hr
      refine op_off ((wg hr rfl rfl rfl (b' := false) (by kernel_rfl)).trans rfl) rfl rfl hr ?_
      clear hr a; intro a hr
      refine op_off ((wg hr rfl rfl rfl (b' := false) (by kernel_rfl)).trans rfl) rfl rfl hr ?_
      clear hr a; intro a hr
      refine op_val (wn rfl) rfl rfl hr (v := .bool false) (by kernel_rfl) ?_; clear hr a; intro a hr
      refine op_val (wn rfl) rfl rfl hr (v := .bool false) (by kernel_rfl) ?_; clear hr a; intro a hr
      refine op_off ((wg hr rfl rfl rfl (b' := false) (by kernel_rfl)).trans rfl) rfl rfl hr ?_
      clear hr a; intro a hr
      refine op_off ((wg hr rfl rfl rfl (b' := false) (by kernel_rfl)).trans rfl) rfl rfl hr ?_
      clear hr a; intro a hr
      refine op_off ((wg hr rfl rfl rfl (b' := false) (by kernel_rfl)).trans rfl) rfl rfl hr ?_
      clear hr a; intro a hr
      refine op_val (wn rfl) rfl rfl hr (v := .bool false) (by kernel_rfl) ?_; clear hr a; intro a hr
      refine op_val (wn rfl) rfl rfl hr (v := .bool false) (by kernel_rfl) ?_; clear hr a; intro a hr
      refine wpList_nil ?_
      refine then_normal ?_
      refine wp_ret ?_
      refine end_ret1 (v := .bool false) rfl hr (by kernel_rfl) ?_
      exact ⟨(by simp only [limB]; first | rfl | (simp_all; done) | (simp_all; omega) | (simp only [Ending.returned.injEq, Value.bool.injEq]; rw [Bool.eq_iff_iff]; simp; omega)), h.drop⟩
  ·
    refine op_off ((wg hr rfl rfl rfl (b' := (decide (fr ≥ 1))) (by kernel_rfl)).trans (by rw [show (decide (fr ≥ 1)) = false from (decide_eq_false c2)]; rfl)) rfl rfl hr ?_
    clear hr a; intro a hr
    refine op_off ((wg hr rfl rfl rfl (b' := (decide (fr ≥ 1))) (by kernel_rfl)).trans (by rw [show (decide (fr ≥ 1)) = false from (decide_eq_false c2)]; rfl)) rfl rfl hr ?_
    clear hr a; intro a hr
    refine op_off ((wg hr rfl rfl rfl (b' := (decide (fr ≥ 1))) (by kernel_rfl)).trans (by rw [show (decide (fr ≥ 1)) = false from (decide_eq_false c2)]; rfl)) rfl rfl hr ?_
    clear hr a; intro a hr
    refine op_val (wn rfl) rfl rfl hr (v := .bool false) (rp_f (b := (decide (fr ≥ 1))) rfl (by kernel_rfl) (decide_eq_false c2) (by kernel_rfl)) ?_; clear hr a; intro a hr
    refine op_val (wn rfl) rfl rfl hr (v := .bool false) (by kernel_rfl) ?_; clear hr a; intro a hr
    refine op_off ((wg hr rfl rfl rfl (b' := false) (by kernel_rfl)).trans rfl) rfl rfl hr ?_
    clear hr a; intro a hr
    refine op_off ((wg hr rfl rfl rfl (b' := false) (by kernel_rfl)).trans rfl) rfl rfl hr ?_
    clear hr a; intro a hr
    refine op_off ((wg hr rfl rfl rfl (b' := false) (by kernel_rfl)).trans rfl) rfl rfl hr ?_
    clear hr a; intro a hr
    refine op_val (wn rfl) rfl rfl hr (v := .bool false) (by kernel_rfl) ?_; clear hr a; intro a hr
    refine op_val (wn rfl) rfl rfl hr (v := .bool false) (by kernel_rfl) ?_; clear hr a; intro a hr
    refine op_off ((wg hr rfl rfl rfl (b' := false) (by kernel_rfl)).trans rfl) rfl rfl hr ?_
    clear hr a; intro a hr
    refine op_off ((wg hr rfl rfl rfl (b' := false) (by kernel_rfl)).trans rfl) rfl rfl hr ?_
    clear hr a; intro a hr
    refine op_off ((wg hr rfl rfl rfl (b' := false) (by kernel_rfl)).trans rfl) rfl rfl hr ?_
    clear hr a; intro a hr
    refine op_off ((wg hr rfl rfl rfl (b' := false) (by kernel_rfl)).trans rfl) rfl rfl hr ?_
    clear hr a; intro a hr
    refine op_off ((wg hr rfl rfl rfl (b' := false) (by kernel_rfl)).trans rfl) rfl rfl hr ?_
    clear hr a; intro a hr
    refine op_val (wn rfl) rfl rfl hr (v := .bool false) (by kernel_rfl) ?_; clear hr a; intro a hr
    refine op_val (wn rfl) rfl rfl hr (v := .bool false) (by kernel_rfl) ?_; clear hr a; intro a hr
    refine op_off ((wg hr rfl rfl rfl (b' := false) (by kernel_rfl)).trans rfl) rfl rfl hr ?_
    clear hr a; intro a hr
    refine op_off ((wg hr rfl rfl rfl (b' := false) (by kernel_rfl)).trans rfl) rfl rfl hr ?_
    clear hr a; intro a hr
    refine op_off ((wg hr rfl rfl rfl (b' := false) (by kernel_rfl)).trans rfl) rfl rfl hr ?_
    clear hr a; intro a hr
    refine op_val (wn rfl) rfl rfl hr (v := .bool false) (by kernel_rfl) ?_; clear hr a; intro a hr
    refine op_val (wn rfl) rfl rfl hr (v := .bool false) (by kernel_rfl) ?_; clear hr a; intro a hr
    refine wpList_nil ?_
    refine then_normal ?_
    refine wp_ret ?_
    refine end_ret1 (v := .bool false) rfl hr (by kernel_rfl) ?_
    exact ⟨(by simp only [limB]; first | rfl | (simp_all; done) | (simp_all; omega) | (simp only [Ending.returned.injEq, Value.bool.injEq]; rw [Bool.eq_iff_iff]; simp; omega)), h.drop⟩

set_option maxRecDepth 100000 in
set_option maxHeartbeats 4000000 in
/-- plunder/frames.Cells -/
theorem fcells_spec {z w : World} {L : List HProp} {fr : Int} (h1 : 1 ≤ fr) (h2 : fr ≤ 4096) (h : Fit z (sepL (L)) w) :
    Calls Try.prog 56 #[.int .i64 fr] w fun e w => e = .returned (.int .i64 (1 + fr * 10)) ∧ Fit z (sepL (L)) w := by
  refine enter Try.func56 rfl 12 rfl rfl [(0, .int .i64 fr)] ⟨by kernel_rfl, trivial⟩ ?_
  intro j a hr
  refine wp_seq ?_
  refine wp_region_lit ?_
  refine op_val (wn rfl) rfl rfl hr (v := .int .i64 0) (by kernel_rfl) ?_; clear hr a; intro a hr
  refine wpList_nil ?_
  refine then_normal ?_
  refine wp_seq ?_
  refine wp_seq ?_
  refine wp_region_lit ?_
  refine op_val (wn rfl) rfl rfl hr (v := .int .i64 fr) (by kernel_rfl) ?_; clear hr a; intro a hr
  refine op_val (wn rfl) rfl rfl hr (v := .bool (decide (fr < 1))) (by kernel_rfl) ?_; clear hr a; intro a hr
  refine op_val (wn rfl) rfl rfl hr (v := .bool (decide (fr < 1))) (by kernel_rfl) ?_; clear hr a; intro a hr
  refine op_val ((wg hr rfl rfl rfl (b' := (decide (fr < 1))) (by kernel_rfl)).trans (by rw [show (decide (fr < 1)) = false from (decide_eq_false (by omega))]; rfl)) rfl rfl hr (v := .int .i64 fr) (by kernel_rfl) ?_; clear hr a; intro a hr
  refine op_val ((wg hr rfl rfl rfl (b' := (decide (fr < 1))) (by kernel_rfl)).trans (by rw [show (decide (fr < 1)) = false from (decide_eq_false (by omega))]; rfl)) rfl rfl hr (v := .bool (decide (fr > 4096))) (by kernel_rfl) ?_; clear hr a; intro a hr
  refine op_val (wn rfl) rfl rfl hr (v := .bool (decide (fr > 4096))) (rp_f (b := (decide (fr < 1))) rfl (by kernel_rfl) (decide_eq_false (by omega)) (by kernel_rfl)) ?_; clear hr a; intro a hr
  refine wpList_nil ?_
  refine then_normal ?_
  refine cond_f hr (b := (decide (fr > 4096))) (by kernel_rfl) (decide_eq_false (by omega)) ?_
  refine wp_skip ?_
  refine then_normal ?_
  refine wp_seq ?_
  refine wp_region_lit ?_
  refine op_val (wn rfl) rfl rfl hr (v := .int .i64 fr) (by kernel_rfl) ?_; clear hr a; intro a hr
  refine op_val (wn rfl) rfl rfl hr (v := .int .i64 (fr * 10)) (ra (m := IntKind.i64.wrap (fr * 10)) (by kernel_rfl) ((i64_in _ (by omega)).trans (by omega))) ?_; clear hr a; intro a hr
  refine op_val (wn rfl) rfl rfl hr (v := .int .i64 (1 + (fr * 10))) (ra (m := IntKind.i64.wrap (1 + (fr * 10))) (by kernel_rfl) ((i64_in _ (by omega)).trans (by omega))) ?_; clear hr a; intro a hr
  refine op_val (wn rfl) rfl rfl hr (v := .int .i64 (1 + (fr * 10))) (by kernel_rfl) ?_; clear hr a; intro a hr
  refine wpList_nil ?_
  refine then_normal ?_
  refine wp_ret ?_
  refine end_ret1 (v := .int .i64 (1 + (fr * 10))) rfl hr (by kernel_rfl) ?_
  exact ⟨rfl, h⟩

set_option maxRecDepth 100000 in
set_option maxHeartbeats 4000000 in
/-- plunder/park.Cells -/
theorem pcells_spec {z w : World} {L : List HProp} {nw : Int} (h1 : 1 ≤ nw) (h2 : nw ≤ 64) (h : Fit z (sepL (L)) w) :
    Calls Try.prog 57 #[.int .i64 nw] w fun e w => e = .returned (.int .i64 (2 + nw)) ∧ Fit z (sepL (L)) w := by
  refine enter Try.func57 rfl 11 rfl rfl [(0, .int .i64 nw)] ⟨by kernel_rfl, trivial⟩ ?_
  intro j a hr
  refine wp_seq ?_
  refine wp_region_lit ?_
  refine op_val (wn rfl) rfl rfl hr (v := .int .i64 0) (by kernel_rfl) ?_; clear hr a; intro a hr
  refine wpList_nil ?_
  refine then_normal ?_
  refine wp_seq ?_
  refine wp_seq ?_
  refine wp_region_lit ?_
  refine op_val (wn rfl) rfl rfl hr (v := .int .i64 nw) (by kernel_rfl) ?_; clear hr a; intro a hr
  refine op_val (wn rfl) rfl rfl hr (v := .bool (decide (nw < 1))) (by kernel_rfl) ?_; clear hr a; intro a hr
  refine op_val (wn rfl) rfl rfl hr (v := .bool (decide (nw < 1))) (by kernel_rfl) ?_; clear hr a; intro a hr
  refine op_val ((wg hr rfl rfl rfl (b' := (decide (nw < 1))) (by kernel_rfl)).trans (by rw [show (decide (nw < 1)) = false from (decide_eq_false (by omega))]; rfl)) rfl rfl hr (v := .int .i64 nw) (by kernel_rfl) ?_; clear hr a; intro a hr
  refine op_val ((wg hr rfl rfl rfl (b' := (decide (nw < 1))) (by kernel_rfl)).trans (by rw [show (decide (nw < 1)) = false from (decide_eq_false (by omega))]; rfl)) rfl rfl hr (v := .bool (decide (nw > 64))) (by kernel_rfl) ?_; clear hr a; intro a hr
  refine op_val (wn rfl) rfl rfl hr (v := .bool (decide (nw > 64))) (rp_f (b := (decide (nw < 1))) rfl (by kernel_rfl) (decide_eq_false (by omega)) (by kernel_rfl)) ?_; clear hr a; intro a hr
  refine wpList_nil ?_
  refine then_normal ?_
  refine cond_f hr (b := (decide (nw > 64))) (by kernel_rfl) (decide_eq_false (by omega)) ?_
  refine wp_skip ?_
  refine then_normal ?_
  refine wp_seq ?_
  refine wp_region_lit ?_
  refine op_val (wn rfl) rfl rfl hr (v := .int .i64 nw) (by kernel_rfl) ?_; clear hr a; intro a hr
  refine op_val (wn rfl) rfl rfl hr (v := .int .i64 (2 + nw)) (ra (m := IntKind.i64.wrap (2 + nw)) (by kernel_rfl) ((i64_in _ (by omega)).trans (by omega))) ?_; clear hr a; intro a hr
  refine op_val (wn rfl) rfl rfl hr (v := .int .i64 (2 + nw)) (by kernel_rfl) ?_; clear hr a; intro a hr
  refine wpList_nil ?_
  refine then_normal ?_
  refine wp_ret ?_
  refine end_ret1 (v := .int .i64 (2 + nw)) rfl hr (by kernel_rfl) ?_
  exact ⟨rfl, h⟩

set_option maxRecDepth 100000 in
set_option maxHeartbeats 4000000 in
/-- plunder/deque.capsOK -/
theorem caps_spec {z w : World} {L : List HProp} {lo mo : Int}  (h : Fit z (sepL (L)) w) :
    Calls Try.prog 99 #[.int .i64 lo, .int .i64 mo] w fun e w => e = .returned (.bool (capsB lo mo)) ∧ Fit z (sepL (L)) w := by
  refine enter Try.func99 rfl 16 rfl rfl [(0, .int .i64 lo), (1, .int .i64 mo)] ⟨by kernel_rfl, by kernel_rfl, trivial⟩ ?_
  intro j a hr
  refine wp_seq ?_
  refine wp_region_lit ?_
  refine op_val (wn rfl) rfl rfl hr (v := .bool false) (by kernel_rfl) ?_; clear hr a; intro a hr
  refine wpList_nil ?_
  refine then_normal ?_
  refine wp_seq ?_
  refine wp_region_lit ?_
  refine op_val (wn rfl) rfl rfl hr (v := .int .i64 lo) (by kernel_rfl) ?_; clear hr a; intro a hr
  refine op_val (wn rfl) rfl rfl hr (v := .bool (decide ((1 : Int) ≤ lo))) (by kernel_rfl) ?_; clear hr a; intro a hr
  refine op_val (wn rfl) rfl rfl hr (v := .bool (decide ((1 : Int) ≤ lo))) (by kernel_rfl) ?_; clear hr a; intro a hr
  by_cases c1 : (1 : Int) ≤ lo
  ·
    refine op_val ((wg hr rfl rfl rfl (b' := (decide ((1 : Int) ≤ lo))) (by kernel_rfl)).trans (by rw [show (decide ((1 : Int) ≤ lo)) = true from (decide_eq_true c1)]; rfl)) rfl rfl hr (v := .int .i64 lo) (by kernel_rfl) ?_; clear hr a; intro a hr
    refine op_val ((wg hr rfl rfl rfl (b' := (decide ((1 : Int) ≤ lo))) (by kernel_rfl)).trans (by rw [show (decide ((1 : Int) ≤ lo)) = true from (decide_eq_true c1)]; rfl)) rfl rfl hr (v := .int .i64 mo) (by kernel_rfl) ?_; clear hr a; intro a hr
    refine op_val ((wg hr rfl rfl rfl (b' := (decide ((1 : Int) ≤ lo))) (by kernel_rfl)).trans (by rw [show (decide ((1 : Int) ≤ lo)) = true from (decide_eq_true c1)]; rfl)) rfl rfl hr (v := .bool (decide (lo ≤ mo))) (by kernel_rfl) ?_; clear hr a; intro a hr
    refine op_val (wn rfl) rfl rfl hr (v := .bool (decide (lo ≤ mo))) (rp_t (b := (decide ((1 : Int) ≤ lo))) rfl (by kernel_rfl) (decide_eq_true c1) (by kernel_rfl)) ?_; clear hr a; intro a hr
    refine op_val (wn rfl) rfl rfl hr (v := .bool (decide (lo ≤ mo))) (by kernel_rfl) ?_; clear hr a; intro a hr
    by_cases c2 : lo ≤ mo
    ·
      refine op_val ((wg hr rfl rfl rfl (b' := (decide (lo ≤ mo))) (by kernel_rfl)).trans (by rw [show (decide (lo ≤ mo)) = true from (decide_eq_true c2)]; rfl)) rfl rfl hr (v := .int .i64 mo) (by kernel_rfl) ?_; clear hr a; intro a hr
      refine op_val ((wg hr rfl rfl rfl (b' := (decide (lo ≤ mo))) (by kernel_rfl)).trans (by rw [show (decide (lo ≤ mo)) = true from (decide_eq_true c2)]; rfl)) rfl rfl hr (v := .bool (decide (mo ≤ 4096))) (by kernel_rfl) ?_; clear hr a; intro a hr
      refine op_val (wn rfl) rfl rfl hr (v := .bool (decide (mo ≤ 4096))) (rp_t (b := (decide (lo ≤ mo))) rfl (by kernel_rfl) (decide_eq_true c2) (by kernel_rfl)) ?_; clear hr a; intro a hr
      refine op_val (wn rfl) rfl rfl hr (v := .bool (decide (mo ≤ 4096))) (by kernel_rfl) ?_; clear hr a; intro a hr
      refine wpList_nil ?_
      refine then_normal ?_
      refine wp_ret ?_
      refine end_ret1 (v := .bool (decide (mo ≤ 4096))) rfl hr (by kernel_rfl) ?_
      exact ⟨(by simp only [capsB]; first | rfl | (simp_all; done) | (simp_all; omega) | (simp only [Ending.returned.injEq, Value.bool.injEq]; rw [Bool.eq_iff_iff]; simp; omega)), h⟩
    ·
      refine op_off ((wg hr rfl rfl rfl (b' := (decide (lo ≤ mo))) (by kernel_rfl)).trans (by rw [show (decide (lo ≤ mo)) = false from (decide_eq_false c2)]; rfl)) rfl rfl hr ?_
      clear hr a; intro a hr
      refine op_off ((wg hr rfl rfl rfl (b' := (decide (lo ≤ mo))) (by kernel_rfl)).trans (by rw [show (decide (lo ≤ mo)) = false from (decide_eq_false c2)]; rfl)) rfl rfl hr ?_
      clear hr a; intro a hr
      refine op_val (wn rfl) rfl rfl hr (v := .bool false) (rp_f (b := (decide (lo ≤ mo))) rfl (by kernel_rfl) (decide_eq_false c2) (by kernel_rfl)) ?_; clear hr a; intro a hr
      refine op_val (wn rfl) rfl rfl hr (v := .bool false) (by kernel_rfl) ?_; clear hr a; intro a hr
      refine wpList_nil ?_
      refine then_normal ?_
      refine wp_ret ?_
      refine end_ret1 (v := .bool false) rfl hr (by kernel_rfl) ?_
      exact ⟨(by simp only [capsB]; first | rfl | (simp_all; done) | (simp_all; omega) | (simp only [Ending.returned.injEq, Value.bool.injEq]; rw [Bool.eq_iff_iff]; simp; omega)), h⟩
  ·
    refine op_off ((wg hr rfl rfl rfl (b' := (decide ((1 : Int) ≤ lo))) (by kernel_rfl)).trans (by rw [show (decide ((1 : Int) ≤ lo)) = false from (decide_eq_false c1)]; rfl)) rfl rfl hr ?_
    clear hr a; intro a hr
    refine op_off ((wg hr rfl rfl rfl (b' := (decide ((1 : Int) ≤ lo))) (by kernel_rfl)).trans (by rw [show (decide ((1 : Int) ≤ lo)) = false from (decide_eq_false c1)]; rfl)) rfl rfl hr ?_
    clear hr a; intro a hr
    refine op_off ((wg hr rfl rfl rfl (b' := (decide ((1 : Int) ≤ lo))) (by kernel_rfl)).trans (by rw [show (decide ((1 : Int) ≤ lo)) = false from (decide_eq_false c1)]; rfl)) rfl rfl hr ?_
    clear hr a; intro a hr
    refine op_val (wn rfl) rfl rfl hr (v := .bool false) (rp_f (b := (decide ((1 : Int) ≤ lo))) rfl (by kernel_rfl) (decide_eq_false c1) (by kernel_rfl)) ?_; clear hr a; intro a hr
    refine op_val (wn rfl) rfl rfl hr (v := .bool false) (by kernel_rfl) ?_; clear hr a; intro a hr
    refine op_off ((wg hr rfl rfl rfl (b' := false) (by kernel_rfl)).trans rfl) rfl rfl hr ?_
    clear hr a; intro a hr
    refine op_off ((wg hr rfl rfl rfl (b' := false) (by kernel_rfl)).trans rfl) rfl rfl hr ?_
    clear hr a; intro a hr
    refine op_val (wn rfl) rfl rfl hr (v := .bool false) (by kernel_rfl) ?_; clear hr a; intro a hr
    refine op_val (wn rfl) rfl rfl hr (v := .bool false) (by kernel_rfl) ?_; clear hr a; intro a hr
    refine wpList_nil ?_
    refine then_normal ?_
    refine wp_ret ?_
    refine end_ret1 (v := .bool false) rfl hr (by kernel_rfl) ?_
    exact ⟨(by simp only [capsB]; first | rfl | (simp_all; done) | (simp_all; omega) | (simp only [Ending.returned.injEq, Value.bool.injEq]; rw [Bool.eq_iff_iff]; simp; omega)), h⟩

set_option maxRecDepth 100000 in
set_option maxHeartbeats 4000000 in
/-- plunder/deque.Cells -/
theorem dcells_spec {z w : World} {L : List HProp} {lo mo : Int} (h1 : 1 ≤ lo) (h2 : lo ≤ mo) (h3 : mo ≤ 4096) (h : Fit z (sepL (L)) w) :
    Calls Try.prog 58 #[.int .i64 lo, .int .i64 mo] w fun e w => e = .returned (.int .i64 (dqv mo (4 + lo) lo)) ∧ Fit z (sepL (L)) w := by
  refine enter Try.func58 rfl 26 rfl rfl [(0, .int .i64 lo), (1, .int .i64 mo)] ⟨by kernel_rfl, by kernel_rfl, trivial⟩ ?_
  intro j a hr
  refine wp_seq ?_
  refine wp_region_lit ?_
  refine op_val (wn rfl) rfl rfl hr (v := .int .i64 0) (by kernel_rfl) ?_; clear hr a; intro a hr
  refine wpList_nil ?_
  refine then_normal ?_
  refine wp_seq ?_
  refine wp_seq ?_
  refine wp_region_lit ?_
  refine op_val (wn rfl) rfl rfl hr (v := .int .i64 lo) (by kernel_rfl) ?_; clear hr a; intro a hr
  refine op_val (wn rfl) rfl rfl hr (v := .int .i64 mo) (by kernel_rfl) ?_; clear hr a; intro a hr
  refine op_call (wn rfl) rfl rfl hr (f := 99) (args := #[.int .i64 lo, .int .i64 mo]) (by kernel_rfl) (caps_spec  (h := h)) ?_; clear h
  rintro _ w ⟨rfl, h⟩; refine ⟨_, rfl, ?_⟩
  clear hr a; intro a hr
  have h : Fit z (sepL (L)) _ := h
  refine op_val (wn rfl) rfl rfl hr (v := .bool (!(capsB lo mo))) (by kernel_rfl) ?_; clear hr a; intro a hr
  refine wpList_nil ?_
  refine then_normal ?_
  refine cond_f hr (b := (!(capsB lo mo))) (by kernel_rfl) (by rw [show (capsB lo mo) = true from (by simp [capsB]; omega)]; rfl) ?_
  refine wp_skip ?_
  refine then_normal ?_
  refine wp_seq ?_
  refine wp_region_lit ?_
  refine op_val (wn rfl) rfl rfl hr (v := .int .i64 lo) (by kernel_rfl) ?_; clear hr a; intro a hr
  refine op_val (wn rfl) rfl rfl hr (v := .int .i64 (4 + lo)) (ra (m := IntKind.i64.wrap (4 + lo)) (by kernel_rfl) ((i64_in _ (by omega)).trans (by omega))) ?_; clear hr a; intro a hr
  refine op_val (wn rfl) rfl rfl hr (v := .int .i64 (4 + lo)) (by kernel_rfl) ?_; clear hr a; intro a hr
  refine wpList_nil ?_
  refine then_normal ?_
  refine wp_seq ?_
  refine wp_seq ?_
  refine wp_region_lit ?_
  refine op_val (wn rfl) rfl rfl hr (v := .int .i64 lo) (by kernel_rfl) ?_; clear hr a; intro a hr
  refine op_val (wn rfl) rfl rfl hr (v := .int .i64 lo) (by kernel_rfl) ?_; clear hr a; intro a hr
  refine wpList_nil ?_
  refine then_normal ?_
  refine wp_block ?_
  obtain ⟨j, hr2⟩ := hr.fold [(1, .int .i64 mo), (4, .int .i64 0), (5, .int .i64 (4 + lo)), (6, .int .i64 lo)] ⟨by kernel_rfl, by kernel_rfl, by kernel_rfl, by kernel_rfl, trivial⟩; clear hr; have hr := hr2; clear hr2
  have h : Fit z (sepL (L)) _ := h
  refine loop_rule (β := Nat) id (fun m a w => ∃ nc : Int, ∃ cc : Int, m = (mo - cc).toNat ∧ ∃ j, Rep 26 (lk [(1, .int .i64 mo), (4, .int .i64 0), (5, .int .i64 nc), (6, .int .i64 cc)] j) a ∧ (lo ≤ cc) ∧ (cc ≤ mo) ∧ (0 ≤ nc) ∧ (nc ≤ 8200 + (cc - lo) * 4097) ∧ (dqv mo nc cc = dqv mo (4 + lo) lo) ∧ Fit z (sepL (L)) w) ((mo - lo).toNat) ⟨4 + lo, lo, rfl, j, hr, (by omega), (by omega), (by omega), (by omega), (by rfl), h⟩ ?_
  clear h hr a; rintro m a w ⟨nc, cc, rfl, j, hr, hc0, hc1, hn0, hn1, hd, h⟩
  refine wp_seq ?_
  refine wp_seq ?_
  refine wp_region_lit ?_
  refine op_val (wn rfl) rfl rfl hr (v := .int .i64 cc) (by kernel_rfl) ?_; clear hr a; intro a hr
  refine op_val (wn rfl) rfl rfl hr (v := .int .i64 mo) (by kernel_rfl) ?_; clear hr a; intro a hr
  refine op_val (wn rfl) rfl rfl hr (v := .bool (decide (cc < mo))) (by kernel_rfl) ?_; clear hr a; intro a hr
  refine wpList_nil ?_
  refine then_normal ?_
  by_cases c1 : cc < mo
  ·
    refine cond_t hr (b := (decide (cc < mo))) (by kernel_rfl) (decide_eq_true c1) ?_
    refine wp_skip ?_
    refine then_normal ?_
    refine wp_block ?_
    refine wp_seq ?_
    refine wp_region_lit ?_
    refine op_val (wn rfl) rfl rfl hr (v := .int .i64 cc) (by kernel_rfl) ?_; clear hr a; intro a hr
    refine op_val (wn rfl) rfl rfl hr (v := .int .i64 (2 * cc)) (ra (m := IntKind.i64.wrap (2 * cc)) (by kernel_rfl) ((i64_in _ (by omega)).trans (by omega))) ?_; clear hr a; intro a hr
    refine op_val (wn rfl) rfl rfl hr (v := .int .i64 mo) (by kernel_rfl) ?_; clear hr a; intro a hr
    refine op_val (wn rfl) rfl rfl hr (v := .int .i64 (if mo < (2 * cc) then mo else (2 * cc))) (by kernel_rfl) ?_; clear hr a; intro a hr
    refine op_val (wn rfl) rfl rfl hr (v := .int .i64 (if mo < (2 * cc) then mo else (2 * cc))) (by kernel_rfl) ?_; clear hr a; intro a hr
    refine wpList_nil ?_
    refine then_normal ?_
    refine wp_region_lit ?_
    refine op_val (wn rfl) rfl rfl hr (v := .int .i64 nc) (by kernel_rfl) ?_; clear hr a; intro a hr
    refine op_val (wn rfl) rfl rfl hr (v := .int .i64 (if mo < (2 * cc) then mo else (2 * cc))) (by kernel_rfl) ?_; clear hr a; intro a hr
    refine op_val (wn rfl) rfl rfl hr (v := .int .i64 (1 + (if mo < (2 * cc) then mo else (2 * cc)))) (ra (m := IntKind.i64.wrap (1 + (if mo < (2 * cc) then mo else (2 * cc)))) (by kernel_rfl) ((i64_in _ (by omega)).trans (by omega))) ?_; clear hr a; intro a hr
    refine op_val (wn rfl) rfl rfl hr (v := .int .i64 (nc + (1 + (if mo < (2 * cc) then mo else (2 * cc))))) (ra (m := IntKind.i64.wrap (nc + (1 + (if mo < (2 * cc) then mo else (2 * cc))))) (by kernel_rfl) ((i64_in _ (by omega)).trans (by omega))) ?_; clear hr a; intro a hr
    refine op_val (wn rfl) rfl rfl hr (v := .int .i64 (nc + (1 + (if mo < (2 * cc) then mo else (2 * cc))))) (by kernel_rfl) ?_; clear hr a; intro a hr
    refine wpList_nil ?_
    refine blk_normal ?_
    refine then_normal ?_
    have hdn := dqv_go (m := mo) (n := nc) (c := cc) (by omega) (by omega)
    obtain ⟨j, hr2⟩ := hr.fold [(1, .int .i64 mo), (4, .int .i64 0), (5, .int .i64 (nc + (1 + (if mo < (2 * cc) then mo else (2 * cc))))), (6, .int .i64 (if mo < (2 * cc) then mo else (2 * cc)))] ⟨by kernel_rfl, by kernel_rfl, by kernel_rfl, by kernel_rfl, trivial⟩; clear hr; have hr := hr2; clear hr2
    have h : Fit z (sepL (L)) _ := h
    exact ⟨_, ⟨nc + (1 + (if mo < (2 * cc) then mo else (2 * cc))), if mo < (2 * cc) then mo else (2 * cc), rfl, j, hr, (by split <;> omega), (by split <;> omega), (by split <;> omega), (by split <;> omega), (by rw [show (nc + (1 + (if mo < (2 * cc) then mo else (2 * cc)))) = nc + (1 + (if mo < 2 * cc then mo else 2 * cc)) by omega]; exact hdn.symm.trans hd), h⟩, by simp only [id]; split <;> omega⟩
  ·
    refine cond_f hr (b := (decide (cc < mo))) (by kernel_rfl) (decide_eq_false c1) ?_
    refine wp_exit ?_
    refine then_exit ?_
    refine then_exit ?_
    refine blk_here ?_
    refine then_normal ?_
    refine wp_seq ?_
    refine wp_region_lit ?_
    refine op_val (wn rfl) rfl rfl hr (v := .int .i64 nc) (by kernel_rfl) ?_; clear hr a; intro a hr
    refine op_val (wn rfl) rfl rfl hr (v := .int .i64 nc) (by kernel_rfl) ?_; clear hr a; intro a hr
    refine wpList_nil ?_
    refine then_normal ?_
    refine wp_ret ?_
    refine end_ret1 (v := .int .i64 nc) rfl hr (by kernel_rfl) ?_
    exact ⟨(by rw [← hd, dqv_end (by omega)]), h⟩

set_option maxRecDepth 100000 in
set_option maxHeartbeats 4000000 in
/-- plunder/plunderref11.dequeCells -/
theorem dqcells_spec {z w : World} {L : List HProp} {lo mo : Int} (h1 : 1 ≤ lo) (h2 : lo ≤ mo) (h3 : mo ≤ 4096) (h : Fit z (sepL (L)) w) :
    Calls Try.prog 60 #[.int .i64 lo, .int .i64 mo] w fun e w => e = .returned (.int .i64 (dqv mo (4 + lo) lo)) ∧ Fit z (sepL (L)) w := by
  refine enter Try.func60 rfl 22 rfl rfl [(0, .int .i64 lo), (1, .int .i64 mo)] ⟨by kernel_rfl, by kernel_rfl, trivial⟩ ?_
  intro j a hr
  refine wp_seq ?_
  refine wp_region_lit ?_
  refine op_val (wn rfl) rfl rfl hr (v := .int .i64 0) (by kernel_rfl) ?_; clear hr a; intro a hr
  refine wpList_nil ?_
  refine then_normal ?_
  refine wp_seq ?_
  refine wp_region_lit ?_
  refine op_val (wn rfl) rfl rfl hr (v := .int .i64 lo) (by kernel_rfl) ?_; clear hr a; intro a hr
  refine op_val (wn rfl) rfl rfl hr (v := .int .i64 (4 + lo)) (ra (m := IntKind.i64.wrap (4 + lo)) (by kernel_rfl) ((i64_in _ (by omega)).trans (by omega))) ?_; clear hr a; intro a hr
  refine op_val (wn rfl) rfl rfl hr (v := .int .i64 (4 + lo)) (by kernel_rfl) ?_; clear hr a; intro a hr
  refine wpList_nil ?_
  refine then_normal ?_
  refine wp_seq ?_
  refine wp_seq ?_
  refine wp_region_lit ?_
  refine op_val (wn rfl) rfl rfl hr (v := .int .i64 lo) (by kernel_rfl) ?_; clear hr a; intro a hr
  refine op_val (wn rfl) rfl rfl hr (v := .int .i64 lo) (by kernel_rfl) ?_; clear hr a; intro a hr
  refine wpList_nil ?_
  refine then_normal ?_
  refine wp_block ?_
  obtain ⟨j, hr2⟩ := hr.fold [(1, .int .i64 mo), (4, .int .i64 0), (5, .int .i64 (4 + lo)), (6, .int .i64 lo)] ⟨by kernel_rfl, by kernel_rfl, by kernel_rfl, by kernel_rfl, trivial⟩; clear hr; have hr := hr2; clear hr2
  have h : Fit z (sepL (L)) _ := h
  refine loop_rule (β := Nat) id (fun m a w => ∃ nc : Int, ∃ cc : Int, m = (mo - cc).toNat ∧ ∃ j, Rep 22 (lk [(1, .int .i64 mo), (4, .int .i64 0), (5, .int .i64 nc), (6, .int .i64 cc)] j) a ∧ (lo ≤ cc) ∧ (cc ≤ mo) ∧ (0 ≤ nc) ∧ (nc ≤ 8200 + (cc - lo) * 4097) ∧ (dqv mo nc cc = dqv mo (4 + lo) lo) ∧ Fit z (sepL (L)) w) ((mo - lo).toNat) ⟨4 + lo, lo, rfl, j, hr, (by omega), (by omega), (by omega), (by omega), (by rfl), h⟩ ?_
  clear h hr a; rintro m a w ⟨nc, cc, rfl, j, hr, hc0, hc1, hn0, hn1, hd, h⟩
  refine wp_seq ?_
  refine wp_seq ?_
  refine wp_region_lit ?_
  refine op_val (wn rfl) rfl rfl hr (v := .int .i64 cc) (by kernel_rfl) ?_; clear hr a; intro a hr
  refine op_val (wn rfl) rfl rfl hr (v := .int .i64 mo) (by kernel_rfl) ?_; clear hr a; intro a hr
  refine op_val (wn rfl) rfl rfl hr (v := .bool (decide (cc < mo))) (by kernel_rfl) ?_; clear hr a; intro a hr
  refine wpList_nil ?_
  refine then_normal ?_
  by_cases c1 : cc < mo
  ·
    refine cond_t hr (b := (decide (cc < mo))) (by kernel_rfl) (decide_eq_true c1) ?_
    refine wp_skip ?_
    refine then_normal ?_
    refine wp_block ?_
    refine wp_seq ?_
    refine wp_region_lit ?_
    refine op_val (wn rfl) rfl rfl hr (v := .int .i64 cc) (by kernel_rfl) ?_; clear hr a; intro a hr
    refine op_val (wn rfl) rfl rfl hr (v := .int .i64 (2 * cc)) (ra (m := IntKind.i64.wrap (2 * cc)) (by kernel_rfl) ((i64_in _ (by omega)).trans (by omega))) ?_; clear hr a; intro a hr
    refine op_val (wn rfl) rfl rfl hr (v := .int .i64 mo) (by kernel_rfl) ?_; clear hr a; intro a hr
    refine op_val (wn rfl) rfl rfl hr (v := .int .i64 (if mo < (2 * cc) then mo else (2 * cc))) (by kernel_rfl) ?_; clear hr a; intro a hr
    refine op_val (wn rfl) rfl rfl hr (v := .int .i64 (if mo < (2 * cc) then mo else (2 * cc))) (by kernel_rfl) ?_; clear hr a; intro a hr
    refine wpList_nil ?_
    refine then_normal ?_
    refine wp_region_lit ?_
    refine op_val (wn rfl) rfl rfl hr (v := .int .i64 nc) (by kernel_rfl) ?_; clear hr a; intro a hr
    refine op_val (wn rfl) rfl rfl hr (v := .int .i64 (nc + 1)) (ra (m := IntKind.i64.wrap (nc + 1)) (by kernel_rfl) ((i64_in _ (by omega)).trans (by omega))) ?_; clear hr a; intro a hr
    refine op_val (wn rfl) rfl rfl hr (v := .int .i64 (if mo < (2 * cc) then mo else (2 * cc))) (by kernel_rfl) ?_; clear hr a; intro a hr
    refine op_val (wn rfl) rfl rfl hr (v := .int .i64 ((nc + 1) + (if mo < (2 * cc) then mo else (2 * cc)))) (ra (m := IntKind.i64.wrap ((nc + 1) + (if mo < (2 * cc) then mo else (2 * cc)))) (by kernel_rfl) ((i64_in _ (by omega)).trans (by omega))) ?_; clear hr a; intro a hr
    refine op_val (wn rfl) rfl rfl hr (v := .int .i64 ((nc + 1) + (if mo < (2 * cc) then mo else (2 * cc)))) (by kernel_rfl) ?_; clear hr a; intro a hr
    refine wpList_nil ?_
    refine blk_normal ?_
    refine then_normal ?_
    have hdn := dqv_go (m := mo) (n := nc) (c := cc) (by omega) (by omega)
    obtain ⟨j, hr2⟩ := hr.fold [(1, .int .i64 mo), (4, .int .i64 0), (5, .int .i64 ((nc + 1) + (if mo < (2 * cc) then mo else (2 * cc)))), (6, .int .i64 (if mo < (2 * cc) then mo else (2 * cc)))] ⟨by kernel_rfl, by kernel_rfl, by kernel_rfl, by kernel_rfl, trivial⟩; clear hr; have hr := hr2; clear hr2
    have h : Fit z (sepL (L)) _ := h
    exact ⟨_, ⟨(nc + 1) + (if mo < (2 * cc) then mo else (2 * cc)), if mo < (2 * cc) then mo else (2 * cc), rfl, j, hr, (by split <;> omega), (by split <;> omega), (by split <;> omega), (by split <;> omega), (by rw [show ((nc + 1) + (if mo < (2 * cc) then mo else (2 * cc))) = nc + (1 + (if mo < 2 * cc then mo else 2 * cc)) by omega]; exact hdn.symm.trans hd), h⟩, by simp only [id]; split <;> omega⟩
  ·
    refine cond_f hr (b := (decide (cc < mo))) (by kernel_rfl) (decide_eq_false c1) ?_
    refine wp_exit ?_
    refine then_exit ?_
    refine then_exit ?_
    refine blk_here ?_
    refine then_normal ?_
    refine wp_seq ?_
    refine wp_region_lit ?_
    refine op_val (wn rfl) rfl rfl hr (v := .int .i64 nc) (by kernel_rfl) ?_; clear hr a; intro a hr
    refine op_val (wn rfl) rfl rfl hr (v := .int .i64 nc) (by kernel_rfl) ?_; clear hr a; intro a hr
    refine wpList_nil ?_
    refine then_normal ?_
    refine wp_ret ?_
    refine end_ret1 (v := .int .i64 nc) rfl hr (by kernel_rfl) ?_
    exact ⟨(by rw [← hd, dqv_end (by omega)]), h⟩

set_option maxRecDepth 100000 in
set_option maxHeartbeats 4000000 in
/-- plunder/plunderref11.badLimits -/
theorem bad_spec {z w : World} {L : List HProp} {fr lo mo : Int}  (h : Fit z (sepL (L)) w) :
    Calls Try.prog 59 #[.agg #[.int .i64 fr, .int .i64 lo, .int .i64 mo]] w fun e w => e = .returned (.bool (!(limB fr lo mo))) ∧ Fit z (sepL (L)) w := by
  refine enter Try.func59 rfl 28 rfl rfl [(0, .agg #[.int .i64 fr, .int .i64 lo, .int .i64 mo])] ⟨by kernel_rfl, trivial⟩ ?_
  intro j a hr
  refine wp_seq ?_
  refine wp_region_lit ?_
  refine op_new (wn rfl) rfl rfl hr h (vf := fun b => .pointer (some ⟨b, 0, none⟩)) (cs := #[.int .i64 fr, .int .i64 lo, .int .i64 mo]) (T := 25) (by kernel_rfl) ?_; clear h hr a; intro b1 w a h hr
  refine op_val (wn rfl) rfl rfl hr (v := .bool false) (by kernel_rfl) ?_; clear hr a; intro a hr
  refine wpList_nil ?_
  refine then_normal ?_
  refine wp_seq ?_
  refine wp_region_lit ?_
  refine op_val (wn rfl) rfl rfl hr (v := .pointer (some ⟨b1, 0, none⟩)) (by kernel_rfl) ?_; clear hr a; intro a hr
  refine op_val (wn rfl) rfl rfl hr (v := .int .i64 fr) (rl rfl (by kernel_rfl) (by kernel_rfl) (h.cell 0 rfl)) ?_; clear hr a; intro a hr
  refine op_val (wn rfl) rfl rfl hr (v := .bool (decide (fr < 1))) (by kernel_rfl) ?_; clear hr a; intro a hr
  refine op_val (wn rfl) rfl rfl hr (v := .bool (decide (fr < 1))) (by kernel_rfl) ?_; clear hr a; intro a hr
  by_cases c2 : fr < 1
  ·
    refine op_off ((wg hr rfl rfl rfl (b' := (decide (fr < 1))) (by kernel_rfl)).trans (by rw [show (decide (fr < 1)) = true from (decide_eq_true c2)]; rfl)) rfl rfl hr ?_
    clear hr a; intro a hr
    refine op_off ((wg hr rfl rfl rfl (b' := (decide (fr < 1))) (by kernel_rfl)).trans (by rw [show (decide (fr < 1)) = true from (decide_eq_true c2)]; rfl)) rfl rfl hr ?_
    clear hr a; intro a hr
    refine op_off ((wg hr rfl rfl rfl (b' := (decide (fr < 1))) (by kernel_rfl)).trans (by rw [show (decide (fr < 1)) = true from (decide_eq_true c2)]; rfl)) rfl rfl hr ?_
    clear hr a; intro a hr
    refine op_val (wn rfl) rfl rfl hr (v := .bool true) (rp_t (b := (decide (fr < 1))) rfl (by kernel_rfl) (decide_eq_true c2) (by kernel_rfl)) ?_; clear hr a; intro a hr
    refine op_val (wn rfl) rfl rfl hr (v := .bool true) (by kernel_rfl) ?_; clear hr a; intro a hr
    refine op_off ((wg hr rfl rfl rfl (b' := true) (by kernel_rfl)).trans rfl) rfl rfl hr ?_
    clear hr a; intro a hr
    refine op_off ((wg hr rfl rfl rfl (b' := true) (by kernel_rfl)).trans rfl) rfl rfl hr ?_
    clear hr a; intro a hr
    refine op_off ((wg hr rfl rfl rfl (b' := true) (by kernel_rfl)).trans rfl) rfl rfl hr ?_
    clear hr a; intro a hr
    refine op_val (wn rfl) rfl rfl hr (v := .bool true) (by kernel_rfl) ?_; clear hr a; intro a hr
    refine op_val (wn rfl) rfl rfl hr (v := .bool true) (by kernel_rfl) ?_; clear hr a; intro a hr
    refine op_off ((wg hr rfl rfl rfl (b' := true) (by kernel_rfl)).trans rfl) rfl rfl hr ?_
    clear hr a; intro a hr
    refine op_off ((wg hr rfl rfl rfl (b' := true) (by kernel_rfl)).trans rfl) rfl rfl hr ?_
    clear hr a; intro a hr
    refine op_off ((wg hr rfl rfl rfl (b' := true) (by kernel_rfl)).trans rfl) rfl rfl hr ?_
    clear hr a; intro a hr
    refine op_off ((wg hr rfl rfl rfl (b' := true) (by kernel_rfl)).trans rfl) rfl rfl hr ?_
    clear hr a; intro a hr
    refine op_off ((wg hr rfl rfl rfl (b' := true) (by kernel_rfl)).trans rfl) rfl rfl hr ?_
    clear hr a; intro a hr
    refine op_val (wn rfl) rfl rfl hr (v := .bool true) (by kernel_rfl) ?_; clear hr a; intro a hr
    refine op_val (wn rfl) rfl rfl hr (v := .bool true) (by kernel_rfl) ?_; clear hr a; intro a hr
    refine op_off ((wg hr rfl rfl rfl (b' := true) (by kernel_rfl)).trans rfl) rfl rfl hr ?_
    clear hr a; intro a hr
    refine op_off ((wg hr rfl rfl rfl (b' := true) (by kernel_rfl)).trans rfl) rfl rfl hr ?_
    clear hr a; intro a hr
    refine op_off ((wg hr rfl rfl rfl (b' := true) (by kernel_rfl)).trans rfl) rfl rfl hr ?_
    clear hr a; intro a hr
    refine op_val (wn rfl) rfl rfl hr (v := .bool true) (by kernel_rfl) ?_; clear hr a; intro a hr
    refine op_val (wn rfl) rfl rfl hr (v := .bool true) (by kernel_rfl) ?_; clear hr a; intro a hr
    refine wpList_nil ?_
    refine then_normal ?_
    refine wp_ret ?_
    refine end_ret1 (v := .bool true) rfl hr (by kernel_rfl) ?_
    exact ⟨(by simp only [limB]; first | rfl | (simp_all; done) | (simp_all; omega) | (simp only [Ending.returned.injEq, Value.bool.injEq]; rw [Bool.eq_iff_iff]; simp; omega)), h.drop⟩
  ·
    refine op_val ((wg hr rfl rfl rfl (b' := (decide (fr < 1))) (by kernel_rfl)).trans (by rw [show (decide (fr < 1)) = false from (decide_eq_false c2)]; rfl)) rfl rfl hr (v := .pointer (some ⟨b1, 0, none⟩)) (by kernel_rfl) ?_; clear hr a; intro a hr
    refine op_val ((wg hr rfl rfl rfl (b' := (decide (fr < 1))) (by kernel_rfl)).trans (by rw [show (decide (fr < 1)) = false from (decide_eq_false c2)]; rfl)) rfl rfl hr (v := .int .i64 fr) (rl rfl (by kernel_rfl) (by kernel_rfl) (h.cell 0 rfl)) ?_; clear hr a; intro a hr
    refine op_val ((wg hr rfl rfl rfl (b' := (decide (fr < 1))) (by kernel_rfl)).trans (by rw [show (decide (fr < 1)) = false from (decide_eq_false c2)]; rfl)) rfl rfl hr (v := .bool (decide (fr > 4096))) (by kernel_rfl) ?_; clear hr a; intro a hr
    refine op_val (wn rfl) rfl rfl hr (v := .bool (decide (fr > 4096))) (rp_f (b := (decide (fr < 1))) rfl (by kernel_rfl) (decide_eq_false c2) (by kernel_rfl)) ?_; clear hr a; intro a hr
    refine op_val (wn rfl) rfl rfl hr (v := .bool (decide (fr > 4096))) (by kernel_rfl) ?_; clear hr a; intro a hr
    by_cases c3 : fr > 4096
    ·
      refine op_off ((wg hr rfl rfl rfl (b' := (decide (fr > 4096))) (by kernel_rfl)).trans (by rw [show (decide (fr > 4096)) = true from (decide_eq_true c3)]; rfl)) rfl rfl hr ?_
      clear hr a; intro a hr
      refine op_off ((wg hr rfl rfl rfl (b' := (decide (fr > 4096))) (by kernel_rfl)).trans (by rw [show (decide (fr > 4096)) = true from (decide_eq_true c3)]; rfl)) rfl rfl hr ?_
      clear hr a; intro a hr
      refine op_off ((wg hr rfl rfl rfl (b' := (decide (fr > 4096))) (by kernel_rfl)).trans (by rw [show (decide (fr > 4096)) = true from (decide_eq_true c3)]; rfl)) rfl rfl hr ?_
      clear hr a; intro a hr
      refine op_val (wn rfl) rfl rfl hr (v := .bool true) (rp_t (b := (decide (fr > 4096))) rfl (by kernel_rfl) (decide_eq_true c3) (by kernel_rfl)) ?_; clear hr a; intro a hr
      refine op_val (wn rfl) rfl rfl hr (v := .bool true) (by kernel_rfl) ?_; clear hr a; intro a hr
      refine op_off ((wg hr rfl rfl rfl (b' := true) (by kernel_rfl)).trans rfl) rfl rfl hr ?_
      clear hr a; intro a hr
      refine op_off ((wg hr rfl rfl rfl (b' := true) (by kernel_rfl)).trans rfl) rfl rfl hr ?_
      clear hr a; intro a hr
      refine op_off ((wg hr rfl rfl rfl (b' := true) (by kernel_rfl)).trans rfl) rfl rfl hr ?_
      clear hr a; intro a hr
      refine op_off ((wg hr rfl rfl rfl (b' := true) (by kernel_rfl)).trans rfl) rfl rfl hr ?_
      clear hr a; intro a hr
      refine op_off ((wg hr rfl rfl rfl (b' := true) (by kernel_rfl)).trans rfl) rfl rfl hr ?_
      clear hr a; intro a hr
      refine op_val (wn rfl) rfl rfl hr (v := .bool true) (by kernel_rfl) ?_; clear hr a; intro a hr
      refine op_val (wn rfl) rfl rfl hr (v := .bool true) (by kernel_rfl) ?_; clear hr a; intro a hr
      refine op_off ((wg hr rfl rfl rfl (b' := true) (by kernel_rfl)).trans rfl) rfl rfl hr ?_
      clear hr a; intro a hr
      refine op_off ((wg hr rfl rfl rfl (b' := true) (by kernel_rfl)).trans rfl) rfl rfl hr ?_
      clear hr a; intro a hr
      refine op_off ((wg hr rfl rfl rfl (b' := true) (by kernel_rfl)).trans rfl) rfl rfl hr ?_
      clear hr a; intro a hr
      refine op_val (wn rfl) rfl rfl hr (v := .bool true) (by kernel_rfl) ?_; clear hr a; intro a hr
      refine op_val (wn rfl) rfl rfl hr (v := .bool true) (by kernel_rfl) ?_; clear hr a; intro a hr
      refine wpList_nil ?_
      refine then_normal ?_
      refine wp_ret ?_
      refine end_ret1 (v := .bool true) rfl hr (by kernel_rfl) ?_
      exact ⟨(by simp only [limB]; first | rfl | (simp_all; done) | (simp_all; omega) | (simp only [Ending.returned.injEq, Value.bool.injEq]; rw [Bool.eq_iff_iff]; simp; omega)), h.drop⟩
    ·
      refine op_val ((wg hr rfl rfl rfl (b' := (decide (fr > 4096))) (by kernel_rfl)).trans (by rw [show (decide (fr > 4096)) = false from (decide_eq_false c3)]; rfl)) rfl rfl hr (v := .pointer (some ⟨b1, 1, none⟩)) (by kernel_rfl) ?_; clear hr a; intro a hr
      refine op_val ((wg hr rfl rfl rfl (b' := (decide (fr > 4096))) (by kernel_rfl)).trans (by rw [show (decide (fr > 4096)) = false from (decide_eq_false c3)]; rfl)) rfl rfl hr (v := .int .i64 lo) (rl rfl (by kernel_rfl) (by kernel_rfl) (h.cell 1 rfl)) ?_; clear hr a; intro a hr
      refine op_val ((wg hr rfl rfl rfl (b' := (decide (fr > 4096))) (by kernel_rfl)).trans (by rw [show (decide (fr > 4096)) = false from (decide_eq_false c3)]; rfl)) rfl rfl hr (v := .bool (decide (lo < 1))) (by kernel_rfl) ?_; clear hr a; intro a hr
      refine op_val (wn rfl) rfl rfl hr (v := .bool (decide (lo < 1))) (rp_f (b := (decide (fr > 4096))) rfl (by kernel_rfl) (decide_eq_false c3) (by kernel_rfl)) ?_; clear hr a; intro a hr
      refine op_val (wn rfl) rfl rfl hr (v := .bool (decide (lo < 1))) (by kernel_rfl) ?_; clear hr a; intro a hr
      by_cases c4 : lo < 1
      ·
        refine op_off ((wg hr rfl rfl rfl (b' := (decide (lo < 1))) (by kernel_rfl)).trans (by rw [show (decide (lo < 1)) = true from (decide_eq_true c4)]; rfl)) rfl rfl hr ?_
        clear hr a; intro a hr
        refine op_off ((wg hr rfl rfl rfl (b' := (decide (lo < 1))) (by kernel_rfl)).trans (by rw [show (decide (lo < 1)) = true from (decide_eq_true c4)]; rfl)) rfl rfl hr ?_
        clear hr a; intro a hr
        refine op_off ((wg hr rfl rfl rfl (b' := (decide (lo < 1))) (by kernel_rfl)).trans (by rw [show (decide (lo < 1)) = true from (decide_eq_true c4)]; rfl)) rfl rfl hr ?_
        clear hr a; intro a hr
        refine op_off ((wg hr rfl rfl rfl (b' := (decide (lo < 1))) (by kernel_rfl)).trans (by rw [show (decide (lo < 1)) = true from (decide_eq_true c4)]; rfl)) rfl rfl hr ?_
        clear hr a; intro a hr
        refine op_off ((wg hr rfl rfl rfl (b' := (decide (lo < 1))) (by kernel_rfl)).trans (by rw [show (decide (lo < 1)) = true from (decide_eq_true c4)]; rfl)) rfl rfl hr ?_
        clear hr a; intro a hr
        refine op_val (wn rfl) rfl rfl hr (v := .bool true) (rp_t (b := (decide (lo < 1))) rfl (by kernel_rfl) (decide_eq_true c4) (by kernel_rfl)) ?_; clear hr a; intro a hr
        refine op_val (wn rfl) rfl rfl hr (v := .bool true) (by kernel_rfl) ?_; clear hr a; intro a hr
        refine op_off ((wg hr rfl rfl rfl (b' := true) (by kernel_rfl)).trans rfl) rfl rfl hr ?_
        clear hr a; intro a hr
        refine op_off ((wg hr rfl rfl rfl (b' := true) (by kernel_rfl)).trans rfl) rfl rfl hr ?_
        clear hr a; intro a hr
        refine op_off ((wg hr rfl rfl rfl (b' := true) (by kernel_rfl)).trans rfl) rfl rfl hr ?_
        clear hr a; intro a hr
        refine op_val (wn rfl) rfl rfl hr (v := .bool true) (by kernel_rfl) ?_; clear hr a; intro a hr
        refine op_val (wn rfl) rfl rfl hr (v := .bool true) (by kernel_rfl) ?_; clear hr a; intro a hr
        refine wpList_nil ?_
        refine then_normal ?_
        refine wp_ret ?_
        refine end_ret1 (v := .bool true) rfl hr (by kernel_rfl) ?_
        exact ⟨(by simp only [limB]; first | rfl | (simp_all; done) | (simp_all; omega) | (simp only [Ending.returned.injEq, Value.bool.injEq]; rw [Bool.eq_iff_iff]; simp; omega)), h.drop⟩
      ·
        refine op_val ((wg hr rfl rfl rfl (b' := (decide (lo < 1))) (by kernel_rfl)).trans (by rw [show (decide (lo < 1)) = false from (decide_eq_false c4)]; rfl)) rfl rfl hr (v := .pointer (some ⟨b1, 1, none⟩)) (by kernel_rfl) ?_; clear hr a; intro a hr
        refine op_val ((wg hr rfl rfl rfl (b' := (decide (lo < 1))) (by kernel_rfl)).trans (by rw [show (decide (lo < 1)) = false from (decide_eq_false c4)]; rfl)) rfl rfl hr (v := .int .i64 lo) (rl rfl (by kernel_rfl) (by kernel_rfl) (h.cell 1 rfl)) ?_; clear hr a; intro a hr
        refine op_val ((wg hr rfl rfl rfl (b' := (decide (lo < 1))) (by kernel_rfl)).trans (by rw [show (decide (lo < 1)) = false from (decide_eq_false c4)]; rfl)) rfl rfl hr (v := .pointer (some ⟨b1, 2, none⟩)) (by kernel_rfl) ?_; clear hr a; intro a hr
        refine op_val ((wg hr rfl rfl rfl (b' := (decide (lo < 1))) (by kernel_rfl)).trans (by rw [show (decide (lo < 1)) = false from (decide_eq_false c4)]; rfl)) rfl rfl hr (v := .int .i64 mo) (rl rfl (by kernel_rfl) (by kernel_rfl) (h.cell 2 rfl)) ?_; clear hr a; intro a hr
        refine op_val ((wg hr rfl rfl rfl (b' := (decide (lo < 1))) (by kernel_rfl)).trans (by rw [show (decide (lo < 1)) = false from (decide_eq_false c4)]; rfl)) rfl rfl hr (v := .bool (decide (lo > mo))) (by kernel_rfl) ?_; clear hr a; intro a hr
        refine op_val (wn rfl) rfl rfl hr (v := .bool (decide (lo > mo))) (rp_f (b := (decide (lo < 1))) rfl (by kernel_rfl) (decide_eq_false c4) (by kernel_rfl)) ?_; clear hr a; intro a hr
        refine op_val (wn rfl) rfl rfl hr (v := .bool (decide (lo > mo))) (by kernel_rfl) ?_; clear hr a; intro a hr
        by_cases c5 : lo > mo
        ·
          refine op_off ((wg hr rfl rfl rfl (b' := (decide (lo > mo))) (by kernel_rfl)).trans (by rw [show (decide (lo > mo)) = true from (decide_eq_true c5)]; rfl)) rfl rfl hr ?_
          clear hr a; intro a hr
          refine op_off ((wg hr rfl rfl rfl (b' := (decide (lo > mo))) (by kernel_rfl)).trans (by rw [show (decide (lo > mo)) = true from (decide_eq_true c5)]; rfl)) rfl rfl hr ?_
          clear hr a; intro a hr
          refine op_off ((wg hr rfl rfl rfl (b' := (decide (lo > mo))) (by kernel_rfl)).trans (by rw [show (decide (lo > mo)) = true from (decide_eq_true c5)]; rfl)) rfl rfl hr ?_
          clear hr a; intro a hr
          refine op_val (wn rfl) rfl rfl hr (v := .bool true) (rp_t (b := (decide (lo > mo))) rfl (by kernel_rfl) (decide_eq_true c5) (by kernel_rfl)) ?_; clear hr a; intro a hr
          refine op_val (wn rfl) rfl rfl hr (v := .bool true) (by kernel_rfl) ?_; clear hr a; intro a hr
          refine wpList_nil ?_
          refine then_normal ?_
          refine wp_ret ?_
          refine end_ret1 (v := .bool true) rfl hr (by kernel_rfl) ?_
          exact ⟨(by simp only [limB]; first | rfl | (simp_all; done) | (simp_all; omega) | (simp only [Ending.returned.injEq, Value.bool.injEq]; rw [Bool.eq_iff_iff]; simp; omega)), h.drop⟩
        ·
          refine op_val ((wg hr rfl rfl rfl (b' := (decide (lo > mo))) (by kernel_rfl)).trans (by rw [show (decide (lo > mo)) = false from (decide_eq_false c5)]; rfl)) rfl rfl hr (v := .pointer (some ⟨b1, 2, none⟩)) (by kernel_rfl) ?_; clear hr a; intro a hr
          refine op_val ((wg hr rfl rfl rfl (b' := (decide (lo > mo))) (by kernel_rfl)).trans (by rw [show (decide (lo > mo)) = false from (decide_eq_false c5)]; rfl)) rfl rfl hr (v := .int .i64 mo) (rl rfl (by kernel_rfl) (by kernel_rfl) (h.cell 2 rfl)) ?_; clear hr a; intro a hr
          refine op_val ((wg hr rfl rfl rfl (b' := (decide (lo > mo))) (by kernel_rfl)).trans (by rw [show (decide (lo > mo)) = false from (decide_eq_false c5)]; rfl)) rfl rfl hr (v := .bool (decide (mo > 4096))) (by kernel_rfl) ?_; clear hr a; intro a hr
          refine op_val (wn rfl) rfl rfl hr (v := .bool (decide (mo > 4096))) (rp_f (b := (decide (lo > mo))) rfl (by kernel_rfl) (decide_eq_false c5) (by kernel_rfl)) ?_; clear hr a; intro a hr
          refine op_val (wn rfl) rfl rfl hr (v := .bool (decide (mo > 4096))) (by kernel_rfl) ?_; clear hr a; intro a hr
          refine wpList_nil ?_
          refine then_normal ?_
          refine wp_ret ?_
          refine end_ret1 (v := .bool (decide (mo > 4096))) rfl hr (by kernel_rfl) ?_
          exact ⟨(by simp only [limB]; first | rfl | (simp_all; done) | (simp_all; omega) | (simp only [Ending.returned.injEq, Value.bool.injEq]; rw [Bool.eq_iff_iff]; simp; omega)), h.drop⟩

set_option maxRecDepth 100000 in
set_option maxHeartbeats 4000000 in
/-- plunder/worker.Need -/
theorem need_spec {z w : World} {L : List HProp} {nw fr lo mo : Int}  (h : Fit z (sepL (L)) w) :
    Calls Try.prog 17 #[.int .i64 nw, .agg #[.int .i64 fr, .int .i64 lo, .int .i64 mo]] w fun e w => e = .returned (.int .i64 (needv nw fr lo mo)) ∧ Fit z (sepL (L)) w := by
  refine enter Try.func17 rfl 28 rfl rfl [(0, .int .i64 nw), (1, .agg #[.int .i64 fr, .int .i64 lo, .int .i64 mo])] ⟨by kernel_rfl, by kernel_rfl, trivial⟩ ?_
  intro j a hr
  refine wp_seq ?_
  refine wp_region_lit ?_
  refine op_new (wn rfl) rfl rfl hr h (vf := fun b => .pointer (some ⟨b, 0, none⟩)) (cs := #[.int .i64 fr, .int .i64 lo, .int .i64 mo]) (T := 25) (by kernel_rfl) ?_; clear h hr a; intro b1 w a h hr
  refine op_val (wn rfl) rfl rfl hr (v := .int .i64 0) (by kernel_rfl) ?_; clear hr a; intro a hr
  refine wpList_nil ?_
  refine then_normal ?_
  refine wp_seq ?_
  refine wp_seq ?_
  refine wp_region_lit ?_
  refine op_val (wn rfl) rfl rfl hr (v := .int .i64 nw) (by kernel_rfl) ?_; clear hr a; intro a hr
  refine op_call (wn rfl) rfl rfl hr (f := 54) (args := #[.int .i64 nw]) (by kernel_rfl) (counted_spec  (h := h)) ?_; clear h
  rintro _ w ⟨rfl, h⟩; refine ⟨_, rfl, ?_⟩
  clear hr a; intro a hr
  have h : Fit z (sepL (pts b1 (.cells #[.int .i64 fr, .int .i64 lo, .int .i64 mo] 25) :: L)) _ := h
  refine op_val (wn rfl) rfl rfl hr (v := .bool (!(countedB nw))) (by kernel_rfl) ?_; clear hr a; intro a hr
  refine op_val (wn rfl) rfl rfl hr (v := .bool (!(countedB nw))) (by kernel_rfl) ?_; clear hr a; intro a hr
  rcases Bool.eq_false_or_eq_true (countedB nw) with c2 | c2
  ·
    have ⟨hw1, hw2⟩ := countedB_true c2
    refine op_val ((wg hr rfl rfl rfl (b' := (!(countedB nw))) (by kernel_rfl)).trans (by rw [show (!(countedB nw)) = false from (by rw [show (countedB nw) = true from c2]; rfl)]; rfl)) rfl rfl hr (v := .agg #[.int .i64 fr, .int .i64 lo, .int .i64 mo]) (rlm (cs := [.int .i64 fr, .int .i64 lo, .int .i64 mo]) rfl (by kernel_rfl) (by kernel_rfl) (by kernel_rfl) ⟨h.cell 0 rfl, h.cell 1 rfl, h.cell 2 rfl, trivial⟩) ?_; clear hr a; intro a hr
    refine op_call ((wg hr rfl rfl rfl (b' := (!(countedB nw))) (by kernel_rfl)).trans (by rw [show (!(countedB nw)) = false from (by rw [show (countedB nw) = true from c2]; rfl)]; rfl)) rfl rfl hr (f := 55) (args := #[.agg #[.int .i64 fr, .int .i64 lo, .int .i64 mo]]) (by kernel_rfl) (limited_spec  (h := h)) ?_; clear h
    rintro _ w ⟨rfl, h⟩; refine ⟨_, rfl, ?_⟩
    clear hr a; intro a hr
    have h : Fit z (sepL (pts b1 (.cells #[.int .i64 fr, .int .i64 lo, .int .i64 mo] 25) :: L)) _ := h
    refine op_val ((wg hr rfl rfl rfl (b' := (!(countedB nw))) (by kernel_rfl)).trans (by rw [show (!(countedB nw)) = false from (by rw [show (countedB nw) = true from c2]; rfl)]; rfl)) rfl rfl hr (v := .bool (!(limB fr lo mo))) (by kernel_rfl) ?_; clear hr a; intro a hr
    refine op_val (wn rfl) rfl rfl hr (v := .bool (!(limB fr lo mo))) (rp_f (b := (!(countedB nw))) rfl (by kernel_rfl) (by rw [show (countedB nw) = true from c2]; rfl) (by kernel_rfl)) ?_; clear hr a; intro a hr
    refine wpList_nil ?_
    refine then_normal ?_
    rcases Bool.eq_false_or_eq_true (limB fr lo mo) with c3 | c3
    ·
      have ⟨hf1, hf2, ha1, ha2, hm1⟩ := limB_true c3
      have hq := need_bd ha1 ha2 hm1 (show 1 ≤ nw by omega) (show nw ≤ 64 by omega)
      refine cond_f hr (b := (!(limB fr lo mo))) (by kernel_rfl) (by rw [show (limB fr lo mo) = true from c3]; rfl) ?_
      refine wp_skip ?_
      refine then_normal ?_
      refine wp_seq ?_
      refine reg_quiet h (by kernel_rfl) (by kernel_rfl) ?_
      refine qt_val (wn rfl) rfl rfl hr (v := .pointer (some ⟨b1, 0, none⟩)) (fun w h => by kernel_rfl) ?_; clear hr a; intro a hr
      refine qt_val (wn rfl) rfl rfl hr (v := .int .i64 fr) (fun w h => rl rfl (by kernel_rfl) (by kernel_rfl) (h.cell 0 rfl)) ?_; clear hr a; intro a hr
      refine qt_call (wn rfl) rfl rfl hr (f := 56) (args := #[.int .i64 fr]) (v := .int .i64 (1 + fr * 10)) (fun w h => by kernel_rfl) (fun w h => ((fcells_spec (h1 := (by omega)) (h2 := (by omega)) (h := h)).mono (by rintro _ w ⟨rfl, h⟩; exact ⟨rfl, h⟩))) ?_; clear hr a; intro a hr
      refine qt_val (wn rfl) rfl rfl hr (v := .int .i64 (1 + (1 + fr * 10))) (fun w h => ra (m := IntKind.i64.wrap (1 + (1 + fr * 10))) (by kernel_rfl) ((i64_in _ (by omega)).trans (by omega))) ?_; clear hr a; intro a hr
      refine qt_val (wn rfl) rfl rfl hr (v := .int .i64 nw) (fun w h => by kernel_rfl) ?_; clear hr a; intro a hr
      refine qt_call (wn rfl) rfl rfl hr (f := 57) (args := #[.int .i64 nw]) (v := .int .i64 (2 + nw)) (fun w h => by kernel_rfl) (fun w h => ((pcells_spec (h1 := (by omega)) (h2 := (by omega)) (h := h)).mono (by rintro _ w ⟨rfl, h⟩; exact ⟨rfl, h⟩))) ?_; clear hr a; intro a hr
      refine qt_val (wn rfl) rfl rfl hr (v := .int .i64 ((1 + (1 + fr * 10)) + (2 + nw))) (fun w h => ra (m := IntKind.i64.wrap ((1 + (1 + fr * 10)) + (2 + nw))) (by kernel_rfl) ((i64_in _ (by omega)).trans (by omega))) ?_; clear hr a; intro a hr
      refine qt_val (wn rfl) rfl rfl hr (v := .int .i64 nw) (fun w h => by kernel_rfl) ?_; clear hr a; intro a hr
      refine qt_val (wn rfl) rfl rfl hr (v := .pointer (some ⟨b1, 1, none⟩)) (fun w h => by kernel_rfl) ?_; clear hr a; intro a hr
      refine qt_val (wn rfl) rfl rfl hr (v := .int .i64 lo) (fun w h => rl rfl (by kernel_rfl) (by kernel_rfl) (h.cell 1 rfl)) ?_; clear hr a; intro a hr
      refine qt_val (wn rfl) rfl rfl hr (v := .pointer (some ⟨b1, 2, none⟩)) (fun w h => by kernel_rfl) ?_; clear hr a; intro a hr
      refine qt_val (wn rfl) rfl rfl hr (v := .int .i64 mo) (fun w h => rl rfl (by kernel_rfl) (by kernel_rfl) (h.cell 2 rfl)) ?_; clear hr a; intro a hr
      refine qt_call (wn rfl) rfl rfl hr (f := 58) (args := #[.int .i64 lo, .int .i64 mo]) (v := .int .i64 (dqv mo (4 + lo) lo)) (fun w h => by kernel_rfl) (fun w h => ((dcells_spec (h1 := (by omega)) (h2 := (by omega)) (h3 := (by omega)) (h := h)).mono (by rintro _ w ⟨rfl, h⟩; exact ⟨rfl, h⟩))) ?_; clear hr a; intro a hr
      refine qt_val (wn rfl) rfl rfl hr (v := .int .i64 (nw * (dqv mo (4 + lo) lo))) (fun w h => ra (m := IntKind.i64.wrap (nw * (dqv mo (4 + lo) lo))) (by kernel_rfl) ((i64_in _ (by omega)).trans (by omega))) ?_; clear hr a; intro a hr
      refine qt_val (wn rfl) rfl rfl hr (v := .int .i64 (((1 + (1 + fr * 10)) + (2 + nw)) + (nw * (dqv mo (4 + lo) lo)))) (fun w h => ra (m := IntKind.i64.wrap (((1 + (1 + fr * 10)) + (2 + nw)) + (nw * (dqv mo (4 + lo) lo)))) (by kernel_rfl) ((i64_in _ (by omega)).trans (by omega))) ?_; clear hr a; intro a hr
      refine qt_val (wn rfl) rfl rfl hr (v := .int .i64 (((1 + (1 + fr * 10)) + (2 + nw)) + (nw * (dqv mo (4 + lo) lo)))) (fun w h => by kernel_rfl) ?_; clear hr a; intro a hr
      refine wpQuiet_nil ?_
      intro w h
      refine then_normal ?_
      refine wp_ret ?_
      refine end_ret1 (v := .int .i64 (((1 + (1 + fr * 10)) + (2 + nw)) + (nw * (dqv mo (4 + lo) lo)))) rfl hr (by kernel_rfl) ?_
      exact ⟨(by refine congrArg (fun x => Ending.returned (Value.int .i64 x)) ?_; unfold needv; first | (rw [if_pos ⟨by (first | assumption | (simp [countedB]; omega)), by assumption⟩]; done) | (rw [if_pos ⟨by (first | assumption | (simp [countedB]; omega)), by assumption⟩]; omega) | (rw [if_neg (by simp_all [countedB]; try omega)])), h.drop⟩
    ·
      refine cond_t hr (b := (!(limB fr lo mo))) (by kernel_rfl) (by rw [show (limB fr lo mo) = false from c3]; rfl) ?_
      refine wp_seq ?_
      refine wp_region_lit ?_
      refine op_val (wn rfl) rfl rfl hr (v := .int .i64 0) (by kernel_rfl) ?_; clear hr a; intro a hr
      refine wpList_nil ?_
      refine then_normal ?_
      refine wp_ret ?_
      refine then_ret ?_
      refine end_ret1 (v := .int .i64 0) rfl hr (by kernel_rfl) ?_
      exact ⟨(by refine congrArg (fun x => Ending.returned (Value.int .i64 x)) ?_; unfold needv; first | (rw [if_pos ⟨by (first | assumption | (simp [countedB]; omega)), by assumption⟩]; done) | (rw [if_pos ⟨by (first | assumption | (simp [countedB]; omega)), by assumption⟩]; omega) | (rw [if_neg (by simp_all [countedB]; try omega)])), h.drop⟩
  ·
    refine op_off ((wg hr rfl rfl rfl (b' := (!(countedB nw))) (by kernel_rfl)).trans (by rw [show (!(countedB nw)) = true from (by rw [show (countedB nw) = false from c2]; rfl)]; rfl)) rfl rfl hr ?_
    clear hr a; intro a hr
    refine op_off ((wg hr rfl rfl rfl (b' := (!(countedB nw))) (by kernel_rfl)).trans (by rw [show (!(countedB nw)) = true from (by rw [show (countedB nw) = false from c2]; rfl)]; rfl)) rfl rfl hr ?_
    clear hr a; intro a hr
    refine op_off ((wg hr rfl rfl rfl (b' := (!(countedB nw))) (by kernel_rfl)).trans (by rw [show (!(countedB nw)) = true from (by rw [show (countedB nw) = false from c2]; rfl)]; rfl)) rfl rfl hr ?_
    clear hr a; intro a hr
    refine op_val (wn rfl) rfl rfl hr (v := .bool true) (rp_t (b := (!(countedB nw))) rfl (by kernel_rfl) (by rw [show (countedB nw) = false from c2]; rfl) (by kernel_rfl)) ?_; clear hr a; intro a hr
    refine wpList_nil ?_
    refine then_normal ?_
    refine cond_t hr (b := true) (by kernel_rfl) rfl ?_
    refine wp_seq ?_
    refine wp_region_lit ?_
    refine op_val (wn rfl) rfl rfl hr (v := .int .i64 0) (by kernel_rfl) ?_; clear hr a; intro a hr
    refine wpList_nil ?_
    refine then_normal ?_
    refine wp_ret ?_
    refine then_ret ?_
    refine end_ret1 (v := .int .i64 0) rfl hr (by kernel_rfl) ?_
    exact ⟨(by refine congrArg (fun x => Ending.returned (Value.int .i64 x)) ?_; unfold needv; first | (rw [if_pos ⟨by (first | assumption | (simp [countedB]; omega)), by assumption⟩]; done) | (rw [if_pos ⟨by (first | assumption | (simp [countedB]; omega)), by assumption⟩]; omega) | (rw [if_neg (by simp_all [countedB]; try omega)])), h.drop⟩

set_option maxRecDepth 100000 in
set_option maxHeartbeats 4000000 in
/-- plunder/plunderref11.Need -/
theorem refneed_spec {z w : World} {L : List HProp} {nw fr lo mo : Int}  (h : Fit z (sepL (L)) w) :
    Calls Try.prog 18 #[.int .i64 nw, .agg #[.int .i64 fr, .int .i64 lo, .int .i64 mo]] w fun e w => e = .returned (.int .i64 (needv nw fr lo mo)) ∧ Fit z (sepL (L)) w := by
  refine enter Try.func18 rfl 30 rfl rfl [(0, .int .i64 nw), (1, .agg #[.int .i64 fr, .int .i64 lo, .int .i64 mo])] ⟨by kernel_rfl, by kernel_rfl, trivial⟩ ?_
  intro j a hr
  refine wp_seq ?_
  refine wp_region_lit ?_
  refine op_new (wn rfl) rfl rfl hr h (vf := fun b => .pointer (some ⟨b, 0, none⟩)) (cs := #[.int .i64 fr, .int .i64 lo, .int .i64 mo]) (T := 25) (by kernel_rfl) ?_; clear h hr a; intro b1 w a h hr
  refine op_val (wn rfl) rfl rfl hr (v := .int .i64 0) (by kernel_rfl) ?_; clear hr a; intro a hr
  refine wpList_nil ?_
  refine then_normal ?_
  refine wp_seq ?_
  refine wp_seq ?_
  refine wp_region_lit ?_
  refine op_val (wn rfl) rfl rfl hr (v := .int .i64 nw) (by kernel_rfl) ?_; clear hr a; intro a hr
  refine op_val (wn rfl) rfl rfl hr (v := .bool (decide (nw < 1))) (by kernel_rfl) ?_; clear hr a; intro a hr
  refine op_val (wn rfl) rfl rfl hr (v := .bool (decide (nw < 1))) (by kernel_rfl) ?_; clear hr a; intro a hr
  by_cases c2 : nw < 1
  ·
    refine op_off ((wg hr rfl rfl rfl (b' := (decide (nw < 1))) (by kernel_rfl)).trans (by rw [show (decide (nw < 1)) = true from (decide_eq_true c2)]; rfl)) rfl rfl hr ?_
    clear hr a; intro a hr
    refine op_off ((wg hr rfl rfl rfl (b' := (decide (nw < 1))) (by kernel_rfl)).trans (by rw [show (decide (nw < 1)) = true from (decide_eq_true c2)]; rfl)) rfl rfl hr ?_
    clear hr a; intro a hr
    refine op_val (wn rfl) rfl rfl hr (v := .bool true) (rp_t (b := (decide (nw < 1))) rfl (by kernel_rfl) (decide_eq_true c2) (by kernel_rfl)) ?_; clear hr a; intro a hr
    refine op_val (wn rfl) rfl rfl hr (v := .bool true) (by kernel_rfl) ?_; clear hr a; intro a hr
    refine op_off ((wg hr rfl rfl rfl (b' := true) (by kernel_rfl)).trans rfl) rfl rfl hr ?_
    clear hr a; intro a hr
    refine op_off ((wg hr rfl rfl rfl (b' := true) (by kernel_rfl)).trans rfl) rfl rfl hr ?_
    clear hr a; intro a hr
    refine op_val (wn rfl) rfl rfl hr (v := .bool true) (by kernel_rfl) ?_; clear hr a; intro a hr
    refine wpList_nil ?_
    refine then_normal ?_
    refine cond_t hr (b := true) (by kernel_rfl) rfl ?_
    refine wp_seq ?_
    refine wp_region_lit ?_
    refine op_val (wn rfl) rfl rfl hr (v := .int .i64 0) (by kernel_rfl) ?_; clear hr a; intro a hr
    refine wpList_nil ?_
    refine then_normal ?_
    refine wp_ret ?_
    refine then_ret ?_
    refine end_ret1 (v := .int .i64 0) rfl hr (by kernel_rfl) ?_
    exact ⟨(by refine congrArg (fun x => Ending.returned (Value.int .i64 x)) ?_; unfold needv; first | (rw [if_pos ⟨by (first | assumption | (simp [countedB]; omega)), by assumption⟩]; done) | (rw [if_pos ⟨by (first | assumption | (simp [countedB]; omega)), by assumption⟩]; omega) | (rw [if_neg (by simp_all [countedB]; try omega)])), h.drop⟩
  ·
    refine op_val ((wg hr rfl rfl rfl (b' := (decide (nw < 1))) (by kernel_rfl)).trans (by rw [show (decide (nw < 1)) = false from (decide_eq_false c2)]; rfl)) rfl rfl hr (v := .int .i64 nw) (by kernel_rfl) ?_; clear hr a; intro a hr
    refine op_val ((wg hr rfl rfl rfl (b' := (decide (nw < 1))) (by kernel_rfl)).trans (by rw [show (decide (nw < 1)) = false from (decide_eq_false c2)]; rfl)) rfl rfl hr (v := .bool (decide (nw > 64))) (by kernel_rfl) ?_; clear hr a; intro a hr
    refine op_val (wn rfl) rfl rfl hr (v := .bool (decide (nw > 64))) (rp_f (b := (decide (nw < 1))) rfl (by kernel_rfl) (decide_eq_false c2) (by kernel_rfl)) ?_; clear hr a; intro a hr
    refine op_val (wn rfl) rfl rfl hr (v := .bool (decide (nw > 64))) (by kernel_rfl) ?_; clear hr a; intro a hr
    by_cases c3 : nw > 64
    ·
      refine op_off ((wg hr rfl rfl rfl (b' := (decide (nw > 64))) (by kernel_rfl)).trans (by rw [show (decide (nw > 64)) = true from (decide_eq_true c3)]; rfl)) rfl rfl hr ?_
      clear hr a; intro a hr
      refine op_off ((wg hr rfl rfl rfl (b' := (decide (nw > 64))) (by kernel_rfl)).trans (by rw [show (decide (nw > 64)) = true from (decide_eq_true c3)]; rfl)) rfl rfl hr ?_
      clear hr a; intro a hr
      refine op_val (wn rfl) rfl rfl hr (v := .bool true) (rp_t (b := (decide (nw > 64))) rfl (by kernel_rfl) (decide_eq_true c3) (by kernel_rfl)) ?_; clear hr a; intro a hr
      refine wpList_nil ?_
      refine then_normal ?_
      refine cond_t hr (b := true) (by kernel_rfl) rfl ?_
      refine wp_seq ?_
      refine wp_region_lit ?_
      refine op_val (wn rfl) rfl rfl hr (v := .int .i64 0) (by kernel_rfl) ?_; clear hr a; intro a hr
      refine wpList_nil ?_
      refine then_normal ?_
      refine wp_ret ?_
      refine then_ret ?_
      refine end_ret1 (v := .int .i64 0) rfl hr (by kernel_rfl) ?_
      exact ⟨(by refine congrArg (fun x => Ending.returned (Value.int .i64 x)) ?_; unfold needv; first | (rw [if_pos ⟨by (first | assumption | (simp [countedB]; omega)), by assumption⟩]; done) | (rw [if_pos ⟨by (first | assumption | (simp [countedB]; omega)), by assumption⟩]; omega) | (rw [if_neg (by simp_all [countedB]; try omega)])), h.drop⟩
    ·
      refine op_val ((wg hr rfl rfl rfl (b' := (decide (nw > 64))) (by kernel_rfl)).trans (by rw [show (decide (nw > 64)) = false from (decide_eq_false c3)]; rfl)) rfl rfl hr (v := .agg #[.int .i64 fr, .int .i64 lo, .int .i64 mo]) (rlm (cs := [.int .i64 fr, .int .i64 lo, .int .i64 mo]) rfl (by kernel_rfl) (by kernel_rfl) (by kernel_rfl) ⟨h.cell 0 rfl, h.cell 1 rfl, h.cell 2 rfl, trivial⟩) ?_; clear hr a; intro a hr
      refine op_call ((wg hr rfl rfl rfl (b' := (decide (nw > 64))) (by kernel_rfl)).trans (by rw [show (decide (nw > 64)) = false from (decide_eq_false c3)]; rfl)) rfl rfl hr (f := 59) (args := #[.agg #[.int .i64 fr, .int .i64 lo, .int .i64 mo]]) (by kernel_rfl) (bad_spec  (h := h)) ?_; clear h
      rintro _ w ⟨rfl, h⟩; refine ⟨_, rfl, ?_⟩
      clear hr a; intro a hr
      have h : Fit z (sepL (pts b1 (.cells #[.int .i64 fr, .int .i64 lo, .int .i64 mo] 25) :: L)) _ := h
      refine op_val (wn rfl) rfl rfl hr (v := .bool (!(limB fr lo mo))) (rp_f (b := (decide (nw > 64))) rfl (by kernel_rfl) (decide_eq_false c3) (by kernel_rfl)) ?_; clear hr a; intro a hr
      refine wpList_nil ?_
      refine then_normal ?_
      rcases Bool.eq_false_or_eq_true (limB fr lo mo) with c4 | c4
      ·
        have ⟨hf1, hf2, ha1, ha2, hm1⟩ := limB_true c4
        have hq := need_bd ha1 ha2 hm1 (show 1 ≤ nw by omega) (show nw ≤ 64 by omega)
        refine cond_f hr (b := (!(limB fr lo mo))) (by kernel_rfl) (by rw [show (limB fr lo mo) = true from c4]; rfl) ?_
        refine wp_skip ?_
        refine then_normal ?_
        refine wp_seq ?_
        refine reg_quiet h (by kernel_rfl) (by kernel_rfl) ?_
        refine qt_val (wn rfl) rfl rfl hr (v := .pointer (some ⟨b1, 0, none⟩)) (fun w h => by kernel_rfl) ?_; clear hr a; intro a hr
        refine qt_val (wn rfl) rfl rfl hr (v := .int .i64 fr) (fun w h => rl rfl (by kernel_rfl) (by kernel_rfl) (h.cell 0 rfl)) ?_; clear hr a; intro a hr
        refine qt_val (wn rfl) rfl rfl hr (v := .int .i64 (fr * 10)) (fun w h => ra (m := IntKind.i64.wrap (fr * 10)) (by kernel_rfl) ((i64_in _ (by omega)).trans (by omega))) ?_; clear hr a; intro a hr
        refine qt_val (wn rfl) rfl rfl hr (v := .int .i64 (2 + (fr * 10))) (fun w h => ra (m := IntKind.i64.wrap (2 + (fr * 10))) (by kernel_rfl) ((i64_in _ (by omega)).trans (by omega))) ?_; clear hr a; intro a hr
        refine qt_val (wn rfl) rfl rfl hr (v := .int .i64 ((2 + (fr * 10)) + 2)) (fun w h => ra (m := IntKind.i64.wrap ((2 + (fr * 10)) + 2)) (by kernel_rfl) ((i64_in _ (by omega)).trans (by omega))) ?_; clear hr a; intro a hr
        refine qt_val (wn rfl) rfl rfl hr (v := .int .i64 nw) (fun w h => by kernel_rfl) ?_; clear hr a; intro a hr
        refine qt_val (wn rfl) rfl rfl hr (v := .int .i64 (((2 + (fr * 10)) + 2) + nw)) (fun w h => ra (m := IntKind.i64.wrap (((2 + (fr * 10)) + 2) + nw)) (by kernel_rfl) ((i64_in _ (by omega)).trans (by omega))) ?_; clear hr a; intro a hr
        refine qt_val (wn rfl) rfl rfl hr (v := .int .i64 nw) (fun w h => by kernel_rfl) ?_; clear hr a; intro a hr
        refine qt_val (wn rfl) rfl rfl hr (v := .pointer (some ⟨b1, 1, none⟩)) (fun w h => by kernel_rfl) ?_; clear hr a; intro a hr
        refine qt_val (wn rfl) rfl rfl hr (v := .int .i64 lo) (fun w h => rl rfl (by kernel_rfl) (by kernel_rfl) (h.cell 1 rfl)) ?_; clear hr a; intro a hr
        refine qt_val (wn rfl) rfl rfl hr (v := .pointer (some ⟨b1, 2, none⟩)) (fun w h => by kernel_rfl) ?_; clear hr a; intro a hr
        refine qt_val (wn rfl) rfl rfl hr (v := .int .i64 mo) (fun w h => rl rfl (by kernel_rfl) (by kernel_rfl) (h.cell 2 rfl)) ?_; clear hr a; intro a hr
        refine qt_call (wn rfl) rfl rfl hr (f := 60) (args := #[.int .i64 lo, .int .i64 mo]) (v := .int .i64 (dqv mo (4 + lo) lo)) (fun w h => by kernel_rfl) (fun w h => ((dqcells_spec (h1 := (by omega)) (h2 := (by omega)) (h3 := (by omega)) (h := h)).mono (by rintro _ w ⟨rfl, h⟩; exact ⟨rfl, h⟩))) ?_; clear hr a; intro a hr
        refine qt_val (wn rfl) rfl rfl hr (v := .int .i64 (nw * (dqv mo (4 + lo) lo))) (fun w h => ra (m := IntKind.i64.wrap (nw * (dqv mo (4 + lo) lo))) (by kernel_rfl) ((i64_in _ (by omega)).trans (by omega))) ?_; clear hr a; intro a hr
        refine qt_val (wn rfl) rfl rfl hr (v := .int .i64 ((((2 + (fr * 10)) + 2) + nw) + (nw * (dqv mo (4 + lo) lo)))) (fun w h => ra (m := IntKind.i64.wrap ((((2 + (fr * 10)) + 2) + nw) + (nw * (dqv mo (4 + lo) lo)))) (by kernel_rfl) ((i64_in _ (by omega)).trans (by omega))) ?_; clear hr a; intro a hr
        refine qt_val (wn rfl) rfl rfl hr (v := .int .i64 ((((2 + (fr * 10)) + 2) + nw) + (nw * (dqv mo (4 + lo) lo)))) (fun w h => by kernel_rfl) ?_; clear hr a; intro a hr
        refine wpQuiet_nil ?_
        intro w h
        refine then_normal ?_
        refine wp_ret ?_
        refine end_ret1 (v := .int .i64 ((((2 + (fr * 10)) + 2) + nw) + (nw * (dqv mo (4 + lo) lo)))) rfl hr (by kernel_rfl) ?_
        exact ⟨(by refine congrArg (fun x => Ending.returned (Value.int .i64 x)) ?_; unfold needv; first | (rw [if_pos ⟨by (first | assumption | (simp [countedB]; omega)), by assumption⟩]; done) | (rw [if_pos ⟨by (first | assumption | (simp [countedB]; omega)), by assumption⟩]; omega) | (rw [if_neg (by simp_all [countedB]; try omega)])), h.drop⟩
      ·
        refine cond_t hr (b := (!(limB fr lo mo))) (by kernel_rfl) (by rw [show (limB fr lo mo) = false from c4]; rfl) ?_
        refine wp_seq ?_
        refine wp_region_lit ?_
        refine op_val (wn rfl) rfl rfl hr (v := .int .i64 0) (by kernel_rfl) ?_; clear hr a; intro a hr
        refine wpList_nil ?_
        refine then_normal ?_
        refine wp_ret ?_
        refine then_ret ?_
        refine end_ret1 (v := .int .i64 0) rfl hr (by kernel_rfl) ?_
        exact ⟨(by refine congrArg (fun x => Ending.returned (Value.int .i64 x)) ?_; unfold needv; first | (rw [if_pos ⟨by (first | assumption | (simp [countedB]; omega)), by assumption⟩]; done) | (rw [if_pos ⟨by (first | assumption | (simp [countedB]; omega)), by assumption⟩]; omega) | (rw [if_neg (by simp_all [countedB]; try omega)])), h.drop⟩

set_option maxRecDepth 100000 in
set_option maxHeartbeats 4000000 in
/-- plunder/plunderlaw11.WorkerNeeds -/
theorem needs_spec {z w : World} {L : List HProp} {nw fr lo mo : Int} {W : World}  (h : Fit z (sepL (old W :: L)) w) :
    Calls Try.prog 4 #[.int .i64 nw, .agg #[.int .i64 fr, .int .i64 lo, .int .i64 mo]] w fun e w => e = .returned (.bool true) ∧ Fit z (sepL (old W :: L)) w := by
  refine enter Try.func4 rfl 12 rfl rfl [(0, .int .i64 nw), (1, .agg #[.int .i64 fr, .int .i64 lo, .int .i64 mo])] ⟨by kernel_rfl, by kernel_rfl, trivial⟩ ?_
  intro j a hr
  refine wp_seq ?_
  refine wp_region_lit ?_
  refine op_new (wn rfl) rfl rfl hr h (vf := fun b => .pointer (some ⟨b, 0, none⟩)) (cs := #[.int .i64 fr, .int .i64 lo, .int .i64 mo]) (T := 25) (by kernel_rfl) ?_; clear h hr a; intro b1 w a h hr
  refine op_val (wn rfl) rfl rfl hr (v := .bool false) (by kernel_rfl) ?_; clear hr a; intro a hr
  refine wpList_nil ?_
  refine then_normal ?_
  refine wp_seq ?_
  refine reg_quiet h (by kernel_rfl) (by kernel_rfl) ?_
  refine qt_val (wn rfl) rfl rfl hr (v := .int .i64 nw) (fun w h => by kernel_rfl) ?_; clear hr a; intro a hr
  refine qt_val (wn rfl) rfl rfl hr (v := .agg #[.int .i64 fr, .int .i64 lo, .int .i64 mo]) (fun w h => rlm (cs := [.int .i64 fr, .int .i64 lo, .int .i64 mo]) rfl (by kernel_rfl) (by kernel_rfl) (by kernel_rfl) ⟨h.cell 0 rfl, h.cell 1 rfl, h.cell 2 rfl, trivial⟩) ?_; clear hr a; intro a hr
  refine qt_call (wn rfl) rfl rfl hr (f := 17) (args := #[.int .i64 nw, .agg #[.int .i64 fr, .int .i64 lo, .int .i64 mo]]) (v := .int .i64 (needv nw fr lo mo)) (fun w h => by kernel_rfl) (fun w h => ((need_spec  (h := h)).mono (by rintro _ w ⟨rfl, h⟩; exact ⟨rfl, ((h.pick 1).pick 1)⟩))) ?_; clear hr a; intro a hr
  refine qt_val (wn rfl) rfl rfl hr (v := .int .i64 nw) (fun w h => by kernel_rfl) ?_; clear hr a; intro a hr
  refine qt_val (wn rfl) rfl rfl hr (v := .agg #[.int .i64 fr, .int .i64 lo, .int .i64 mo]) (fun w h => rlm (cs := [.int .i64 fr, .int .i64 lo, .int .i64 mo]) rfl (by kernel_rfl) (by kernel_rfl) (by kernel_rfl) ⟨h.cell 0 rfl, h.cell 1 rfl, h.cell 2 rfl, trivial⟩) ?_; clear hr a; intro a hr
  refine qt_call (wn rfl) rfl rfl hr (f := 18) (args := #[.int .i64 nw, .agg #[.int .i64 fr, .int .i64 lo, .int .i64 mo]]) (v := .int .i64 (needv nw fr lo mo)) (fun w h => by kernel_rfl) (fun w h => ((refneed_spec  (h := h)).mono (by rintro _ w ⟨rfl, h⟩; exact ⟨rfl, ((h.pick 1).pick 1)⟩))) ?_; clear hr a; intro a hr
  refine qt_val (wn rfl) rfl rfl hr (v := .bool ((needv nw fr lo mo) == (needv nw fr lo mo))) (fun w h => by kernel_rfl) ?_; clear hr a; intro a hr
  refine qt_val (wn rfl) rfl rfl hr (v := .bool ((needv nw fr lo mo) == (needv nw fr lo mo))) (fun w h => by kernel_rfl) ?_; clear hr a; intro a hr
  refine wpQuiet_nil ?_
  intro w h
  refine then_normal ?_
  refine wp_ret ?_
  refine end_ret1 (v := .bool ((needv nw fr lo mo) == (needv nw fr lo mo))) rfl hr (by kernel_rfl) ?_
  exact ⟨(by simp), (((h.pick 1).pick 1).drop)⟩

end Go.Proofs.Ytacgigkonoegiaa.Wk
