/- what the functions compute, as plain Lean functions, and that they do -/
import Derived.Test.YtacgigkonoegiaaMq3
namespace Go.Proofs.Ytacgigkonoegiaa.Mo
open Go Go.RowKit Go.Proofs.Ytacgigkonoegiaa.SL Go.Proofs.Ytacgigkonoegiaa.GX
set_option linter.unusedVariables false
set_option linter.unusedSimpArgs false

def plunderlaw2_untouched_l1 (K : Nat) (p0 : List T_api_Act) (p1 : List T_api_Act) : Nat → Int → Option (Bool)
  | 0, _ => none
  | k1 + 1, g11 => (if g11 < ((p1.length : Nat) : Int) then if inr_ g11 p0.length then if inr_ g11 p1.length then (if at_ p0 g11.toNat = at_ p1 g11.toNat then (plunderlaw2_untouched_l1 K p0 p1 k1 (wi (g11 + (1 : Int)))) else some false) else none else none else some true)
/-- plunder/plunderlaw2.untouched -/
def plunderlaw2_untouched (K : Nat) (p0 : List T_api_Act) (p1 : List T_api_Act) : Option (Bool) :=
  jn0 (if inr_ ((p1.length : Nat) : Int) p0.length then ob1 (plunderlaw2_mark 0) (fun r4 => (if at_ p0 (((p1.length : Nat) : Int).toNat) = r4 then if inr_ (wi (((p1.length : Nat) : Int) + (1 : Int))) p0.length then ob1 (plunderlaw2_mark 1) (fun r8 => (if at_ p0 ((wi (((p1.length : Nat) : Int) + (1 : Int))).toNat) = r8 then some (.inl ()) else some (.inr false))) else none else some (.inr false))) else none) ((plunderlaw2_untouched_l1 K p0 p1 K 0))
set_option maxRecDepth 100000 in
set_option maxHeartbeats 4000000 in
theorem plunderlaw2_untouched_ok {z w : World} {L : List HProp} {K : Nat} {p0 : List T_api_Act} {p1 : List T_api_Act} {va0 : Option Addr} {vc0 : Nat} {va1 : Option Addr} {vc1 : Nat} {r0 : Bool} (H : plunderlaw2_untouched K p0 p1 = some r0) (h : Fit z (sepL (L)) w) (hv0 : RdRow L 5 enc_T_api_Act va0 p0) (hv1 : RdRow L 5 enc_T_api_Act va1 p1) :
    Calls Try.prog 44 #[.slice va0 p0.length vc0, .slice va1 p1.length vc1] w fun e w => e = .returned (.bool r0) ∧ Fit z (sepL (L)) w := by
  unfold plunderlaw2_untouched at H
  refine enter Try.func44 rfl 38 rfl rfl [(0, .slice va0 p0.length vc0), (1, .slice va1 p1.length vc1)] ⟨rfl, rfl, trivial⟩ ?_
  intro j a hr
  refine wp_seq ?_
  refine wp_region_lit ?_
  refine ov hr (.bool false) (by kernel_rfl) ?_; clear hr a; intro a hr
  refine wpList_nil ?_
  refine then_normal ?_
  refine wp_seq ?_
  refine wp_region_lit ?_
  refine ovs [7, 8, 5] [.slice va1 p1.length vc1, .int .i64 ((p1.length : Nat) : Int), .int .i64 ((p1.length : Nat) : Int)] hr ⟨rfl, rfl⟩ (by kernel_rfl) ?_; clear hr a; intro a hr
  refine wpList_nil ?_
  refine then_normal ?_
  replace H := jd0 H; obtain ⟨o2, H, hK1⟩ := H
  refine cut_rule (β := Unit) (fun _ a w => .inl () = o2 ∧ ∃ j, Rep 38 (lk [(0, .slice va0 p0.length vc0), (1, .slice va1 p1.length vc1), (5, .int .i64 ((p1.length : Nat) : Int))] j) a ∧ Fit z (sepL (L)) w) ?_ ?_
  ·
    refine wp_seq ?_
    replace H := gd H; obtain ⟨c3, H⟩ := H
    replace H := bd1 H; obtain ⟨r4, e5, H⟩ := H
    by_cases c6 : at_ p0 (((p1.length : Nat) : Int).toNat) = r4
    ·
      replace H := ifT c6 H
      replace H := gd H; obtain ⟨c7, H⟩ := H
      replace H := bd1 H; obtain ⟨r8, e9, H⟩ := H
      refine reg_E (fun w => heldC w (blk va0) (offs va0 + (((p1.length : Nat) : Int).toNat) * 5) [.int .i64 ((at_ p0 (((p1.length : Nat) : Int).toNat)).Who), .int .i64 ((at_ p0 (((p1.length : Nat) : Int).toNat)).Kind), .int .i64 ((at_ p0 (((p1.length : Nat) : Int).toNat)).Addr), .int .i64 ((at_ p0 (((p1.length : Nat) : Int).toNat)).A), .int .i64 ((at_ p0 (((p1.length : Nat) : Int).toNat)).B)] ∧ heldC w (blk va0) (offs va0 + ((wi (((p1.length : Nat) : Int) + (1 : Int))).toNat) * 5) [.int .i64 ((at_ p0 ((wi (((p1.length : Nat) : Int) + (1 : Int))).toNat)).Who), .int .i64 ((at_ p0 ((wi (((p1.length : Nat) : Int) + (1 : Int))).toNat)).Kind), .int .i64 ((at_ p0 ((wi (((p1.length : Nat) : Int) + (1 : Int))).toNat)).Addr), .int .i64 ((at_ p0 ((wi (((p1.length : Nat) : Int) + (1 : Int))).toNat)).A), .int .i64 ((at_ p0 ((wi (((p1.length : Nat) : Int) + (1 : Int))).toNat)).B)] ∧ True) [2, 4, 5, 9, 10, 12] h (by kernel_rfl) ?_; intro w h
      change wpAnyE _ _ _ _ _ _ 15 (Array.replicate 15 false) a w
      have hgo : ∀ w w', CellsGo w w' → (heldC w (blk va0) (offs va0 + (((p1.length : Nat) : Int).toNat) * 5) [.int .i64 ((at_ p0 (((p1.length : Nat) : Int).toNat)).Who), .int .i64 ((at_ p0 (((p1.length : Nat) : Int).toNat)).Kind), .int .i64 ((at_ p0 (((p1.length : Nat) : Int).toNat)).Addr), .int .i64 ((at_ p0 (((p1.length : Nat) : Int).toNat)).A), .int .i64 ((at_ p0 (((p1.length : Nat) : Int).toNat)).B)] ∧ heldC w (blk va0) (offs va0 + ((wi (((p1.length : Nat) : Int) + (1 : Int))).toNat) * 5) [.int .i64 ((at_ p0 ((wi (((p1.length : Nat) : Int) + (1 : Int))).toNat)).Who), .int .i64 ((at_ p0 ((wi (((p1.length : Nat) : Int) + (1 : Int))).toNat)).Kind), .int .i64 ((at_ p0 ((wi (((p1.length : Nat) : Int) + (1 : Int))).toNat)).Addr), .int .i64 ((at_ p0 ((wi (((p1.length : Nat) : Int) + (1 : Int))).toNat)).A), .int .i64 ((at_ p0 ((wi (((p1.length : Nat) : Int) + (1 : Int))).toNat)).B)] ∧ True) → heldC w' (blk va0) (offs va0 + (((p1.length : Nat) : Int).toNat) * 5) [.int .i64 ((at_ p0 (((p1.length : Nat) : Int).toNat)).Who), .int .i64 ((at_ p0 (((p1.length : Nat) : Int).toNat)).Kind), .int .i64 ((at_ p0 (((p1.length : Nat) : Int).toNat)).Addr), .int .i64 ((at_ p0 (((p1.length : Nat) : Int).toNat)).A), .int .i64 ((at_ p0 (((p1.length : Nat) : Int).toNat)).B)] ∧ heldC w' (blk va0) (offs va0 + ((wi (((p1.length : Nat) : Int) + (1 : Int))).toNat) * 5) [.int .i64 ((at_ p0 ((wi (((p1.length : Nat) : Int) + (1 : Int))).toNat)).Who), .int .i64 ((at_ p0 ((wi (((p1.length : Nat) : Int) + (1 : Int))).toNat)).Kind), .int .i64 ((at_ p0 ((wi (((p1.length : Nat) : Int) + (1 : Int))).toNat)).Addr), .int .i64 ((at_ p0 ((wi (((p1.length : Nat) : Int) + (1 : Int))).toNat)).A), .int .i64 ((at_ p0 ((wi (((p1.length : Nat) : Int) + (1 : Int))).toNat)).B)] ∧ True := fun w w' g hD => ⟨heldC_go _ _ _ _ _ g hD.1, heldC_go _ _ _ _ _ g hD.2.1, trivial⟩
      refine ev 14 0 rfl (by kernel_rfl) (wn rfl) hr (.slice va0 p0.length vc0) (fun w => by kernel_rfl) ?_; clear hr a; intro a hr
      refine ev 13 1 rfl (by kernel_rfl) (wn rfl) hr (.int .i64 ((p1.length : Nat) : Int)) (fun w => by kernel_rfl) ?_; clear hr a; intro a hr
      refine evD hgo ⟨⟨hv0.cell c3 (h.dn 0) 0 rfl, hv0.cell c3 (h.dn 0) 1 rfl, hv0.cell c3 (h.dn 0) 2 rfl, hv0.cell c3 (h.dn 0) 3 rfl, hv0.cell c3 (h.dn 0) 4 rfl, trivial⟩, ⟨hv0.cell c7 (h.dn 0) 0 rfl, hv0.cell c7 (h.dn 0) 1 rfl, hv0.cell c7 (h.dn 0) 2 rfl, hv0.cell c7 (h.dn 0) 3 rfl, hv0.cell c7 (h.dn 0) 4 rfl, trivial⟩, trivial⟩ 12 2 rfl (by kernel_rfl) (wn rfl) hr (.pointer (some ⟨blk va0, offs va0 + (((p1.length : Nat) : Int).toNat) * 5, none⟩)) (fun w => ri_rd (k := .i64) (E := 57) (cc := vc0) rfl (by kernel_rfl) (by kernel_rfl) rfl (by kernel_rfl) (by kernel_rfl) hv0 c3) ?_; clear hr a; intro a hr
      refine el [2, 4, 5, 9, 10, 12] (b := blk va0) (off := offs va0 + (((p1.length : Nat) : Int).toNat) * 5) (cs := [.int .i64 ((at_ p0 (((p1.length : Nat) : Int).toNat)).Who), .int .i64 ((at_ p0 (((p1.length : Nat) : Int).toNat)).Kind), .int .i64 ((at_ p0 (((p1.length : Nat) : Int).toNat)).Addr), .int .i64 ((at_ p0 (((p1.length : Nat) : Int).toNat)).A), .int .i64 ((at_ p0 (((p1.length : Nat) : Int).toNat)).B)]) (fun _ hk => ⟨hk, fun w hD => hD.1⟩) 11 3 rfl (by kernel_rfl) (wn rfl) hr (.agg #[.int .i64 ((at_ p0 (((p1.length : Nat) : Int).toNat)).Who), .int .i64 ((at_ p0 (((p1.length : Nat) : Int).toNat)).Kind), .int .i64 ((at_ p0 (((p1.length : Nat) : Int).toNat)).Addr), .int .i64 ((at_ p0 (((p1.length : Nat) : Int).toNat)).A), .int .i64 ((at_ p0 (((p1.length : Nat) : Int).toNat)).B)]) ⟨hv0.cell c3 (h.dn 0) 0 rfl, hv0.cell c3 (h.dn 0) 1 rfl, hv0.cell c3 (h.dn 0) 2 rfl, hv0.cell c3 (h.dn 0) 3 rfl, hv0.cell c3 (h.dn 0) 4 rfl, trivial⟩ (fun w hc => rlm (cs := [.int .i64 ((at_ p0 (((p1.length : Nat) : Int).toNat)).Who), .int .i64 ((at_ p0 (((p1.length : Nat) : Int).toNat)).Kind), .int .i64 ((at_ p0 (((p1.length : Nat) : Int).toNat)).Addr), .int .i64 ((at_ p0 (((p1.length : Nat) : Int).toNat)).A), .int .i64 ((at_ p0 (((p1.length : Nat) : Int).toNat)).B)]) rfl (by kernel_rfl) (by kernel_rfl) (by kernel_rfl) hc) ?_; clear hr a; intro a hr
      refine e_one (fuel := 10) (i := 4) (by kernel_rfl) rfl ?_
      have hc := plunderlaw2_mark_ok (H := e5) (h := h)
      refine op_call (wn rfl) rfl rfl hr (f := 87) (args := #[.int .i64 0]) (by kernel_rfl) hc ?_; clear hc h
      rintro _ w ⟨rfl, h⟩; refine ⟨_, rfl, ?_⟩
      clear hr a; intro a hr
      refine wpList_nil ?_; refine then_normal ?_
      refine ⟨fun _ => ⟨⟨hv0.cell c3 (h.dn 0) 0 rfl, hv0.cell c3 (h.dn 0) 1 rfl, hv0.cell c3 (h.dn 0) 2 rfl, hv0.cell c3 (h.dn 0) 3 rfl, hv0.cell c3 (h.dn 0) 4 rfl, trivial⟩, ⟨hv0.cell c7 (h.dn 0) 0 rfl, hv0.cell c7 (h.dn 0) 1 rfl, hv0.cell c7 (h.dn 0) 2 rfl, hv0.cell c7 (h.dn 0) 3 rfl, hv0.cell c7 (h.dn 0) 4 rfl, trivial⟩, trivial⟩, ?_⟩
      refine evD hgo ⟨⟨hv0.cell c3 (h.dn 0) 0 rfl, hv0.cell c3 (h.dn 0) 1 rfl, hv0.cell c3 (h.dn 0) 2 rfl, hv0.cell c3 (h.dn 0) 3 rfl, hv0.cell c3 (h.dn 0) 4 rfl, trivial⟩, ⟨hv0.cell c7 (h.dn 0) 0 rfl, hv0.cell c7 (h.dn 0) 1 rfl, hv0.cell c7 (h.dn 0) 2 rfl, hv0.cell c7 (h.dn 0) 3 rfl, hv0.cell c7 (h.dn 0) 4 rfl, trivial⟩, trivial⟩ 9 5 rfl (by kernel_rfl) (wn rfl) hr (.bool (!(decide (at_ p0 (((p1.length : Nat) : Int).toNat) = r4)))) (fun w => rb (rne rfl (by kernel_rfl) (by kernel_rfl) (by kernel_rfl) (by kernel_rfl) (by kernel_rfl) (by kernel_rfl)) (congrArg (!·) (eq_T_api_Act (at_ p0 (((p1.length : Nat) : Int).toNat)) r4))) ?_; clear hr a; intro a hr
      refine ev 8 6 rfl (by kernel_rfl) (wn rfl) hr (.bool (!(decide (at_ p0 (((p1.length : Nat) : Int).toNat) = r4)))) (fun w => by kernel_rfl) ?_; clear hr a; intro a hr
      refine ev 7 7 rfl (by kernel_rfl) ((wg hr rfl rfl rfl (b' := (!(decide (at_ p0 (((p1.length : Nat) : Int).toNat) = r4)))) (by kernel_rfl)).trans (by rw [show (!(decide (at_ p0 (((p1.length : Nat) : Int).toNat) = r4))) = false from (by rw [show (decide (at_ p0 (((p1.length : Nat) : Int).toNat) = r4)) = true from (decide_eq_true c6)]; rfl)]; rfl)) hr (.slice va0 p0.length vc0) (fun w => by kernel_rfl) ?_; clear hr a; intro a hr
      refine ev 6 8 rfl (by kernel_rfl) ((wg hr rfl rfl rfl (b' := (!(decide (at_ p0 (((p1.length : Nat) : Int).toNat) = r4)))) (by kernel_rfl)).trans (by rw [show (!(decide (at_ p0 (((p1.length : Nat) : Int).toNat) = r4))) = false from (by rw [show (decide (at_ p0 (((p1.length : Nat) : Int).toNat) = r4)) = true from (decide_eq_true c6)]; rfl)]; rfl)) hr (.int .i64 ((p1.length : Nat) : Int)) (fun w => by kernel_rfl) ?_; clear hr a; intro a hr
      refine evD hgo ⟨⟨hv0.cell c3 (h.dn 0) 0 rfl, hv0.cell c3 (h.dn 0) 1 rfl, hv0.cell c3 (h.dn 0) 2 rfl, hv0.cell c3 (h.dn 0) 3 rfl, hv0.cell c3 (h.dn 0) 4 rfl, trivial⟩, ⟨hv0.cell c7 (h.dn 0) 0 rfl, hv0.cell c7 (h.dn 0) 1 rfl, hv0.cell c7 (h.dn 0) 2 rfl, hv0.cell c7 (h.dn 0) 3 rfl, hv0.cell c7 (h.dn 0) 4 rfl, trivial⟩, trivial⟩ 5 9 rfl (by kernel_rfl) ((wg hr rfl rfl rfl (b' := (!(decide (at_ p0 (((p1.length : Nat) : Int).toNat) = r4)))) (by kernel_rfl)).trans (by rw [show (!(decide (at_ p0 (((p1.length : Nat) : Int).toNat) = r4))) = false from (by rw [show (decide (at_ p0 (((p1.length : Nat) : Int).toNat) = r4)) = true from (decide_eq_true c6)]; rfl)]; rfl)) hr (.int .i64 (wi (((p1.length : Nat) : Int) + (1 : Int)))) (fun w => by kernel_rfl) ?_; clear hr a; intro a hr
      refine evD hgo ⟨⟨hv0.cell c3 (h.dn 0) 0 rfl, hv0.cell c3 (h.dn 0) 1 rfl, hv0.cell c3 (h.dn 0) 2 rfl, hv0.cell c3 (h.dn 0) 3 rfl, hv0.cell c3 (h.dn 0) 4 rfl, trivial⟩, ⟨hv0.cell c7 (h.dn 0) 0 rfl, hv0.cell c7 (h.dn 0) 1 rfl, hv0.cell c7 (h.dn 0) 2 rfl, hv0.cell c7 (h.dn 0) 3 rfl, hv0.cell c7 (h.dn 0) 4 rfl, trivial⟩, trivial⟩ 4 10 rfl (by kernel_rfl) ((wg hr rfl rfl rfl (b' := (!(decide (at_ p0 (((p1.length : Nat) : Int).toNat) = r4)))) (by kernel_rfl)).trans (by rw [show (!(decide (at_ p0 (((p1.length : Nat) : Int).toNat) = r4))) = false from (by rw [show (decide (at_ p0 (((p1.length : Nat) : Int).toNat) = r4)) = true from (decide_eq_true c6)]; rfl)]; rfl)) hr (.pointer (some ⟨blk va0, offs va0 + ((wi (((p1.length : Nat) : Int) + (1 : Int))).toNat) * 5, none⟩)) (fun w => ri_rd (k := .i64) (E := 57) (cc := vc0) rfl (by kernel_rfl) (by kernel_rfl) rfl (by kernel_rfl) (by kernel_rfl) hv0 c7) ?_; clear hr a; intro a hr
      refine el [2, 4, 5, 9, 10, 12] (b := blk va0) (off := offs va0 + ((wi (((p1.length : Nat) : Int) + (1 : Int))).toNat) * 5) (cs := [.int .i64 ((at_ p0 ((wi (((p1.length : Nat) : Int) + (1 : Int))).toNat)).Who), .int .i64 ((at_ p0 ((wi (((p1.length : Nat) : Int) + (1 : Int))).toNat)).Kind), .int .i64 ((at_ p0 ((wi (((p1.length : Nat) : Int) + (1 : Int))).toNat)).Addr), .int .i64 ((at_ p0 ((wi (((p1.length : Nat) : Int) + (1 : Int))).toNat)).A), .int .i64 ((at_ p0 ((wi (((p1.length : Nat) : Int) + (1 : Int))).toNat)).B)]) (fun _ hk => ⟨hk, fun w hD => hD.2.1⟩) 3 11 rfl (by kernel_rfl) ((wg hr rfl rfl rfl (b' := (!(decide (at_ p0 (((p1.length : Nat) : Int).toNat) = r4)))) (by kernel_rfl)).trans (by rw [show (!(decide (at_ p0 (((p1.length : Nat) : Int).toNat) = r4))) = false from (by rw [show (decide (at_ p0 (((p1.length : Nat) : Int).toNat) = r4)) = true from (decide_eq_true c6)]; rfl)]; rfl)) hr (.agg #[.int .i64 ((at_ p0 ((wi (((p1.length : Nat) : Int) + (1 : Int))).toNat)).Who), .int .i64 ((at_ p0 ((wi (((p1.length : Nat) : Int) + (1 : Int))).toNat)).Kind), .int .i64 ((at_ p0 ((wi (((p1.length : Nat) : Int) + (1 : Int))).toNat)).Addr), .int .i64 ((at_ p0 ((wi (((p1.length : Nat) : Int) + (1 : Int))).toNat)).A), .int .i64 ((at_ p0 ((wi (((p1.length : Nat) : Int) + (1 : Int))).toNat)).B)]) ⟨hv0.cell c7 (h.dn 0) 0 rfl, hv0.cell c7 (h.dn 0) 1 rfl, hv0.cell c7 (h.dn 0) 2 rfl, hv0.cell c7 (h.dn 0) 3 rfl, hv0.cell c7 (h.dn 0) 4 rfl, trivial⟩ (fun w hc => rlm (cs := [.int .i64 ((at_ p0 ((wi (((p1.length : Nat) : Int) + (1 : Int))).toNat)).Who), .int .i64 ((at_ p0 ((wi (((p1.length : Nat) : Int) + (1 : Int))).toNat)).Kind), .int .i64 ((at_ p0 ((wi (((p1.length : Nat) : Int) + (1 : Int))).toNat)).Addr), .int .i64 ((at_ p0 ((wi (((p1.length : Nat) : Int) + (1 : Int))).toNat)).A), .int .i64 ((at_ p0 ((wi (((p1.length : Nat) : Int) + (1 : Int))).toNat)).B)]) rfl (by kernel_rfl) (by kernel_rfl) (by kernel_rfl) hc) ?_; clear hr a; intro a hr
      refine e_one (fuel := 2) (i := 12) (by kernel_rfl) rfl ?_
      have hc := plunderlaw2_mark_ok (H := e9) (h := h)
      refine op_call ((wg hr rfl rfl rfl (b' := (!(decide (at_ p0 (((p1.length : Nat) : Int).toNat) = r4)))) (by kernel_rfl)).trans (by rw [show (!(decide (at_ p0 (((p1.length : Nat) : Int).toNat) = r4))) = false from (by rw [show (decide (at_ p0 (((p1.length : Nat) : Int).toNat) = r4)) = true from (decide_eq_true c6)]; rfl)]; rfl)) rfl rfl hr (f := 87) (args := #[.int .i64 1]) (by kernel_rfl) hc ?_; clear hc h
      rintro _ w ⟨rfl, h⟩; refine ⟨_, rfl, ?_⟩
      clear hr a; intro a hr
      refine wpList_nil ?_; refine then_normal ?_
      refine ⟨fun _ => ⟨⟨hv0.cell c3 (h.dn 0) 0 rfl, hv0.cell c3 (h.dn 0) 1 rfl, hv0.cell c3 (h.dn 0) 2 rfl, hv0.cell c3 (h.dn 0) 3 rfl, hv0.cell c3 (h.dn 0) 4 rfl, trivial⟩, ⟨hv0.cell c7 (h.dn 0) 0 rfl, hv0.cell c7 (h.dn 0) 1 rfl, hv0.cell c7 (h.dn 0) 2 rfl, hv0.cell c7 (h.dn 0) 3 rfl, hv0.cell c7 (h.dn 0) 4 rfl, trivial⟩, trivial⟩, ?_⟩
      refine ev 1 13 rfl (by kernel_rfl) ((wg hr rfl rfl rfl (b' := (!(decide (at_ p0 (((p1.length : Nat) : Int).toNat) = r4)))) (by kernel_rfl)).trans (by rw [show (!(decide (at_ p0 (((p1.length : Nat) : Int).toNat) = r4))) = false from (by rw [show (decide (at_ p0 (((p1.length : Nat) : Int).toNat) = r4)) = true from (decide_eq_true c6)]; rfl)]; rfl)) hr (.bool (!(decide (at_ p0 ((wi (((p1.length : Nat) : Int) + (1 : Int))).toNat) = r8)))) (fun w => rb (rne rfl (by kernel_rfl) (by kernel_rfl) (by kernel_rfl) (by kernel_rfl) (by kernel_rfl) (by kernel_rfl)) (congrArg (!·) (eq_T_api_Act (at_ p0 ((wi (((p1.length : Nat) : Int) + (1 : Int))).toNat)) r8))) ?_; clear hr a; intro a hr
      refine ev 0 14 rfl (by kernel_rfl) (wn rfl) hr (.bool (!(decide (at_ p0 ((wi (((p1.length : Nat) : Int) + (1 : Int))).toNat) = r8)))) (fun w => rp_f (b := (!(decide (at_ p0 (((p1.length : Nat) : Int).toNat) = r4)))) rfl (by kernel_rfl) (by rw [show (decide (at_ p0 (((p1.length : Nat) : Int).toNat) = r4)) = true from (decide_eq_true c6)]; rfl) (by kernel_rfl)) ?_; clear hr a; intro a hr
      refine e_end (by kernel_rfl) ?_
      refine then_normal ?_
      by_cases c10 : at_ p0 ((wi (((p1.length : Nat) : Int) + (1 : Int))).toNat) = r8
      ·
        replace H := ifT c10 H
        refine cond_ff hr (b := (!(decide (at_ p0 ((wi (((p1.length : Nat) : Int) + (1 : Int))).toNat) = r8)))) (by rw [show (decide (at_ p0 ((wi (((p1.length : Nat) : Int) + (1 : Int))).toNat) = r8)) = true from (decide_eq_true c10)]; rfl) ?_
        refine wp_skip ?_
        refine then_normal ?_
        replace hr := hr.fold2 [(0, .slice va0 p0.length vc0), (1, .slice va1 p1.length vc1), (5, .int .i64 ((p1.length : Nat) : Int))] (by kernel_rfl); obtain ⟨j, hr⟩ := hr
        exact ⟨(), sinj H, j, hr, h⟩
      ·
        replace H := ifF c10 H
        refine cond_tt hr (b := (!(decide (at_ p0 ((wi (((p1.length : Nat) : Int) + (1 : Int))).toNat) = r8)))) (by rw [show (decide (at_ p0 ((wi (((p1.length : Nat) : Int) + (1 : Int))).toNat) = r8)) = false from (decide_eq_false c10)]; rfl) ?_
        refine wp_seq ?_
        refine wp_region_lit ?_
        refine ov hr (.bool false) (by kernel_rfl) ?_; clear hr a; intro a hr
        refine wpList_nil ?_
        refine then_normal ?_
        refine wp_ret ?_
        refine then_ret ?_
        refine end_ret1 (v := .bool false) rfl hr (by kernel_rfl) ?_
        replace H := jx0 H hK1
        replace H := ej1 H; subst H
        exact ⟨rfl, h⟩
    ·
      replace H := ifF c6 H
      refine reg_E (fun w => heldC w (blk va0) (offs va0 + (((p1.length : Nat) : Int).toNat) * 5) [.int .i64 ((at_ p0 (((p1.length : Nat) : Int).toNat)).Who), .int .i64 ((at_ p0 (((p1.length : Nat) : Int).toNat)).Kind), .int .i64 ((at_ p0 (((p1.length : Nat) : Int).toNat)).Addr), .int .i64 ((at_ p0 (((p1.length : Nat) : Int).toNat)).A), .int .i64 ((at_ p0 (((p1.length : Nat) : Int).toNat)).B)] ∧ True) [2, 4] h (by kernel_rfl) ?_; intro w h
      change wpAnyE _ _ _ _ _ _ 15 (Array.replicate 15 false) a w
      have hgo : ∀ w w', CellsGo w w' → (heldC w (blk va0) (offs va0 + (((p1.length : Nat) : Int).toNat) * 5) [.int .i64 ((at_ p0 (((p1.length : Nat) : Int).toNat)).Who), .int .i64 ((at_ p0 (((p1.length : Nat) : Int).toNat)).Kind), .int .i64 ((at_ p0 (((p1.length : Nat) : Int).toNat)).Addr), .int .i64 ((at_ p0 (((p1.length : Nat) : Int).toNat)).A), .int .i64 ((at_ p0 (((p1.length : Nat) : Int).toNat)).B)] ∧ True) → heldC w' (blk va0) (offs va0 + (((p1.length : Nat) : Int).toNat) * 5) [.int .i64 ((at_ p0 (((p1.length : Nat) : Int).toNat)).Who), .int .i64 ((at_ p0 (((p1.length : Nat) : Int).toNat)).Kind), .int .i64 ((at_ p0 (((p1.length : Nat) : Int).toNat)).Addr), .int .i64 ((at_ p0 (((p1.length : Nat) : Int).toNat)).A), .int .i64 ((at_ p0 (((p1.length : Nat) : Int).toNat)).B)] ∧ True := fun w w' g hD => ⟨heldC_go _ _ _ _ _ g hD.1, trivial⟩
      refine ev 14 0 rfl (by kernel_rfl) (wn rfl) hr (.slice va0 p0.length vc0) (fun w => by kernel_rfl) ?_; clear hr a; intro a hr
      refine ev 13 1 rfl (by kernel_rfl) (wn rfl) hr (.int .i64 ((p1.length : Nat) : Int)) (fun w => by kernel_rfl) ?_; clear hr a; intro a hr
      refine evD hgo ⟨⟨hv0.cell c3 (h.dn 0) 0 rfl, hv0.cell c3 (h.dn 0) 1 rfl, hv0.cell c3 (h.dn 0) 2 rfl, hv0.cell c3 (h.dn 0) 3 rfl, hv0.cell c3 (h.dn 0) 4 rfl, trivial⟩, trivial⟩ 12 2 rfl (by kernel_rfl) (wn rfl) hr (.pointer (some ⟨blk va0, offs va0 + (((p1.length : Nat) : Int).toNat) * 5, none⟩)) (fun w => ri_rd (k := .i64) (E := 57) (cc := vc0) rfl (by kernel_rfl) (by kernel_rfl) rfl (by kernel_rfl) (by kernel_rfl) hv0 c3) ?_; clear hr a; intro a hr
      refine el [2, 4] (b := blk va0) (off := offs va0 + (((p1.length : Nat) : Int).toNat) * 5) (cs := [.int .i64 ((at_ p0 (((p1.length : Nat) : Int).toNat)).Who), .int .i64 ((at_ p0 (((p1.length : Nat) : Int).toNat)).Kind), .int .i64 ((at_ p0 (((p1.length : Nat) : Int).toNat)).Addr), .int .i64 ((at_ p0 (((p1.length : Nat) : Int).toNat)).A), .int .i64 ((at_ p0 (((p1.length : Nat) : Int).toNat)).B)]) (fun _ hk => ⟨hk, fun w hD => hD.1⟩) 11 3 rfl (by kernel_rfl) (wn rfl) hr (.agg #[.int .i64 ((at_ p0 (((p1.length : Nat) : Int).toNat)).Who), .int .i64 ((at_ p0 (((p1.length : Nat) : Int).toNat)).Kind), .int .i64 ((at_ p0 (((p1.length : Nat) : Int).toNat)).Addr), .int .i64 ((at_ p0 (((p1.length : Nat) : Int).toNat)).A), .int .i64 ((at_ p0 (((p1.length : Nat) : Int).toNat)).B)]) ⟨hv0.cell c3 (h.dn 0) 0 rfl, hv0.cell c3 (h.dn 0) 1 rfl, hv0.cell c3 (h.dn 0) 2 rfl, hv0.cell c3 (h.dn 0) 3 rfl, hv0.cell c3 (h.dn 0) 4 rfl, trivial⟩ (fun w hc => rlm (cs := [.int .i64 ((at_ p0 (((p1.length : Nat) : Int).toNat)).Who), .int .i64 ((at_ p0 (((p1.length : Nat) : Int).toNat)).Kind), .int .i64 ((at_ p0 (((p1.length : Nat) : Int).toNat)).Addr), .int .i64 ((at_ p0 (((p1.length : Nat) : Int).toNat)).A), .int .i64 ((at_ p0 (((p1.length : Nat) : Int).toNat)).B)]) rfl (by kernel_rfl) (by kernel_rfl) (by kernel_rfl) hc) ?_; clear hr a; intro a hr
      refine e_one (fuel := 10) (i := 4) (by kernel_rfl) rfl ?_
      have hc := plunderlaw2_mark_ok (H := e5) (h := h)
      refine op_call (wn rfl) rfl rfl hr (f := 87) (args := #[.int .i64 0]) (by kernel_rfl) hc ?_; clear hc h
      rintro _ w ⟨rfl, h⟩; refine ⟨_, rfl, ?_⟩
      clear hr a; intro a hr
      refine wpList_nil ?_; refine then_normal ?_
      refine ⟨fun _ => ⟨⟨hv0.cell c3 (h.dn 0) 0 rfl, hv0.cell c3 (h.dn 0) 1 rfl, hv0.cell c3 (h.dn 0) 2 rfl, hv0.cell c3 (h.dn 0) 3 rfl, hv0.cell c3 (h.dn 0) 4 rfl, trivial⟩, trivial⟩, ?_⟩
      refine ev 9 5 rfl (by kernel_rfl) (wn rfl) hr (.bool (!(decide (at_ p0 (((p1.length : Nat) : Int).toNat) = r4)))) (fun w => rb (rne rfl (by kernel_rfl) (by kernel_rfl) (by kernel_rfl) (by kernel_rfl) (by kernel_rfl) (by kernel_rfl)) (congrArg (!·) (eq_T_api_Act (at_ p0 (((p1.length : Nat) : Int).toNat)) r4))) ?_; clear hr a; intro a hr
      refine ev 8 6 rfl (by kernel_rfl) (wn rfl) hr (.bool (!(decide (at_ p0 (((p1.length : Nat) : Int).toNat) = r4)))) (fun w => by kernel_rfl) ?_; clear hr a; intro a hr
      refine eo 7 7 rfl (by kernel_rfl) ((wg hr rfl rfl rfl (b' := (!(decide (at_ p0 (((p1.length : Nat) : Int).toNat) = r4)))) (by kernel_rfl)).trans (by rw [show (!(decide (at_ p0 (((p1.length : Nat) : Int).toNat) = r4))) = true from (by rw [show (decide (at_ p0 (((p1.length : Nat) : Int).toNat) = r4)) = false from (decide_eq_false c6)]; rfl)]; rfl)) hr ?_; clear hr a; intro a hr
      refine eo 6 8 rfl (by kernel_rfl) ((wg hr rfl rfl rfl (b' := (!(decide (at_ p0 (((p1.length : Nat) : Int).toNat) = r4)))) (by kernel_rfl)).trans (by rw [show (!(decide (at_ p0 (((p1.length : Nat) : Int).toNat) = r4))) = true from (by rw [show (decide (at_ p0 (((p1.length : Nat) : Int).toNat) = r4)) = false from (decide_eq_false c6)]; rfl)]; rfl)) hr ?_; clear hr a; intro a hr
      refine eo 5 9 rfl (by kernel_rfl) ((wg hr rfl rfl rfl (b' := (!(decide (at_ p0 (((p1.length : Nat) : Int).toNat) = r4)))) (by kernel_rfl)).trans (by rw [show (!(decide (at_ p0 (((p1.length : Nat) : Int).toNat) = r4))) = true from (by rw [show (decide (at_ p0 (((p1.length : Nat) : Int).toNat) = r4)) = false from (decide_eq_false c6)]; rfl)]; rfl)) hr ?_; clear hr a; intro a hr
      refine eo 4 10 rfl (by kernel_rfl) ((wg hr rfl rfl rfl (b' := (!(decide (at_ p0 (((p1.length : Nat) : Int).toNat) = r4)))) (by kernel_rfl)).trans (by rw [show (!(decide (at_ p0 (((p1.length : Nat) : Int).toNat) = r4))) = true from (by rw [show (decide (at_ p0 (((p1.length : Nat) : Int).toNat) = r4)) = false from (decide_eq_false c6)]; rfl)]; rfl)) hr ?_; clear hr a; intro a hr
      refine eo 3 11 rfl (by kernel_rfl) ((wg hr rfl rfl rfl (b' := (!(decide (at_ p0 (((p1.length : Nat) : Int).toNat) = r4)))) (by kernel_rfl)).trans (by rw [show (!(decide (at_ p0 (((p1.length : Nat) : Int).toNat) = r4))) = true from (by rw [show (decide (at_ p0 (((p1.length : Nat) : Int).toNat) = r4)) = false from (decide_eq_false c6)]; rfl)]; rfl)) hr ?_; clear hr a; intro a hr
      refine e_one (fuel := 2) (i := 12) (by kernel_rfl) rfl ?_
      refine op_off ((wg hr rfl rfl rfl (b' := (!(decide (at_ p0 (((p1.length : Nat) : Int).toNat) = r4)))) (by kernel_rfl)).trans (by rw [show (!(decide (at_ p0 (((p1.length : Nat) : Int).toNat) = r4))) = true from (by rw [show (decide (at_ p0 (((p1.length : Nat) : Int).toNat) = r4)) = false from (decide_eq_false c6)]; rfl)]; rfl)) rfl rfl hr ?_; clear hr a; intro a hr
      refine wpList_nil ?_; refine then_normal ?_
      refine ⟨fun hE => absurd hE (by decide), ?_⟩
      refine eo 1 13 rfl (by kernel_rfl) ((wg hr rfl rfl rfl (b' := (!(decide (at_ p0 (((p1.length : Nat) : Int).toNat) = r4)))) (by kernel_rfl)).trans (by rw [show (!(decide (at_ p0 (((p1.length : Nat) : Int).toNat) = r4))) = true from (by rw [show (decide (at_ p0 (((p1.length : Nat) : Int).toNat) = r4)) = false from (decide_eq_false c6)]; rfl)]; rfl)) hr ?_; clear hr a; intro a hr
      refine ev 0 14 rfl (by kernel_rfl) (wn rfl) hr (.bool true) (fun w => rp_t (b := (!(decide (at_ p0 (((p1.length : Nat) : Int).toNat) = r4)))) rfl (by kernel_rfl) (by rw [show (decide (at_ p0 (((p1.length : Nat) : Int).toNat) = r4)) = false from (decide_eq_false c6)]; rfl) (by kernel_rfl)) ?_; clear hr a; intro a hr
      refine e_end (by kernel_rfl) ?_
      refine then_normal ?_
      refine cond_tt hr (b := true) rfl ?_
      refine wp_seq ?_
      refine wp_region_lit ?_
      refine ov hr (.bool false) (by kernel_rfl) ?_; clear hr a; intro a hr
      refine wpList_nil ?_
      refine then_normal ?_
      refine wp_ret ?_
      refine then_ret ?_
      refine end_ret1 (v := .bool false) rfl hr (by kernel_rfl) ?_
      replace H := jx0 H hK1
      replace H := ej1 H; subst H
      exact ⟨rfl, h⟩
  clear h hr a; rintro _ a w ⟨rfl, j, hr, h⟩
  replace H := jk0 hK1
  refine wp_seq ?_
  refine wp_seq ?_
  refine wp_region_lit ?_
  refine ov hr (.int .i64 0) (by kernel_rfl) ?_; clear hr a; intro a hr
  refine wpList_nil ?_
  refine then_normal ?_
  refine wp_block ?_
  replace hr := hr.fold2 [(0, .slice va0 p0.length vc0), (1, .slice va1 p1.length vc1), (5, .int .i64 ((p1.length : Nat) : Int)), (6, .int .i64 0)] (by kernel_rfl); obtain ⟨j, hr⟩ := hr
  refine loop_rule (β := Nat) id (fun m a w => ∃ g11 : Int, (plunderlaw2_untouched_l1 K p0 p1 m g11) = some r0 ∧ ∃ j, Rep 38 (lk [(0, .slice va0 p0.length vc0), (1, .slice va1 p1.length vc1), (5, .int .i64 ((p1.length : Nat) : Int)), (6, .int .i64 g11)] j) a ∧ Fit z (sepL (L)) w) K ⟨0, H, j, hr, h⟩ ?_
  clear h hr a H; rintro k1 a w ⟨g11, H, j, hr, h⟩
  cases k1 with
  | zero => exact absurd H (by simp [plunderlaw2_untouched_l1])
  | succ k1 =>
    rw [plunderlaw2_untouched_l1] at H
    refine wp_seq ?_
    refine wp_seq ?_
    refine wp_region_lit ?_
    refine ovs [24, 25, 26] [.int .i64 g11, .int .i64 ((p1.length : Nat) : Int), .bool (decide (g11 < ((p1.length : Nat) : Int)))] hr ⟨rfl, rfl⟩ (by kernel_rfl) ?_; clear hr a; intro a hr
    refine wpList_nil ?_
    refine then_normal ?_
    by_cases c12 : g11 < ((p1.length : Nat) : Int)
    ·
      replace H := ifT c12 H
      refine cond_tt hr (b := (decide (g11 < ((p1.length : Nat) : Int)))) (decide_eq_true c12) ?_
      refine wp_skip ?_
      refine then_normal ?_
      refine wp_seq ?_
      refine wp_block ?_
      refine wp_seq ?_
      replace H := gd H; obtain ⟨c13, H⟩ := H
      replace H := gd H; obtain ⟨c14, H⟩ := H
      refine reg_E (fun w => heldC w (blk va0) (offs va0 + g11.toNat * 5) [.int .i64 ((at_ p0 g11.toNat).Who), .int .i64 ((at_ p0 g11.toNat).Kind), .int .i64 ((at_ p0 g11.toNat).Addr), .int .i64 ((at_ p0 g11.toNat).A), .int .i64 ((at_ p0 g11.toNat).B)] ∧ heldC w (blk va1) (offs va1 + g11.toNat * 5) [.int .i64 ((at_ p1 g11.toNat).Who), .int .i64 ((at_ p1 g11.toNat).Kind), .int .i64 ((at_ p1 g11.toNat).Addr), .int .i64 ((at_ p1 g11.toNat).A), .int .i64 ((at_ p1 g11.toNat).B)] ∧ True) [2, 6] h (by kernel_rfl) ?_; intro w h
      change wpAnyE _ _ _ _ _ _ 9 (Array.replicate 9 false) a w
      have hgo : ∀ w w', CellsGo w w' → (heldC w (blk va0) (offs va0 + g11.toNat * 5) [.int .i64 ((at_ p0 g11.toNat).Who), .int .i64 ((at_ p0 g11.toNat).Kind), .int .i64 ((at_ p0 g11.toNat).Addr), .int .i64 ((at_ p0 g11.toNat).A), .int .i64 ((at_ p0 g11.toNat).B)] ∧ heldC w (blk va1) (offs va1 + g11.toNat * 5) [.int .i64 ((at_ p1 g11.toNat).Who), .int .i64 ((at_ p1 g11.toNat).Kind), .int .i64 ((at_ p1 g11.toNat).Addr), .int .i64 ((at_ p1 g11.toNat).A), .int .i64 ((at_ p1 g11.toNat).B)] ∧ True) → heldC w' (blk va0) (offs va0 + g11.toNat * 5) [.int .i64 ((at_ p0 g11.toNat).Who), .int .i64 ((at_ p0 g11.toNat).Kind), .int .i64 ((at_ p0 g11.toNat).Addr), .int .i64 ((at_ p0 g11.toNat).A), .int .i64 ((at_ p0 g11.toNat).B)] ∧ heldC w' (blk va1) (offs va1 + g11.toNat * 5) [.int .i64 ((at_ p1 g11.toNat).Who), .int .i64 ((at_ p1 g11.toNat).Kind), .int .i64 ((at_ p1 g11.toNat).Addr), .int .i64 ((at_ p1 g11.toNat).A), .int .i64 ((at_ p1 g11.toNat).B)] ∧ True := fun w w' g hD => ⟨heldC_go _ _ _ _ _ g hD.1, heldC_go _ _ _ _ _ g hD.2.1, trivial⟩
      refine ev 8 0 rfl (by kernel_rfl) (wn rfl) hr (.slice va0 p0.length vc0) (fun w => by kernel_rfl) ?_; clear hr a; intro a hr
      refine ev 7 1 rfl (by kernel_rfl) (wn rfl) hr (.int .i64 g11) (fun w => by kernel_rfl) ?_; clear hr a; intro a hr
      refine evD hgo ⟨⟨hv0.cell c13 (h.dn 0) 0 rfl, hv0.cell c13 (h.dn 0) 1 rfl, hv0.cell c13 (h.dn 0) 2 rfl, hv0.cell c13 (h.dn 0) 3 rfl, hv0.cell c13 (h.dn 0) 4 rfl, trivial⟩, ⟨hv1.cell c14 (h.dn 0) 0 rfl, hv1.cell c14 (h.dn 0) 1 rfl, hv1.cell c14 (h.dn 0) 2 rfl, hv1.cell c14 (h.dn 0) 3 rfl, hv1.cell c14 (h.dn 0) 4 rfl, trivial⟩, trivial⟩ 6 2 rfl (by kernel_rfl) (wn rfl) hr (.pointer (some ⟨blk va0, offs va0 + g11.toNat * 5, none⟩)) (fun w => ri_rd (k := .i64) (E := 57) (cc := vc0) rfl (by kernel_rfl) (by kernel_rfl) rfl (by kernel_rfl) (by kernel_rfl) hv0 c13) ?_; clear hr a; intro a hr
      refine ev 5 4 rfl (by kernel_rfl) (wn rfl) hr (.slice va1 p1.length vc1) (fun w => by kernel_rfl) ?_; clear hr a; intro a hr
      refine ev 4 5 rfl (by kernel_rfl) (wn rfl) hr (.int .i64 g11) (fun w => by kernel_rfl) ?_; clear hr a; intro a hr
      refine evD hgo ⟨⟨hv0.cell c13 (h.dn 0) 0 rfl, hv0.cell c13 (h.dn 0) 1 rfl, hv0.cell c13 (h.dn 0) 2 rfl, hv0.cell c13 (h.dn 0) 3 rfl, hv0.cell c13 (h.dn 0) 4 rfl, trivial⟩, ⟨hv1.cell c14 (h.dn 0) 0 rfl, hv1.cell c14 (h.dn 0) 1 rfl, hv1.cell c14 (h.dn 0) 2 rfl, hv1.cell c14 (h.dn 0) 3 rfl, hv1.cell c14 (h.dn 0) 4 rfl, trivial⟩, trivial⟩ 3 6 rfl (by kernel_rfl) (wn rfl) hr (.pointer (some ⟨blk va1, offs va1 + g11.toNat * 5, none⟩)) (fun w => ri_rd (k := .i64) (E := 57) (cc := vc1) rfl (by kernel_rfl) (by kernel_rfl) rfl (by kernel_rfl) (by kernel_rfl) hv1 c14) ?_; clear hr a; intro a hr
      refine el [2, 6] (b := blk va0) (off := offs va0 + g11.toNat * 5) (cs := [.int .i64 ((at_ p0 g11.toNat).Who), .int .i64 ((at_ p0 g11.toNat).Kind), .int .i64 ((at_ p0 g11.toNat).Addr), .int .i64 ((at_ p0 g11.toNat).A), .int .i64 ((at_ p0 g11.toNat).B)]) (fun _ hk => ⟨hk, fun w hD => hD.1⟩) 2 3 rfl (by kernel_rfl) (wn rfl) hr (.agg #[.int .i64 ((at_ p0 g11.toNat).Who), .int .i64 ((at_ p0 g11.toNat).Kind), .int .i64 ((at_ p0 g11.toNat).Addr), .int .i64 ((at_ p0 g11.toNat).A), .int .i64 ((at_ p0 g11.toNat).B)]) ⟨hv0.cell c13 (h.dn 0) 0 rfl, hv0.cell c13 (h.dn 0) 1 rfl, hv0.cell c13 (h.dn 0) 2 rfl, hv0.cell c13 (h.dn 0) 3 rfl, hv0.cell c13 (h.dn 0) 4 rfl, trivial⟩ (fun w hc => rlm (cs := [.int .i64 ((at_ p0 g11.toNat).Who), .int .i64 ((at_ p0 g11.toNat).Kind), .int .i64 ((at_ p0 g11.toNat).Addr), .int .i64 ((at_ p0 g11.toNat).A), .int .i64 ((at_ p0 g11.toNat).B)]) rfl (by kernel_rfl) (by kernel_rfl) (by kernel_rfl) hc) ?_; clear hr a; intro a hr
      refine el [2, 6] (b := blk va1) (off := offs va1 + g11.toNat * 5) (cs := [.int .i64 ((at_ p1 g11.toNat).Who), .int .i64 ((at_ p1 g11.toNat).Kind), .int .i64 ((at_ p1 g11.toNat).Addr), .int .i64 ((at_ p1 g11.toNat).A), .int .i64 ((at_ p1 g11.toNat).B)]) (fun _ hk => ⟨hk, fun w hD => hD.2.1⟩) 1 7 rfl (by kernel_rfl) (wn rfl) hr (.agg #[.int .i64 ((at_ p1 g11.toNat).Who), .int .i64 ((at_ p1 g11.toNat).Kind), .int .i64 ((at_ p1 g11.toNat).Addr), .int .i64 ((at_ p1 g11.toNat).A), .int .i64 ((at_ p1 g11.toNat).B)]) ⟨hv1.cell c14 (h.dn 0) 0 rfl, hv1.cell c14 (h.dn 0) 1 rfl, hv1.cell c14 (h.dn 0) 2 rfl, hv1.cell c14 (h.dn 0) 3 rfl, hv1.cell c14 (h.dn 0) 4 rfl, trivial⟩ (fun w hc => rlm (cs := [.int .i64 ((at_ p1 g11.toNat).Who), .int .i64 ((at_ p1 g11.toNat).Kind), .int .i64 ((at_ p1 g11.toNat).Addr), .int .i64 ((at_ p1 g11.toNat).A), .int .i64 ((at_ p1 g11.toNat).B)]) rfl (by kernel_rfl) (by kernel_rfl) (by kernel_rfl) hc) ?_; clear hr a; intro a hr
      refine ev 0 8 rfl (by kernel_rfl) (wn rfl) hr (.bool (!(decide (at_ p0 g11.toNat = at_ p1 g11.toNat)))) (fun w => rb (rne rfl (by kernel_rfl) (by kernel_rfl) (by kernel_rfl) (by kernel_rfl) (by kernel_rfl) (by kernel_rfl)) (congrArg (!·) (eq_T_api_Act (at_ p0 g11.toNat) (at_ p1 g11.toNat)))) ?_; clear hr a; intro a hr
      refine e_end (by kernel_rfl) ?_
      refine then_normal ?_
      by_cases c15 : at_ p0 g11.toNat = at_ p1 g11.toNat
      ·
        replace H := ifT c15 H
        refine cond_ff hr (b := (!(decide (at_ p0 g11.toNat = at_ p1 g11.toNat)))) (by rw [show (decide (at_ p0 g11.toNat = at_ p1 g11.toNat)) = true from (decide_eq_true c15)]; rfl) ?_
        refine wp_skip ?_
        refine blk_normal ?_
        refine then_normal ?_
        refine wp_region_lit ?_
        refine ovs [27, 28, 6] [.int .i64 g11, .int .i64 (wi (g11 + (1 : Int))), .int .i64 (wi (g11 + (1 : Int)))] hr ⟨rfl, rfl⟩ (by kernel_rfl) ?_; clear hr a; intro a hr
        refine wpList_nil ?_
        refine then_normal ?_
        replace hr := hr.fold2 [(0, .slice va0 p0.length vc0), (1, .slice va1 p1.length vc1), (5, .int .i64 ((p1.length : Nat) : Int)), (6, .int .i64 (wi (g11 + (1 : Int))))] (by kernel_rfl); obtain ⟨j, hr⟩ := hr
        exact ⟨_, ⟨(wi (g11 + (1 : Int))), H, j, hr, h⟩, Nat.lt_succ_self _⟩
      ·
        replace H := ifF c15 H
        refine cond_tt hr (b := (!(decide (at_ p0 g11.toNat = at_ p1 g11.toNat)))) (by rw [show (decide (at_ p0 g11.toNat = at_ p1 g11.toNat)) = false from (decide_eq_false c15)]; rfl) ?_
        refine wp_seq ?_
        refine wp_region_lit ?_
        refine ov hr (.bool false) (by kernel_rfl) ?_; clear hr a; intro a hr
        refine wpList_nil ?_
        refine then_normal ?_
        refine wp_ret ?_
        refine blk_ret ?_
        refine then_ret ?_
        refine then_ret ?_
        refine blk_ret ?_
        refine then_ret ?_
        refine end_ret1 (v := .bool false) rfl hr (by kernel_rfl) ?_
        replace H := ej1 H; subst H
        exact ⟨rfl, h⟩
    ·
      replace H := ifF c12 H
      refine cond_ff hr (b := (decide (g11 < ((p1.length : Nat) : Int)))) (decide_eq_false c12) ?_
      refine wp_exit ?_
      refine then_exit ?_
      refine then_exit ?_
      refine blk_here ?_
      refine then_normal ?_
      refine wp_seq ?_
      refine wp_region_lit ?_
      refine ov hr (.bool true) (by kernel_rfl) ?_; clear hr a; intro a hr
      refine wpList_nil ?_
      refine then_normal ?_
      refine wp_ret ?_
      refine end_ret1 (v := .bool true) rfl hr (by kernel_rfl) ?_
      replace H := ej1 H; subst H
      exact ⟨rfl, h⟩

def plunderlaw2_full_l1 (K : Nat) (p0 : List Int) (p1 : Int) (p2 : Int) : Nat → Int → Option (Bool)
  | 0, _ => none
  | k1 + 1, g2 => (if g2 < p1 then if inr_ g2 p0.length then (if (at_ p0 g2.toNat) = p2 then (plunderlaw2_full_l1 K p0 p1 p2 k1 (wi (g2 + (1 : Int)))) else some false) else none else some true)
/-- plunder/plunderlaw2.full -/
def plunderlaw2_full (K : Nat) (p0 : List Int) (p1 : Int) (p2 : Int) : Option (Bool) :=
  (if ((p0.length : Nat) : Int) < p1 then some false else (plunderlaw2_full_l1 K p0 p1 p2 K 0))
set_option maxRecDepth 100000 in
set_option maxHeartbeats 4000000 in
theorem plunderlaw2_full_ok {z w : World} {L : List HProp} {K : Nat} {p0 : List Int} {p1 : Int} {p2 : Int} {va0 : Option Addr} {vc0 : Nat} {r0 : Bool} (H : plunderlaw2_full K p0 p1 p2 = some r0) (h : Fit z (sepL (L)) w) (hv0 : RdRow L 1 encZ_i64 va0 p0) :
    Calls Try.prog 110 #[.slice va0 p0.length vc0, .int .i64 p1, .int .i64 p2] w fun e w => e = .returned (.bool r0) ∧ Fit z (sepL (L)) w := by
  unfold plunderlaw2_full at H
  refine enter Try.func110 rfl 23 rfl rfl [(0, .slice va0 p0.length vc0), (1, .int .i64 p1), (2, .int .i64 p2)] ⟨rfl, rfl, rfl, trivial⟩ ?_
  intro j a hr
  refine wp_seq ?_
  refine wp_region_lit ?_
  refine ov hr (.bool false) (by kernel_rfl) ?_; clear hr a; intro a hr
  refine wpList_nil ?_
  refine then_normal ?_
  refine wp_seq ?_
  refine wp_seq ?_
  refine wp_region_lit ?_
  refine ovs [8, 9, 10, 11] [.slice va0 p0.length vc0, .int .i64 ((p0.length : Nat) : Int), .int .i64 p1, .bool (decide (((p0.length : Nat) : Int) < p1))] hr ⟨rfl, rfl⟩ (by kernel_rfl) ?_; clear hr a; intro a hr
  refine wpList_nil ?_
  refine then_normal ?_
  by_cases c1 : ((p0.length : Nat) : Int) < p1
  ·
    replace H := ifT c1 H
    refine cond_tt hr (b := (decide (((p0.length : Nat) : Int) < p1))) (decide_eq_true c1) ?_
    refine wp_seq ?_
    refine wp_region_lit ?_
    refine ov hr (.bool false) (by kernel_rfl) ?_; clear hr a; intro a hr
    refine wpList_nil ?_
    refine then_normal ?_
    refine wp_ret ?_
    refine then_ret ?_
    refine end_ret1 (v := .bool false) rfl hr (by kernel_rfl) ?_
    replace H := ej1 H; subst H
    exact ⟨rfl, h⟩
  ·
    replace H := ifF c1 H
    refine cond_ff hr (b := (decide (((p0.length : Nat) : Int) < p1))) (decide_eq_false c1) ?_
    refine wp_skip ?_
    refine then_normal ?_
    refine wp_seq ?_
    refine wp_seq ?_
    refine wp_region_lit ?_
    refine ov hr (.int .i64 0) (by kernel_rfl) ?_; clear hr a; intro a hr
    refine wpList_nil ?_
    refine then_normal ?_
    refine wp_block ?_
    replace hr := hr.fold2 [(0, .slice va0 p0.length vc0), (1, .int .i64 p1), (2, .int .i64 p2), (7, .int .i64 0)] (by kernel_rfl); obtain ⟨j, hr⟩ := hr
    refine loop_rule (β := Nat) id (fun m a w => ∃ g2 : Int, (plunderlaw2_full_l1 K p0 p1 p2 m g2) = some r0 ∧ ∃ j, Rep 23 (lk [(0, .slice va0 p0.length vc0), (1, .int .i64 p1), (2, .int .i64 p2), (7, .int .i64 g2)] j) a ∧ Fit z (sepL (L)) w) K ⟨0, H, j, hr, h⟩ ?_
    clear h hr a H; rintro k1 a w ⟨g2, H, j, hr, h⟩
    cases k1 with
    | zero => exact absurd H (by simp [plunderlaw2_full_l1])
    | succ k1 =>
      rw [plunderlaw2_full_l1] at H
      refine wp_seq ?_
      refine wp_seq ?_
      refine wp_region_lit ?_
      refine ovs [12, 13, 14] [.int .i64 g2, .int .i64 p1, .bool (decide (g2 < p1))] hr ⟨rfl, rfl⟩ (by kernel_rfl) ?_; clear hr a; intro a hr
      refine wpList_nil ?_
      refine then_normal ?_
      by_cases c3 : g2 < p1
      ·
        replace H := ifT c3 H
        refine cond_tt hr (b := (decide (g2 < p1))) (decide_eq_true c3) ?_
        refine wp_skip ?_
        refine then_normal ?_
        refine wp_seq ?_
        refine wp_block ?_
        refine wp_seq ?_
        refine wp_region_lit ?_
        replace H := gd H; obtain ⟨c4, H⟩ := H
        refine ovs [17, 18] [.slice va0 p0.length vc0, .int .i64 g2] hr ⟨rfl, rfl⟩ (by kernel_rfl) ?_; clear hr a; intro a hr
        refine op_val (wn rfl) rfl rfl hr (v := .pointer (some ⟨blk va0, offs va0 + g2.toNat * 1, none⟩)) (ri_rd (k := .i64) (E := 2) (cc := vc0) rfl (by kernel_rfl) (by kernel_rfl) rfl (by kernel_rfl) (by kernel_rfl) hv0 c4) ?_; clear hr a; intro a hr
        refine op_val (wn rfl) rfl rfl hr (v := .int .i64 (at_ p0 g2.toNat)) (rl rfl (by kernel_rfl) (by kernel_rfl) (hv0.cell c4 (h.dn 0) 0 rfl)) ?_; clear hr a; intro a hr
        refine ovs [21, 22] [.int .i64 p2, .bool ((at_ p0 g2.toNat) != p2)] hr ⟨rfl, rfl⟩ (by kernel_rfl) ?_; clear hr a; intro a hr
        refine wpList_nil ?_
        refine then_normal ?_
        by_cases c5 : (at_ p0 g2.toNat) = p2
        ·
          replace H := ifT c5 H
          refine cond_ff hr (b := ((at_ p0 g2.toNat) != p2)) (bne_eq_false_iff_eq.mpr c5) ?_
          refine wp_skip ?_
          refine blk_normal ?_
          refine then_normal ?_
          refine wp_region_lit ?_
          refine ovs [15, 16, 7] [.int .i64 g2, .int .i64 (wi (g2 + (1 : Int))), .int .i64 (wi (g2 + (1 : Int)))] hr ⟨rfl, rfl⟩ (by kernel_rfl) ?_; clear hr a; intro a hr
          refine wpList_nil ?_
          refine then_normal ?_
          replace hr := hr.fold2 [(0, .slice va0 p0.length vc0), (1, .int .i64 p1), (2, .int .i64 p2), (7, .int .i64 (wi (g2 + (1 : Int))))] (by kernel_rfl); obtain ⟨j, hr⟩ := hr
          exact ⟨_, ⟨(wi (g2 + (1 : Int))), H, j, hr, h⟩, Nat.lt_succ_self _⟩
        ·
          replace H := ifF c5 H
          refine cond_tt hr (b := ((at_ p0 g2.toNat) != p2)) (bne_iff_ne.mpr c5) ?_
          refine wp_seq ?_
          refine wp_region_lit ?_
          refine ov hr (.bool false) (by kernel_rfl) ?_; clear hr a; intro a hr
          refine wpList_nil ?_
          refine then_normal ?_
          refine wp_ret ?_
          refine blk_ret ?_
          refine then_ret ?_
          refine then_ret ?_
          refine blk_ret ?_
          refine then_ret ?_
          refine end_ret1 (v := .bool false) rfl hr (by kernel_rfl) ?_
          replace H := ej1 H; subst H
          exact ⟨rfl, h⟩
      ·
        replace H := ifF c3 H
        refine cond_ff hr (b := (decide (g2 < p1))) (decide_eq_false c3) ?_
        refine wp_exit ?_
        refine then_exit ?_
        refine then_exit ?_
        refine blk_here ?_
        refine then_normal ?_
        refine wp_seq ?_
        refine wp_region_lit ?_
        refine ov hr (.bool true) (by kernel_rfl) ?_; clear hr a; intro a hr
        refine wpList_nil ?_
        refine then_normal ?_
        refine wp_ret ?_
        refine end_ret1 (v := .bool true) rfl hr (by kernel_rfl) ?_
        replace H := ej1 H; subst H
        exact ⟨rfl, h⟩


end Go.Proofs.Ytacgigkonoegiaa.Mo
