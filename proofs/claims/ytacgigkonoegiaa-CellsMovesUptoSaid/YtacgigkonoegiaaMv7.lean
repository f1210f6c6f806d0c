/- what the functions compute, as plain Lean functions, and that they do -/
import Derived.Test.YtacgigkonoegiaaMv6
namespace Go.Proofs.Ytacgigkonoegiaa.Mo
open Go Go.RowKit Go.Proofs.Ytacgigkonoegiaa.SL Go.Proofs.Ytacgigkonoegiaa.GX
set_option linter.unusedVariables false
set_option linter.unusedSimpArgs false

/-- plunder/plunderlaw2.CellsMoves -/
def plunderlaw2_CellsMoves (K : Nat) (p0 : Int) (p1 : List T_plunderlaw2_Move) : Option (Bool) :=
  ob1 (plunderlaw2_walk K p0 0 p1 true false) (fun r1 => some r1)
set_option maxRecDepth 100000 in
set_option maxHeartbeats 4000000 in
theorem plunderlaw2_CellsMoves_ok {z w : World} {L : List HProp} {K : Nat} {p0 : Int} {p1 : List T_plunderlaw2_Move} {va1 : Option Addr} {vc1 : Nat} {r0 : Bool} (H : plunderlaw2_CellsMoves K p0 p1 = some r0) (h : Fit z (sepL (L)) w) (hv1 : RdRow L 5 enc_T_plunderlaw2_Move va1 p1) :
    Calls Try.prog 6 #[.int .i64 p0, .slice va1 p1.length vc1] w fun e w => e = .returned (.bool r0) ∧ Fit z (sepL (L)) w := by
  unfold plunderlaw2_CellsMoves at H
  refine enter Try.func6 rfl 8 rfl rfl [(0, .int .i64 p0), (1, .slice va1 p1.length vc1)] ⟨rfl, rfl, trivial⟩ ?_
  intro j a hr
  refine wp_seq ?_
  refine wp_region_lit ?_
  refine ov hr (.bool false) (by kernel_rfl) ?_; clear hr a; intro a hr
  refine wpList_nil ?_
  refine then_normal ?_
  refine wp_seq ?_
  refine wp_region_lit ?_
  replace H := bd1 H; obtain ⟨r1, e2, H⟩ := H
  refine ovs [5, 6] [.int .i64 p0, .slice va1 p1.length vc1] hr ⟨rfl, rfl⟩ (by kernel_rfl) ?_; clear hr a; intro a hr
  have hc := plunderlaw2_walk_ok (va2 := va1) (vc2 := vc1) (hv2 := (RdRow.up 0 hv1)) (H := e2) (h := h)
  refine op_call (wn rfl) rfl rfl hr (f := 25) (args := #[.int .i64 p0, .int .i64 0, .slice va1 p1.length vc1, .bool true, .bool false]) (by kernel_rfl) hc ?_; clear hc h
  rintro _ w ⟨rfl, h⟩; refine ⟨_, rfl, ?_⟩
  clear hr a; intro a hr
  refine ov hr (.bool r1) (by kernel_rfl) ?_; clear hr a; intro a hr
  refine wpList_nil ?_
  refine then_normal ?_
  refine wp_ret ?_
  refine end_ret1 (v := .bool r1) rfl hr (by kernel_rfl) ?_
  replace H := ej1 H; subst H
  exact ⟨rfl, h⟩

/-- plunder/plunderlaw2.CellsTurns -/
def plunderlaw2_CellsTurns (K : Nat) (p0 : Int) (p1 : Int) (p2 : List T_plunderlaw2_Move) : Option (Bool) :=
  ob1 (plunderlaw2_walk K p0 p1 p2 false false) (fun r1 => some r1)
set_option maxRecDepth 100000 in
set_option maxHeartbeats 4000000 in
theorem plunderlaw2_CellsTurns_ok {z w : World} {L : List HProp} {K : Nat} {p0 : Int} {p1 : Int} {p2 : List T_plunderlaw2_Move} {va2 : Option Addr} {vc2 : Nat} {r0 : Bool} (H : plunderlaw2_CellsTurns K p0 p1 p2 = some r0) (h : Fit z (sepL (L)) w) (hv2 : RdRow L 5 enc_T_plunderlaw2_Move va2 p2) :
    Calls Try.prog 7 #[.int .i64 p0, .int .i64 p1, .slice va2 p2.length vc2] w fun e w => e = .returned (.bool r0) ∧ Fit z (sepL (L)) w := by
  unfold plunderlaw2_CellsTurns at H
  refine enter Try.func7 rfl 11 rfl rfl [(0, .int .i64 p0), (1, .int .i64 p1), (2, .slice va2 p2.length vc2)] ⟨rfl, rfl, rfl, trivial⟩ ?_
  intro j a hr
  refine wp_seq ?_
  refine wp_region_lit ?_
  refine ov hr (.bool false) (by kernel_rfl) ?_; clear hr a; intro a hr
  refine wpList_nil ?_
  refine then_normal ?_
  refine wp_seq ?_
  refine wp_region_lit ?_
  replace H := bd1 H; obtain ⟨r1, e2, H⟩ := H
  refine ovs [7, 8, 9] [.int .i64 p0, .int .i64 p1, .slice va2 p2.length vc2] hr ⟨rfl, rfl⟩ (by kernel_rfl) ?_; clear hr a; intro a hr
  have hc := plunderlaw2_walk_ok (va2 := va2) (vc2 := vc2) (hv2 := (RdRow.up 0 hv2)) (H := e2) (h := h)
  refine op_call (wn rfl) rfl rfl hr (f := 25) (args := #[.int .i64 p0, .int .i64 p1, .slice va2 p2.length vc2, .bool false, .bool false]) (by kernel_rfl) hc ?_; clear hc h
  rintro _ w ⟨rfl, h⟩; refine ⟨_, rfl, ?_⟩
  clear hr a; intro a hr
  refine ov hr (.bool r1) (by kernel_rfl) ?_; clear hr a; intro a hr
  refine wpList_nil ?_
  refine then_normal ?_
  refine wp_ret ?_
  refine end_ret1 (v := .bool r1) rfl hr (by kernel_rfl) ?_
  replace H := ej1 H; subst H
  exact ⟨rfl, h⟩


end Go.Proofs.Ytacgigkonoegiaa.Mo
