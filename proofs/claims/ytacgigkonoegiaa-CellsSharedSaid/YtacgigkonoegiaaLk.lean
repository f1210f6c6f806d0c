/- The numbers under which this program holds sync.Mutex's functions and types, and that it holds them. Printed by mklk.py. -/
import Derived.Test.YtacgigkonoegiaaProg
import Derived.Conc.MuLib
import Derived.Test.YtacgigkonoegiaaD
import Derived.KernelRfl
namespace Go.Proofs.Ytacgigkonoegiaa
open Go Ytacgigkonoegiaa.SL Ytacgigkonoegiaa.GX
abbrev muLink : Go.Conc.Locks.MuLink := { lock := 82, unlock := 83, ilock := 108, iunlock := 109, lockSlow := 119, unlockSlow := 122, disable := 115, enable := 117, acquire := 118, relMerge := 120, cas32 := 116, add32 := 121, tMutex := 103, tIMutex := 101, tPMutex := 151, tPIMutex := 159, tPI32 := 161, tUP := 163, tNoCopy := 98, tU32 := 99 }
theorem muLib : Go.Conc.Locks.MuLib Try.prog muLink :=
  ⟨Try.func82, Try.func83, Try.func108, Try.func109, Try.func115, Try.func117, Try.func118, Try.func120, Try.func116, Try.func121, Try.underlying101, Try.runUnderlying101, Try.sizeOf101, Try.isAgg101, Try.zeroValue101, Try.underlying103, Try.runUnderlying103, Try.sizeOf103, Try.isAgg103, Try.zeroValue103, Try.underlying151, Try.runUnderlying151, Try.sizeOf151, Try.isAgg151, Try.zeroValue151, Try.underlying159, Try.runUnderlying159, Try.sizeOf159, Try.isAgg159, Try.zeroValue159, Try.underlying161, Try.runUnderlying161, Try.sizeOf161, Try.isAgg161, Try.zeroValue161, Try.underlying163, Try.runUnderlying163, Try.sizeOf163, Try.isAgg163, Try.zeroValue163, Try.underlying98, Try.runUnderlying98, Try.sizeOf98, Try.isAgg98, Try.zeroValue98, Try.underlying21, Try.runUnderlying21, Try.sizeOf21, Try.isAgg21, Try.zeroValue21, (by kernel_rfl)⟩
theorem a_load {w : World} {b i : Nat} {x : Int} (hc : w.cell? ⟨b, i, none⟩ = some (.int .i64 x)) :
    Calls Try.prog 104 #[.pointer (some ⟨b, i, none⟩)] w fun e w' => e = .returned (.int .i64 x) ∧ w' = w := by
  refine enter Try.func104 rfl 7 rfl rfl [(0, .pointer (some ⟨b, i, none⟩))] ⟨by kernel_rfl, trivial⟩ ?_
  intro j a hr
  refine wp_seq ?_
  refine wp_region_lit ?_
  refine ov hr (.int .i64 0) (by kernel_rfl) ?_; clear hr a; intro a hr
  refine wpList_nil ?_
  refine then_normal ?_
  refine wp_seq ?_
  refine wp_region_lit ?_
  refine ov hr (.pointer (some ⟨b, i, none⟩)) (by kernel_rfl) ?_; clear hr a; intro a hr
  refine ov hr (.pointer (some ⟨b, i, none⟩)) (by kernel_rfl) ?_; clear hr a; intro a hr
  refine ov hr (.pointer (some ⟨b, i, none⟩)) (by kernel_rfl) ?_; clear hr a; intro a hr
  refine op_valw (wn rfl) rfl rfl hr (v := .int .i64 x) (rcall rfl rfl (by kernel_rfl) (run_call_load Try.func111 (by kernel_rfl) (by kernel_rfl) (by kernel_rfl) .i64 (by kernel_rfl) hc)) ?_; clear hr a; intro a hr
  refine ov hr (.int .i64 x) (by kernel_rfl) ?_; clear hr a; intro a hr
  refine wpList_nil ?_
  refine then_normal ?_
  refine wp_ret ?_
  exact end_ret1 rfl hr (by kernel_rfl) ⟨rfl, rfl⟩
theorem a_store {w : World} {b i : Nat} {y : Int} {u : Value} (hc : w.cell? ⟨b, i, none⟩ = some u) (hz : w.frozen? ⟨b, i, none⟩ = false) :
    Calls Try.prog 105 #[.pointer (some ⟨b, i, none⟩), .int .i64 y] w fun e w' => e = .returned (.tuple #[]) ∧ w' = w.setCell ⟨b, i, none⟩ (.int .i64 y) := by
  refine enter Try.func105 rfl 9 rfl rfl [(0, .pointer (some ⟨b, i, none⟩)), (1, .int .i64 y)] ⟨by kernel_rfl, by kernel_rfl, trivial⟩ ?_
  intro j a hr
  refine wp_region_lit ?_
  refine ov hr (.pointer (some ⟨b, i, none⟩)) (by kernel_rfl) ?_; clear hr a; intro a hr
  refine ov hr (.pointer (some ⟨b, i, none⟩)) (by kernel_rfl) ?_; clear hr a; intro a hr
  refine ov hr (.pointer (some ⟨b, i, none⟩)) (by kernel_rfl) ?_; clear hr a; intro a hr
  refine ov hr (.int .i64 y) (by kernel_rfl) ?_; clear hr a; intro a hr
  refine op_valw (wn rfl) rfl rfl hr (v := .tuple #[]) (rcall rfl rfl (by kernel_rfl) (run_call_store Try.func112 (by kernel_rfl) (by kernel_rfl) (by kernel_rfl) (by kernel_rfl) (k := .i64) (y := y) hc hz)) ?_; clear hr a; intro a hr
  refine wpList_nil ?_
  exact end_norm0 rfl hr ⟨rfl, rfl⟩
theorem a_add {w : World} {b i : Nat} {x y : Int} (hc : w.cell? ⟨b, i, none⟩ = some (.int .i64 x)) (hz : w.frozen? ⟨b, i, none⟩ = false) :
    Calls Try.prog 107 #[.pointer (some ⟨b, i, none⟩), .int .i64 y] w fun e w' => e = .returned (.int .i64 (wi (x + y))) ∧ w' = w.setCell ⟨b, i, none⟩ (.int .i64 (wi (x + y))) := by
  refine enter Try.func107 rfl 10 rfl rfl [(0, .pointer (some ⟨b, i, none⟩)), (1, .int .i64 y)] ⟨by kernel_rfl, by kernel_rfl, trivial⟩ ?_
  intro j a hr
  refine wp_seq ?_
  refine wp_region_lit ?_
  refine ov hr (.int .i64 0) (by kernel_rfl) ?_; clear hr a; intro a hr
  refine wpList_nil ?_
  refine then_normal ?_
  refine wp_seq ?_
  refine wp_region_lit ?_
  refine ov hr (.pointer (some ⟨b, i, none⟩)) (by kernel_rfl) ?_; clear hr a; intro a hr
  refine ov hr (.pointer (some ⟨b, i, none⟩)) (by kernel_rfl) ?_; clear hr a; intro a hr
  refine ov hr (.pointer (some ⟨b, i, none⟩)) (by kernel_rfl) ?_; clear hr a; intro a hr
  refine ov hr (.int .i64 y) (by kernel_rfl) ?_; clear hr a; intro a hr
  refine op_valw (wn rfl) rfl rfl hr (v := .int .i64 (wi (x + y))) (rcall rfl rfl (by kernel_rfl) (run_call_add Try.func114 (by kernel_rfl) (by kernel_rfl) (by kernel_rfl) .i64 (by kernel_rfl) (y := y) (s := wi (x + y)) hc hz (by kernel_rfl))) ?_; clear hr a; intro a hr
  refine ov hr (.int .i64 (wi (x + y))) (by kernel_rfl) ?_; clear hr a; intro a hr
  refine wpList_nil ?_
  refine then_normal ?_
  refine wp_ret ?_
  exact end_ret1 rfl hr (by kernel_rfl) ⟨rfl, rfl⟩
theorem a_hit {w : World} {b i : Nat} {x y : Int} (hc : w.cell? ⟨b, i, none⟩ = some (.int .i64 x)) (hz : w.frozen? ⟨b, i, none⟩ = false) :
    Calls Try.prog 106 #[.pointer (some ⟨b, i, none⟩), .int .i64 x, .int .i64 y] w fun e w' => e = .returned (.bool true) ∧ w' = w.setCell ⟨b, i, none⟩ (.int .i64 y) := by
  refine enter Try.func106 rfl 13 rfl rfl [(0, .pointer (some ⟨b, i, none⟩)), (1, .int .i64 x), (2, .int .i64 y)] ⟨by kernel_rfl, by kernel_rfl, by kernel_rfl, trivial⟩ ?_
  intro j a hr
  refine wp_seq ?_
  refine wp_region_lit ?_
  refine ov hr (.bool false) (by kernel_rfl) ?_; clear hr a; intro a hr
  refine wpList_nil ?_
  refine then_normal ?_
  refine wp_seq ?_
  refine wp_region_lit ?_
  refine ov hr (.pointer (some ⟨b, i, none⟩)) (by kernel_rfl) ?_; clear hr a; intro a hr
  refine ov hr (.pointer (some ⟨b, i, none⟩)) (by kernel_rfl) ?_; clear hr a; intro a hr
  refine ov hr (.pointer (some ⟨b, i, none⟩)) (by kernel_rfl) ?_; clear hr a; intro a hr
  refine ov hr (.int .i64 x) (by kernel_rfl) ?_; clear hr a; intro a hr
  refine ov hr (.int .i64 y) (by kernel_rfl) ?_; clear hr a; intro a hr
  refine op_valw (wn rfl) rfl rfl hr (v := .bool true) (rcall rfl rfl (by kernel_rfl) (run_call_cas_hit Try.func113 (by kernel_rfl) (by kernel_rfl) (by kernel_rfl) .i64 (by kernel_rfl) (y := y) hc hz)) ?_; clear hr a; intro a hr
  refine ov hr (.bool true) (by kernel_rfl) ?_; clear hr a; intro a hr
  refine wpList_nil ?_
  refine then_normal ?_
  refine wp_ret ?_
  exact end_ret1 rfl hr (by kernel_rfl) ⟨rfl, rfl⟩
theorem a_miss {w : World} {b i : Nat} {x o y : Int} (hc : w.cell? ⟨b, i, none⟩ = some (.int .i64 x)) (hz : w.frozen? ⟨b, i, none⟩ = false) (hne : ¬ x = o) :
    Calls Try.prog 106 #[.pointer (some ⟨b, i, none⟩), .int .i64 o, .int .i64 y] w fun e w' => e = .returned (.bool false) ∧ w' = w := by
  refine enter Try.func106 rfl 13 rfl rfl [(0, .pointer (some ⟨b, i, none⟩)), (1, .int .i64 o), (2, .int .i64 y)] ⟨by kernel_rfl, by kernel_rfl, by kernel_rfl, trivial⟩ ?_
  intro j a hr
  refine wp_seq ?_
  refine wp_region_lit ?_
  refine ov hr (.bool false) (by kernel_rfl) ?_; clear hr a; intro a hr
  refine wpList_nil ?_
  refine then_normal ?_
  refine wp_seq ?_
  refine wp_region_lit ?_
  refine ov hr (.pointer (some ⟨b, i, none⟩)) (by kernel_rfl) ?_; clear hr a; intro a hr
  refine ov hr (.pointer (some ⟨b, i, none⟩)) (by kernel_rfl) ?_; clear hr a; intro a hr
  refine ov hr (.pointer (some ⟨b, i, none⟩)) (by kernel_rfl) ?_; clear hr a; intro a hr
  refine ov hr (.int .i64 o) (by kernel_rfl) ?_; clear hr a; intro a hr
  refine ov hr (.int .i64 y) (by kernel_rfl) ?_; clear hr a; intro a hr
  refine op_valw (wn rfl) rfl rfl hr (v := .bool false) (rcall rfl rfl (by kernel_rfl) (run_call_cas_miss Try.func113 (by kernel_rfl) (by kernel_rfl) (by kernel_rfl) .i64 (by kernel_rfl) (o := o) (y := y) hc hz hne)) ?_; clear hr a; intro a hr
  refine ov hr (.bool false) (by kernel_rfl) ?_; clear hr a; intro a hr
  refine wpList_nil ?_
  refine then_normal ?_
  refine wp_ret ?_
  exact end_ret1 rfl hr (by kernel_rfl) ⟨rfl, rfl⟩
theorem a_cas {w : World} {b i : Nat} {x o y : Int} (hc : w.cell? ⟨b, i, none⟩ = some (.int .i64 x)) (hz : w.frozen? ⟨b, i, none⟩ = false) (hx : x = o) : Calls Try.prog 106 #[.pointer (some ⟨b, i, none⟩), .int .i64 o, .int .i64 y] w fun e w' => e = .returned (.bool true) ∧ w' = w.setCell ⟨b, i, none⟩ (.int .i64 y) := by
  subst hx; exact a_hit hc hz
end Go.Proofs.Ytacgigkonoegiaa
