/- The closure that prog.Check defers: what it does behind a return, and behind a panic with a wrong. -/
import Derived.Test.YtpikpffbcjpmcaaGreatDoorPa
import Derived.Test.YtpikpffbcjpmcaaGreatDoorD
import Derived.Test.YtpikpffbcjpmcaaGreatDoorProg
import Derived.Recover
import Derived.KernelRfl
namespace Go.Proofs.YtpikpffbcjpmcaaGreatDoor.GX
open Go Go.RowKit Go.Proofs.YtpikpffbcjpmcaaGreatDoor.SL
set_option linter.unusedVariables false
set_option linter.unusedSectionVars false
section
variable {P : Program} {w w0 w1 z : World} {a : Act} {o : Oper} {n d : Nat} {l : List (Nat × Value)} {j : Nat → Value} {L : List HProp} {f : FuncId} {args : Array Value} {Q : Exit → Act → List Frame → World → Prop} {cs cs' : List Frame} {Df : List Deferred}
theorem enterS {fn : Func} {c : Code} {u : FrameMode} {R : Ending → FrameMode → World → Prop} (hf : P.funcs[f]? = some fn) (hb : fn.body = some c) (n : Nat) (hn : fn.ntmps = n) (hs : Nat.ble args.size n = true)
    (l : List (Nat × Value)) (hl : allEq (fun t => args.getD t undef) l) (k : ∀ (c0 : Frame) (cs : List Frame) j a, c0.mode = u → Rep n (lk l j) a → c.wpS P (bodyPostS P fn c0 cs R) a (c0 :: cs) w) : CallsD P f args u w R := by
  refine callsD_of_wpS hf hb fun c0 cs hu => k c0 cs (fun t => args.getD t undef) _ hu ?_
  rw [lk_of_allEq hl]
  refine ⟨?_, fun t => getD_app args _ t, rfl⟩
  have := Nat.le_of_ble_eq_true hs
  simp [hn]
  omega
theorem wanted_none (hg : o.guard = none) (y : Nat → Option Bool) : Region.wanted o y = true := by simp [Region.wanted, hg]
theorem s_rec {rid : Nat} {y : Code} {v : Value} (hr : RepD Df n (lk l j) a) (hv : recoverD cs = some (v, cs') ∨ recoverD cs = none ∧ v = .nilIface ∧ cs' = cs) (k : ∀ a, RepD Df n (lk ((d, v) :: l) j) a → y.wpS P Q a cs' w)
    (hg : o.guard = none) (hd : o.dst = some d) (hn : Nat.blt d n = true) (hrun : (execOp (evE (lk l j)) o).run P w = .ok .recover w) : (Code.seq (.region rid #[o] false) y).wpS P Q a cs w := by
  refine wpS_seq (wpS_region ?_)
  have e : (List.range (#[o] : Array Oper).size) = [0] := rfl
  rw [e]
  simp only [wpOpsS, List.getElem?_toArray, List.getElem?_cons_zero]
  rw [wanted_none hg, if_pos rfl, hr.eval, hrun]
  simp only
  rcases hv with h | ⟨h, rfl, rfl⟩
  · rw [h]
    simp only
    rw [hd]
    exact k _ (hr.put d v hn)
  · rw [h]
    simp only
    rw [hd]
    exact k _ (hr.put d _ hn)
end
set_option maxRecDepth 100000
set_option maxHeartbeats 1000000
theorem chk_pan {z w : World} {L : List HProp} {b : Nat} {x y k x0 y0 k0 : Int} (h : Fit z (sepL (pts b (.cells #[vI x0, vI y0, vI k0] 95) :: L)) w) :
    CallsD Tryz.prog 113 #[.pointer (some ⟨b, 0, none⟩)] (.panicking [{ v := .iface 194 (.agg #[vI x, vI y, vI k]), recovered := false }]) w fun e u' w' => e = .returned (.tuple #[]) ∧ u' = .panicking [{ v := .iface 194 (.agg #[vI x, vI y, vI k]), recovered := true }] ∧ Fit z (sepL (pts b (.cells #[vI x, vI y, vI k] 95) :: L)) w' := by
  refine enterS Tryz.func113 rfl 12 rfl rfl [(0, pA b 0)] ⟨rfl, trivial⟩ ?_
  intro c0 cs j a hm hr
  refine s_rec (v := .iface 194 (.agg #[vI x, vI y, vI k])) (cs' := { c0 with mode := .panicking [{ v := .iface 194 (.agg #[vI x, vI y, vI k]), recovered := true }] } :: cs) hr (.inl (by simp [recoverD, hm])) ?_ rfl rfl rfl (by kernel_rfl)
  clear hr a; intro a hr
  refine wpS_of_wp ?_
  refine wp_block ?_
  refine sr ?_
  refine o1 hr (vB false) fun a hr => ?_
  refine ln ?_
  refine cond_ff hr (b := false) rfl ?_
  refine sr ?_
  refine oo [7, 8, 9] [.tuple #[.agg #[vI x, vI y, vI k], vB true], vB true, .agg #[vI x, vI y, vI k]] hr fun a hr => ?_
  refine ln ?_
  refine cond_tt hr (b := true) rfl ?_
  refine sr ?_
  refine onew (wn rfl) hr h nb (#[vI 0, vI 0, vI 0]) 194 fun b2 w a h hr => ?_
  refine stm (wn rfl) hr h 0 ([vI x, vI y, vI k]) (pts b2 (.cells #[vI x, vI y, vI k] 194)) fun w h => ?_
  refine ln ?_
  refine wp_region_lit ?_
  refine o1 hr (pA b2 0) fun a hr => ?_
  refine ldm (wn rfl) hr (.agg #[vI x, vI y, vI k]) (cs := [vI x, vI y, vI k]) (h.held 0 rfl) fun a hr => ?_
  replace h := h.m1
  refine stm (wn rfl) hr h 0 ([vI x, vI y, vI k]) (pts b (.cells #[vI x, vI y, vI k] 95)) fun w h => ?_
  refine wpList_nil ?_
  refine blk_normal ?_
  exact ⟨hr.defers, _, rfl, _, results_none rfl _ _ _, rfl, rfl, h.se 2 [0]⟩
theorem chk_ret {w : World} {b : Nat} :
    CallsD Tryz.prog 113 #[.pointer (some ⟨b, 0, none⟩)] .returning w fun e u' w' => e = .returned (.tuple #[]) ∧ u' = .returning ∧ w' = w := by
  refine enterS Tryz.func113 rfl 12 rfl rfl [(0, pA b 0)] ⟨rfl, trivial⟩ ?_
  intro c0 cs j a hm hr
  refine s_rec (v := .nilIface) (cs' := c0 :: cs) hr (.inr ⟨by simp [recoverD, hm], rfl, rfl⟩) ?_ rfl rfl rfl (by kernel_rfl)
  clear hr a; intro a hr
  refine wpS_of_wp ?_
  refine wp_block ?_
  refine sr ?_
  refine o1 hr (vB true) fun a hr => ?_
  refine ln ?_
  refine cond_tt hr (b := true) rfl ?_
  refine wp_region_lit ?_
  refine o1 hr (.nilIface) fun a hr => ?_
  refine wpList_nil ?_
  refine blk_normal ?_
  refine ⟨hr.defers, c0.mode, rfl, _, results_none rfl _ _ _, rfl, hm, rfl⟩
section
variable {P : Program} {w z : World} {a : Act} {n : Nat} {e : Nat → Value} {Df : List Deferred} {L : List HProp}
theorem resC {fn : Func} {t T b off : Nat} {cs : List Value} (hres : fn.results = #[.cell t T]) (hr : RepD Df n e a) (hv : e t = .pointer (some ⟨b, off, none⟩)) (hu : isAggB (P.underlying T) = true)
    (hs : (P.info? T).map (·.size) = some cs.length) (hc : heldC w b off cs) : (results fn a.tmps).run P w = .ok (.agg cs.toArray) w := by
  have hl := run_loadCells_list (P := P) w ⟨b, off, none⟩ cs (heldC_get hc)
  cases hi : P.info? T with
  | none => simp [hi] at hs
  | some q =>
    simp [hi] at hs
    have hg := hr.get t
    rw [hv, Array.getD_eq_getD_getElem?] at hg
    simp [results, hres, hg, asAddr, loadVar, run_isAgg_yes hu, sizeOf, typeInfo, hi, hs, hl]
/-- What is deferred: the closure over the block b. -/
abbrev qChk (b : Nat) : Deferred := { target := .fn (.func 113) #[.pointer (some ⟨b, 0, none⟩)], args := #[] }
theorem chk_inv {b : Nat} {w : World} : (invoke (.fn (.func 113) #[.pointer (some ⟨b, 0, none⟩)]) #[]).run Tryz.prog w = .ok (.enter 113 #[.pointer (some ⟨b, 0, none⟩)]) w := by kernel_rfl
theorem endChk_ret {fn : Func} {R : Ending → World → Prop} {b t : Nat} {x y k : Int} (hr : RepD [qChk b] n e a) (hres : fn.results = #[.cell t 95]) (hv : e t = .pointer (some ⟨b, 0, none⟩)) (h : Fit z (sepL (pts b (.cells #[vI x, vI y, vI k] 95) :: L)) w)
    (K : R (.returned (.agg #[vI x, vI y, vI k])) w) : bodyPostD Tryz.prog fn R .ret a w := by
  show Leaves Tryz.prog fn a.tmps R a.defers .returning w
  rw [hr.defers]
  refine leaves_cons (by simp) chk_inv ?_
  refine chk_ret.mono ?_
  rintro e u' w' ⟨rfl, rfl, rfl⟩
  exact ⟨_, resC hres hr hv (by kernel_rfl) (by kernel_rfl) (h.held 0 (xs := [vI x, vI y, vI k]) rfl), K⟩
theorem endChk_pan {fn : Func} {R : Ending → World → Prop} {b t : Nat} {x y k x0 y0 k0 : Int} (hr : RepD [qChk b] n e a) (hres : fn.results = #[.cell t 95]) (hv : e t = .pointer (some ⟨b, 0, none⟩)) (h : Fit z (sepL (pts b (.cells #[vI x0, vI y0, vI k0] 95) :: L)) w)
    (K : ∀ w, Fit z (sepL (pts b (.cells #[vI x, vI y, vI k] 95) :: L)) w → R (.returned (.agg #[vI x, vI y, vI k])) w) : bodyPostD Tryz.prog fn R (.panic [{ v := .iface 194 (.agg #[vI x, vI y, vI k]), recovered := false }]) a w := by
  show Leaves Tryz.prog fn a.tmps R a.defers (.panicking [{ v := .iface 194 (.agg #[vI x, vI y, vI k]), recovered := false }]) w
  rw [hr.defers]
  refine leaves_cons (by simp) chk_inv ?_
  refine (chk_pan h).mono ?_
  rintro e u' w' ⟨rfl, rfl, h⟩
  exact ⟨_, resC hres hr hv (by kernel_rfl) (by kernel_rfl) (h.held 0 (xs := [vI x, vI y, vI k]) rfl), K _ h⟩
end
end Go.Proofs.YtpikpffbcjpmcaaGreatDoor.GX
