/- Short forms of the rules, for long texts. -/
import Derived.Test.YtacgigkonoegiaaN
namespace Go.Proofs.Ytacgigkonoegiaa.GX
open Go Go.RowKit Go.Proofs.Ytacgigkonoegiaa.SL
set_option linter.unusedVariables false
abbrev vI (x : Int) : Value := .int .i64 x
abbrev vB (x : Bool) : Value := .bool x
abbrev pN : Value := .pointer none
abbrev pA (b off : Nat) : Value := .pointer (some ⟨b, off, none⟩)
section
variable {P : Program} {ops : Array Oper} {Q : Exit → Act → World → Prop} {a : Act} {w w0 w1 : World} {rest : List Oper} {o : Oper} {n d t T : Nat} {v u : Value} {l : List (Nat × Value)} {j e : Nat → Value} {L : List HProp} {Df : List Deferred}
theorem wgt {i : Nat} {b x c r : Bool} (hr : RepD Df n e a) (pf : x = c) (hg : o.guard = some (i, b) := by rfl) (hi : (ops[i]?).bind (·.dst) = some t := by rfl) (ht : Nat.blt t n = true := by rfl) (he : e t = .bool x := by kernel_rfl) (hc : (c == b) = r := by rfl) :
    Region.wanted o (yielded ops a.tmps) = r := by
  subst pf hc; exact wg hr hg hi ht he
theorem offg (hw : Region.wanted o (yielded ops a.tmps) = false) (hr : RepD Df n (lk l j) a) (k : ∀ a, RepD Df n (lk ((d, undef) :: l) j) a → wpList P ops Q rest a w) (hd : o.dst = some d := by rfl) (hn : Nat.blt d n = true := by rfl) : wpList P ops Q (o :: rest) a w := op_off hw hd hn hr k
theorem opv (hw : Region.wanted o (yielded ops a.tmps) = true) (hr : RepD Df n (lk l j) a) (v : Value) (hrun : (execOp (evE (lk l j)) o).run P w = .ok (.value v) w) (k : ∀ a, RepD Df n (lk ((d, v) :: l) j) a → wpList P ops Q rest a w) (hd : o.dst = some d := by rfl) (hn : Nat.blt d n = true := by rfl) : wpList P ops Q (o :: rest) a w := op_val hw hd hn hr hrun k
theorem ld {x : Operand} {ad : Addr} (hw : Region.wanted o (yielded ops a.tmps) = true) (hr : RepD Df n (lk l j) a) (v : Value) (hc : w.cell? ad = some v) (k : ∀ a, RepD Df n (lk ((d, v) :: l) j) a → wpList P ops Q rest a w)
    (hd : o.dst = some d := by rfl) (hn : Nat.blt d n = true := by rfl) (ho : o.op = .load T x := by rfl) (hx : evE (lk l j) x = .pointer (some ad) := by kernel_rfl) (hu : notAgg (P.underlying T) = true := by kernel_rfl) : wpList P ops Q (o :: rest) a w := op_val hw hd hn hr (rl ho hx hu hc) k
theorem ldm {x : Operand} {b off : Nat} {cs : List Value} (hw : Region.wanted o (yielded ops a.tmps) = true) (hr : RepD Df n (lk l j) a) (v : Value) (hc : heldC w b off cs) (k : ∀ a, RepD Df n (lk ((d, v) :: l) j) a → wpList P ops Q rest a w) (hv : .agg cs.toArray = v := by rfl)
    (hd : o.dst = some d := by rfl) (hn : Nat.blt d n = true := by rfl) (ho : o.op = .load T x := by rfl) (hx : evE (lk l j) x = .pointer (some ⟨b, off, none⟩) := by kernel_rfl) (hu : isAggB (P.underlying T) = true := by kernel_rfl) (hs : (P.info? T).map (·.size) = some cs.length := by kernel_rfl) : wpList P ops Q (o :: rest) a w := by
  subst hv; exact op_val hw hd hn hr (rlm ho hx hu hs hc) k
theorem _root_.Go.Proofs.Ytacgigkonoegiaa.SL.Fit.held {z : World} {b : Nat} {cs : Array Value} {t : TypeId} {q : Nat × Nat} (h : Fit z (sepL (pts b (.cells cs t q) :: L)) w) (off : Nat) {xs : List Value} (hx : (cs.toList.drop off).take xs.length = xs) : heldC w b off xs := by
  have hg : ∀ k u, xs[k]? = some u → w.cell? ⟨b, off + k, none⟩ = some u := by
    intro k u hk
    refine h.cell (off + k) ?_
    rw [← hx, List.getElem?_take] at hk
    split at hk
    · rw [List.getElem?_drop] at hk; simpa using hk
    · cases hk
  clear hx
  induction xs generalizing off with
  | nil => trivial
  | cons x xs ih =>
    refine ⟨hg 0 x rfl, ih (off + 1) fun k u hk => ?_⟩
    have := hg (k + 1) u (by simpa using hk)
    rw [show off + 1 + k = off + (k + 1) by omega]; exact this
theorem sr {rid : Nat} {y : Code} {os : List Oper} (h : wpList P os.toArray (Exit.then (y.wp P Q) Q) os a w) : (Code.seq (.region rid os.toArray false) y).wp P Q a w := wp_seq (wp_region_lit h)
theorem ln {K : Act → World → Prop} (h : K a w) : wpList P ops (Exit.then K Q) [] a w := wpList_nil (then_normal h)
end
end Go.Proofs.Ytacgigkonoegiaa.GX
