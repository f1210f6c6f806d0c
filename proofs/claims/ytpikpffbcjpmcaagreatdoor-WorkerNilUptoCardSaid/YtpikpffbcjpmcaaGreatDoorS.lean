/- Short forms of the rules, for long texts. -/
import Derived.Test.YtpikpffbcjpmcaaGreatDoorN
namespace Go.Proofs.YtpikpffbcjpmcaaGreatDoor.GX
open Go Go.RowKit Go.Proofs.YtpikpffbcjpmcaaGreatDoor.SL
set_option linter.unusedVariables false
abbrev vI (x : Int) : Value := .int .i64 x
abbrev vB (x : Bool) : Value := .bool x
abbrev pN : Value := .pointer none
abbrev pA (b off : Nat) : Value := .pointer (some ⟨b, off, none⟩)
section
variable {P : Program} {ops : Array Oper} {Q : Exit → Act → World → Prop} {a : Act} {w w0 w1 : World} {rest : List Oper} {o : Oper} {n d t T : Nat} {v u : Value} {l : List (Nat × Value)} {j e : Nat → Value} {L : List HProp} {Df : List Deferred}
theorem wgt {i : Nat} {b x c r : Bool} (hr : RepD Df n e a) (pf : x = c) (hg : o.guard = some (i, b) := by rfl) (hi : (ops[i]?).bind (·.dst) = some t := by rfl) (ht : Nat.blt t n = true := by rfl) (he : e t = .bool x := by kernel_rfl) (hc : (c == b) = r := by rfl) :
    Region.wanted o (yielded ops a.tmps) = r := by
  subst pf hc; exact wg hr hg hi ht he
theorem offg (hw : Region.wanted o (yielded ops a.tmps) = false) (hr : RepD Df n (lk l j) a) (k : ∀ a, RepD Df n (lk ((d, undef) :: l) j) a → wpList P ops Q rest a w) (hd : o.dst = some d := by rfl) (hn : Nat.blt d n = true := by rfl) : wpList P ops Q (o :: rest) a w := op_off hw hd hn hr k
theorem opv (hw : Region.wanted o (yielded ops a.tmps) = true) (hr : RepD Df n (lk l j) a) (v : Value) (hrun : (execOp (evE (lk l j)) o).run P w = .ok (.value v) w) (k : ∀ a, RepD Df n (lk ((d, v) :: l) j) a → wpList P ops Q rest a w) (hd : o.dst = some d := by rfl) (hn : Nat.blt d n = true := by rfl) : wpList P ops Q (o :: rest) a w := op_val hw hd hn hr hrun k
theorem ld {x : Operand} {ad : Addr} (hw : Region.wanted o (yielded ops a.tmps) = true) (hr : RepD Df n (lk l j) a) (v : Value) (hc : w.cell? ad = some v) (k : ∀ a, RepD Df n (lk ((d, v) :: l) j) a → wpList P ops Q rest a w)
    (hd : o.dst = some d := by rfl) (hn : Nat.blt d n = true := by rfl) (ho : o.op = .load T x := by rfl) (hx : evE (lk l j) x = .pointer (some ad) := by kernel_rfl) (hu : notAgg (P.underlying T) = true := by kernel_rfl) : wpList P ops Q (o :: rest) a w := op_val hw hd hn hr (rl ho hx hu hc) k
theorem ldm {x : Operand} {b off : Nat} {cs : List Value} (hw : Region.wanted o (yielded ops a.tmps) = true) (hr : RepD Df n (lk l j) a) (v : Value) (hc : heldC w b off cs) (k : ∀ a, RepD Df n (lk ((d, v) :: l) j) a → wpList P ops Q rest a w) (hv : .agg cs.toArray = v := by rfl)
    (hd : o.dst = some d := by rfl) (hn : Nat.blt d n = true := by rfl) (ho : o.op = .load T x := by rfl) (hx : evE (lk l j) x = .pointer (some ⟨b, off, none⟩) := by kernel_rfl) (hu : isAggB (P.underlying T) = true := by kernel_rfl) (hs : (P.info? T).map (·.size) = some cs.length := by kernel_rfl) : wpList P ops Q (o :: rest) a w := by
  subst hv; exact op_val hw hd hn hr (rlm ho hx hu hs hc) k
theorem _root_.Go.Proofs.YtpikpffbcjpmcaaGreatDoor.SL.Fit.held {z : World} {b : Nat} {cs : Array Value} {t : TypeId} {q : Nat × Nat} (h : Fit z (sepL (pts b (.cells cs t q) :: L)) w) (off : Nat) {xs : List Value} (hx : (cs.toList.drop off).take xs.length = xs) : heldC w b off xs := by
  have hg : ∀ k u, xs[k]? = some u → w.cell? ⟨b, off + k, none⟩ = some u := by
    intro k u hk
    refine h.cell (off + k) ?_
    rw [← hx, List.getElem?_take] at hk
    split at hk
    · rw [List.getElem?_drop] at hk; simpa using hk
    · cases hk
  clear hx
  induction xs generalizing off with
  | nil => trivial
  | cons x xs ih =>
    refine ⟨hg 0 x rfl, ih (off + 1) fun k u hk => ?_⟩
    have := hg (k + 1) u (by simpa using hk)
    rw [show off + 1 + k = off + (k + 1) by omega]; exact this
theorem sr {rid : Nat} {y : Code} {os : List Oper} (h : wpList P os.toArray (Exit.then (y.wp P Q) Q) os a w) : (Code.seq (.region rid os.toArray false) y).wp P Q a w := wp_seq (wp_region_lit h)
theorem evs {D : World → Prop} {E : List Nat} {listed : Array Bool} [hp : PI Q] (fuel i : Nat) (hi : ops[i]? = some o) (hw : Region.wanted o (yielded ops a.tmps) = true) (hr : RepD Df n (lk l j) a) (v : Value)
    (k : ∀ a, RepD Df n (lk ((d, v) :: l) j) a → wpAnyE P .any ops Q D E fuel (listed.setIfInBounds i true) a w) (hB : okB ops E listed i = true := by kernel_rfl)
    (hrun : ∀ w, (execOp (evE (lk l j)) o).run P w = .ok (.value v) w := by intro w; kernel_rfl) (hd : o.dst = some d := by rfl) (hn : Nat.blt d n = true := by rfl) :
    wpAnyE P .any ops Q D E (fuel + 1) listed a w := ev fuel i hi hB hw hr v hrun k hd hn
theorem eos {D : World → Prop} {E : List Nat} {listed : Array Bool} [hp : PI Q] (fuel i : Nat) (hi : ops[i]? = some o) (hw : Region.wanted o (yielded ops a.tmps) = false) (hr : RepD Df n (lk l j) a)
    (k : ∀ a, RepD Df n (lk ((d, undef) :: l) j) a → wpAnyE P .any ops Q D E fuel (listed.setIfInBounds i true) a w) (hB : okB ops E listed i = true := by kernel_rfl) (hd : o.dst = some d := by rfl) (hn : Nat.blt d n = true := by rfl) :
    wpAnyE P .any ops Q D E (fuel + 1) listed a w := eo fuel i hi hB hw hr k hd hn
abbrev nb (b : Nat) : Value := pA b 0
theorem o1 (hr : RepD Df n (lk l j) a) (v : Value) (k : ∀ a, RepD Df n (lk ((d, v) :: l) j) a → wpList P ops Q rest a w) (hrun : (execOp (evE (lk l j)) o).run P w = .ok (.value v) w := by kernel_rfl) (hg : o.guard = none := by rfl) (hd : o.dst = some d := by rfl) (hn : Nat.blt d n = true := by rfl) : wpList P ops Q (o :: rest) a w := ov hr v hrun k hg hd hn
theorem oo (ds : List Nat) (vs : List Value) {os : List Oper} (hr : RepD Df n (lk l j) a) (k : ∀ a, RepD Df n (lk (addD ds vs l) j) a → wpList P ops Q (os.drop ds.length) a w) (hl : ds.length = vs.length ∧ ds.all (fun d => Nat.blt d n) = true := by exact ⟨rfl, rfl⟩) (hrun : runsR P (os.take ds.length) vs l j w = wantR ds vs w := by kernel_rfl) : wpList P ops Q os a w := ovs ds vs hr hl hrun k
theorem cl {f : FuncId} {args : Array Value} {R : Ending → World → Prop} (hw : Region.wanted o (yielded ops a.tmps) = true) (hr : RepD Df n (lk l j) a) (hc : Calls P f args w R)
    (k : ∀ e w1, R e w1 → ∃ v, e = .returned v ∧ ∀ a, RepD Df n (lk ((d, v) :: l) j) a → wpList P ops Q rest a w1) (hrun : (execOp (evE (lk l j)) o).run P w = .ok (.enter f args) w := by kernel_rfl) (hd : o.dst = some d := by rfl) (hn : Nat.blt d n = true := by rfl) : wpList P ops Q (o :: rest) a w := op_call hw hd hn hr hrun hc k
theorem onew (hw : Region.wanted o (yielded ops a.tmps) = true) (hr : RepD Df n (lk l j) a) (hF : Fit w0 (sepL L) w) (vf : Nat → Value) (cs : Array Value) (T : TypeId)
    (k : ∀ b w1 a, Fit w0 (sepL (pts b (.cells cs T) :: L)) w1 → RepD Df n (lk ((d, vf b) :: l) j) a → wpList P ops Q rest a w1) (hrun : (execOp (evE (lk l j)) o).run P w = .ok (.value (vf w.heap.size)) (w.alloc (.cells cs T)) := by kernel_rfl) (hd : o.dst = some d := by rfl) (hn : Nat.blt d n = true := by rfl) : wpList P ops Q (o :: rest) a w := op_new hw hd hn hr hF hrun k
theorem sto {x y : Operand} {b : Nat} {cs : Array Value} {T' : TypeId} (hw : Region.wanted o (yielded ops a.tmps) = true) (hr : RepD Df n (lk l j) a) (hF : Fit w0 (sepL (pts b (.cells cs T') :: L)) w) (i : Nat) (v : Value)
    (k : ∀ w1, Fit w0 (sepL (pts b (.cells (cs.setIfInBounds i v) T') :: L)) w1 → wpList P ops Q rest a w1) (hd : o.dst = none := by rfl) (ho : o.op = .store T x y := by rfl) (hx : evE (lk l j) x = .pointer (some ⟨b, i, none⟩) := by kernel_rfl) (hy : evE (lk l j) y = v := by kernel_rfl)
    (hv : v.cells = #[v] := by rfl) (h1 : v.oneCell' = true := by rfl) (hs : (P.info? T).map (·.size) = some 1 := by kernel_rfl) (hc : cs[i]? = some u := by rfl) : wpList P ops Q (o :: rest) a w := op_store hw hd hr ho hx hy hv h1 hs hF hc k
theorem stos {x y : Operand} {b : Nat} {cs : Array Value} {T' : TypeId} (hw : Region.wanted o (yielded ops a.tmps) = true) (hr : RepD Df n (lk l j) a) (hF : Fit w0 (sepL (pts b (.cells cs T') :: L)) w) (i : Nat) (vs : List Value) (cs' : Array Value)
    (k : ∀ w1, Fit w0 (sepL (pts b (.cells cs' T') :: L)) w1 → wpList P ops Q rest a w1) (hd : o.dst = none := by rfl) (ho : o.op = .store T x y := by rfl) (hx : evE (lk l j) x = .pointer (some ⟨b, i, none⟩) := by kernel_rfl) (hy : evE (lk l j) y = .agg vs.toArray := by kernel_rfl)
    (h1 : vs.all (·.oneCell') = true := by rfl) (hfit : Nat.ble (i + vs.length) cs.size = true := by rfl) (hs : (P.info? T).map (·.size) = some vs.length := by kernel_rfl) (hcs : (cs.toList.take i ++ vs ++ cs.toList.drop (i + vs.length)).toArray = cs' := by rfl) : wpList P ops Q (o :: rest) a w := op_stores hw hd hr ho hx hy h1 hfit hs hF hcs k
theorem stor {α : Type} {E : TypeId} {sz n0 cc : Nat} {enc : α → List Value} {xs : List α} {ca : Option Addr} {x y : Operand} (hw : Region.wanted o (yielded ops a.tmps) = true) (hr : RepD Df n (lk l j) a) (he : Enc enc sz) (hF : Fit w0 (sepL (rowOf E sz enc (.slice ca n0 cc) xs :: L)) w) (i f : Nat) (v : Value) (p q : α) (hp : xs[i]? = some p)
    (k : ∀ w1, Fit w0 (sepL (rowOf E sz enc (.slice ca n0 cc) (xs.set i q) :: L)) w1 → wpList P ops Q rest a w1) (hd : o.dst = none := by rfl) (ho : o.op = .store T x y := by rfl) (hx : evE (lk l j) x = .pointer (some ⟨blk ca, i * sz + f, none⟩) := by kernel_rfl) (hy : evE (lk l j) y = v := by kernel_rfl)
    (hv : v.cells = #[v] := by rfl) (h1 : v.oneCell' = true := by rfl) (hs : (P.info? T).map (·.size) = some 1 := by kernel_rfl) (hf : f < sz := by decide) (hq : enc q = (enc p).set f v := by rfl) : wpList P ops Q (o :: rest) a w := op_store_row hw hd hr ho hx hy hv h1 hs he hF hp hf hq k
theorem evDs {D : World → Prop} {E : List Nat} {listed : Array Bool} [hp : PI Q] (hgo : ∀ w w', CellsGo w w' → D w → D w') (hDw : D w) (fuel i : Nat) (hi : ops[i]? = some o) (hw : Region.wanted o (yielded ops a.tmps) = true) (hr : RepD Df n (lk l j) a) (v : Value)
    (k : ∀ a, RepD Df n (lk ((d, v) :: l) j) a → wpAnyE P .any ops Q D E fuel (listed.setIfInBounds i true) a w) (hB : okP ops E listed i = true := by kernel_rfl)
    (hrun : ∀ w, (execOp (evE (lk l j)) o).run P w = .ok (.value v) w := by intro w; kernel_rfl) (hd : o.dst = some d := by rfl) (hn : Nat.blt d n = true := by rfl) :
    wpAnyE P .any ops Q D E (fuel + 1) listed a w := evD hgo hDw fuel i hi hB hw hr v hrun k hd hn
theorem ln {K : Act → World → Prop} (h : K a w) : wpList P ops (Exit.then K Q) [] a w := wpList_nil (then_normal h)
end
end Go.Proofs.YtpikpffbcjpmcaaGreatDoor.GX
