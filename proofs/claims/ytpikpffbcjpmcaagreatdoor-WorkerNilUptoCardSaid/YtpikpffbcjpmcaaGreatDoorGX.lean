/- Rules for walking the operations of a function one by one: the slots are told by a list, the heap by parts. No program is named here. -/
import Derived.Test.YtpikpffbcjpmcaaGreatDoorRow
import Derived.StillTail
import Derived.Deep.Quiet
import Derived.KernelRfl
import Derived.IntWalk
namespace Go.Proofs.YtpikpffbcjpmcaaGreatDoor.GX
open Go Go.RowKit Go.Proofs.YtpikpffbcjpmcaaGreatDoor.SL

/-- What the slots hold: the list first, then the rest. -/
def lk : List (Nat × Value) → (Nat → Value) → Nat → Value
  | [], j, t => j t
  | (k, v) :: r, j, t => bif Nat.beq t k then v else lk r j t
def evE (e : Nat → Value) : Operand → Value
  | .tmp t => e t
  | .const v => v
  | .global g => .pointer (some ⟨g, 0, none⟩)
  | .func f => .func (.func f) #[] #[]
structure RepD (D : List Deferred) (n : Nat) (e : Nat → Value) (a : Act) : Prop where
  size : a.tmps.size = n
  get : ∀ t, a.tmps.getD t undef = e t
  defers : a.defers = D
abbrev Rep (n : Nat) (e : Nat → Value) (a : Act) : Prop := RepD [] n e a

section
variable {P : Program} {ops : Array Oper} {Q : Exit → Act → World → Prop} {a : Act} {w w0 w1 : World} {rest : List Oper} {o : Oper} {n d t : Nat} {v : Value} {l : List (Nat × Value)} {j e : Nat → Value} {L : List HProp} {H : HProp} {Df : List Deferred}
theorem RepD.eval (h : RepD Df n e a) : a.eval = evE e := by
  funext x
  cases x with
  | tmp t => exact h.get t
  | _ => rfl
theorem RepD.put (h : RepD Df n (lk l j) a) (d : Nat) (v : Value) (hd : Nat.blt d n = true) : RepD Df n (lk ((d, v) :: l) j) (a.put (some d) v) := by
  have hd' : d < a.tmps.size := by rw [h.size]; exact Nat.le_of_ble_eq_true hd
  refine ⟨by simp [Act.put, h.size], fun t => ?_, h.defers⟩
  show (a.tmps.setIfInBounds d v).getD t undef = bif Nat.beq t d then v else lk l j t
  rw [← h.get t]
  by_cases e : t = d
  · subst e
    simp [Array.getD_eq_getD_getElem?, hd']
  · have hb : Nat.beq t d = false := by
      cases hb : Nat.beq t d with
      | false => rfl
      | true => exact absurd (Nat.eq_of_beq_eq_true hb) e
    rw [hb]
    simp [Array.getD_eq_getD_getElem?, Array.getElem?_setIfInBounds_ne (Ne.symm e)]
def allEq (e : Nat → Value) : List (Nat × Value) → Prop
  | [] => True
  | (t, v) :: r => e t = v ∧ allEq e r
theorem lk_of_allEq : ∀ {l : List (Nat × Value)}, allEq e l → lk l e = e
  | [], _ => rfl
  | (k, v) :: r, h => by
    funext t
    show (bif Nat.beq t k then v else lk r e t) = e t
    rw [lk_of_allEq h.2]
    cases hb : Nat.beq t k with
    | false => rfl
    | true => have := Nat.eq_of_beq_eq_true hb; subst this; exact h.1.symm
/-- Only these slots are kept in mind. -/
theorem RepD.fold (h : RepD Df n e a) (l : List (Nat × Value)) (hl : allEq e l) : ∃ j, RepD Df n (lk l j) a := ⟨e, by rw [lk_of_allEq hl]; exact h⟩

theorem wn (h : o.guard = none) : Region.wanted o (yielded ops a.tmps) = true := by simp [Region.wanted, h]
theorem wg {i : Nat} {b b' : Bool} (hr : RepD Df n e a) (hg : o.guard = some (i, b)) (hi : (ops[i]?).bind (·.dst) = some t) (ht : Nat.blt t n = true) (he : e t = .bool b') :
    Region.wanted o (yielded ops a.tmps) = (b' == b) := by
  have ht' : t < a.tmps.size := by rw [hr.size]; exact Nat.le_of_ble_eq_true ht
  have hg2 : a.tmps[t]? = some (.bool b') := by
    have := hr.get t
    rw [he, Array.getD_eq_getD_getElem?, Array.getElem?_eq_getElem ht'] at this
    rw [Array.getElem?_eq_getElem ht']
    simpa using this
  simp only [Region.wanted, hg, yielded, hi, Option.bind_some, hg2]
  cases b' <;> cases b <;> rfl

theorem step_on (hw : Region.wanted o (yielded ops a.tmps) = true) (h : o.wp P a w (wpList P ops Q rest) Q) : wpList P ops Q (o :: rest) a w := by
  unfold wpList
  rw [if_pos hw]
  exact .inl h
/-- An operation that yields a value, the world as it was. -/
theorem op_val (hw : Region.wanted o (yielded ops a.tmps) = true) (hd : o.dst = some d) (hn : Nat.blt d n = true) (hr : RepD Df n (lk l j) a)
    (hrun : (execOp (evE (lk l j)) o).run P w = .ok (.value v) w) (k : ∀ a, RepD Df n (lk ((d, v) :: l) j) a → wpList P ops Q rest a w) : wpList P ops Q (o :: rest) a w := by
  refine step_on hw ?_
  unfold Oper.wp
  rw [hr.eval, hrun, Oper.upon_value, hd]
  exact k _ (hr.put d v hn)
/-- .. the world turned. -/
theorem op_valw (hw : Region.wanted o (yielded ops a.tmps) = true) (hd : o.dst = some d) (hn : Nat.blt d n = true) (hr : RepD Df n (lk l j) a)
    (hrun : (execOp (evE (lk l j)) o).run P w = .ok (.value v) w1) (k : ∀ a, RepD Df n (lk ((d, v) :: l) j) a → wpList P ops Q rest a w1) : wpList P ops Q (o :: rest) a w := by
  refine step_on hw ?_
  unfold Oper.wp
  rw [hr.eval, hrun, Oper.upon_value, hd]
  exact k _ (hr.put d v hn)
theorem op_skip (hw : Region.wanted o (yielded ops a.tmps) = true) (hd : o.dst = none) (hr : RepD Df n (lk l j) a)
    (hrun : (execOp (evE (lk l j)) o).run P w = .ok .skip w1) (k : wpList P ops Q rest a w1) : wpList P ops Q (o :: rest) a w := by
  refine step_on hw ?_
  unfold Oper.wp
  rw [hr.eval, hrun, Oper.upon_skip, hd]
  exact k
/-- A guarded operation that is passed over. -/
theorem op_off (hw : Region.wanted o (yielded ops a.tmps) = false) (hd : o.dst = some d) (hn : Nat.blt d n = true) (hr : RepD Df n (lk l j) a)
    (k : ∀ a, RepD Df n (lk ((d, undef) :: l) j) a → wpList P ops Q rest a w) : wpList P ops Q (o :: rest) a w := by
  unfold wpList
  rw [if_neg (by rw [hw]; decide), hd]
  exact k _ (hr.put d undef hn)
/-- A block is made. -/
theorem op_new {cs : Array Value} {T : TypeId} {vf : Nat → Value} (hw : Region.wanted o (yielded ops a.tmps) = true) (hd : o.dst = some d) (hn : Nat.blt d n = true) (hr : RepD Df n (lk l j) a) (hF : Fit w0 (sepL L) w)
    (hrun : (execOp (evE (lk l j)) o).run P w = .ok (.value (vf w.heap.size)) (w.alloc (.cells cs T)))
    (k : ∀ b w1 a, Fit w0 (sepL (pts b (.cells cs T) :: L)) w1 → RepD Df n (lk ((d, vf b) :: l) j) a → wpList P ops Q rest a w1) : wpList P ops Q (o :: rest) a w :=
  op_valw hw hd hn hr hrun fun _ hr' => k _ _ _ (hF.alloc _) hr'
/-- A call, by its contract. -/
theorem op_call {f : FuncId} {args : Array Value} {R : Ending → World → Prop} (hw : Region.wanted o (yielded ops a.tmps) = true) (hd : o.dst = some d) (hn : Nat.blt d n = true) (hr : RepD Df n (lk l j) a)
    (hrun : (execOp (evE (lk l j)) o).run P w = .ok (.enter f args) w) (hc : Calls P f args w R)
    (k : ∀ e w1, R e w1 → ∃ v, e = .returned v ∧ ∀ a, RepD Df n (lk ((d, v) :: l) j) a → wpList P ops Q rest a w1) : wpList P ops Q (o :: rest) a w := by
  refine step_on hw ?_
  unfold Oper.wp
  rw [hr.eval, hrun, Oper.upon_enter, hd]
  refine hc.mono fun e w1 h => ?_
  obtain ⟨v, rfl, h2⟩ := k e w1 h
  exact h2 _ (hr.put d v hn)
/-- A call whose answer is not looked at. -/
theorem op_call0 {f : FuncId} {args : Array Value} {R : Ending → World → Prop} (hw : Region.wanted o (yielded ops a.tmps) = true) (hd : o.dst = none) (hr : RepD Df n (lk l j) a)
    (hrun : (execOp (evE (lk l j)) o).run P w = .ok (.enter f args) w) (hc : Calls P f args w R)
    (k : ∀ e w1, R e w1 → ∃ v, e = .returned v ∧ wpList P ops Q rest a w1) : wpList P ops Q (o :: rest) a w := by
  refine step_on hw ?_
  unfold Oper.wp
  rw [hr.eval, hrun, Oper.upon_enter, hd]
  refine hc.mono fun e w1 h => ?_
  obtain ⟨v, rfl, h2⟩ := k e w1 h
  exact h2

/-! ### regions that draw their order -/
theorem st_val (hw : Region.wanted o (yielded ops a.tmps) = true) {K : Act → Prop} (hd : o.dst = some d) (hn : Nat.blt d n = true) (hr : RepD Df n (lk l j) a)
    (hrun : (execOp (evE (lk l j)) o).run P w = .ok (.value v) w) (k : ∀ a, RepD Df n (lk ((d, v) :: l) j) a → wpStill P ops w K rest a) : wpStill P ops w K (o :: rest) a := by
  unfold wpStill
  rw [if_pos hw]
  unfold Oper.still
  rw [hr.eval, hrun, Oper.stillUpon_value, hd]
  exact k _ (hr.put d v hn)
theorem st_off (hw : Region.wanted o (yielded ops a.tmps) = false) {K : Act → Prop} (hd : o.dst = some d) (hn : Nat.blt d n = true) (hr : RepD Df n (lk l j) a)
    (k : ∀ a, RepD Df n (lk ((d, undef) :: l) j) a → wpStill P ops w K rest a) : wpStill P ops w K (o :: rest) a := by
  unfold wpStill
  rw [if_neg (by rw [hw]; decide), hd]
  exact k _ (hr.put d undef hn)
/-- Reads, then a tail in one forced order. -/
theorem reg_tail {id : Nat} {lo : List Oper} (m : Nat) (hF : Fit w0 H w) (hm : P.follows .mixedOrders = true) (hB : Region.lexTailB .any lo.toArray m = true)
    (k : ∀ w, Fit w0 H w → wpStill P lo.toArray w (fun a => wpList P lo.toArray Q (lo.drop m) a w) (lo.take m) a) : (Code.region id lo.toArray true).wp P Q a w :=
  wp_region_still_tail m hm hB (k _ hF.drew)
def QC (w0 : World) (H : HProp) : World → Prop := fun w => Fit w0 H w
/-- Reads and quiet calls alone. -/
theorem reg_quiet {id : Nat} {lo : List Oper} (hF : Fit w0 H w) (hm : P.follows .mixedOrders = true) (hB : Region.lexB .any lo.toArray = true)
    (k : wpQuiet P lo.toArray (QC w0 H) (fun a => ∀ w, Fit w0 H w → Q .normal a w) lo a) : (Code.region id lo.toArray true).wp P Q a w :=
  wp_region_quiet (C := QC w0 H) hm hB hF.drew k
theorem qt_val (hw : Region.wanted o (yielded ops a.tmps) = true) {K : Act → Prop} (hd : o.dst = some d) (hn : Nat.blt d n = true) (hr : RepD Df n (lk l j) a)
    (hrun : ∀ w, Fit w0 H w → (execOp (evE (lk l j)) o).run P w = .ok (.value v) w) (k : ∀ a, RepD Df n (lk ((d, v) :: l) j) a → wpQuiet P ops (QC w0 H) K rest a) : wpQuiet P ops (QC w0 H) K (o :: rest) a := by
  unfold wpQuiet
  rw [if_pos hw]
  refine ⟨v, fun w hC => ?_, ?_⟩
  · unfold Oper.quietAt
    rw [hr.eval, hrun w hC]
    exact ⟨rfl, rfl⟩
  · rw [hd]; exact k _ (hr.put d v hn)
theorem qt_off (hw : Region.wanted o (yielded ops a.tmps) = false) {K : Act → Prop} (hd : o.dst = some d) (hn : Nat.blt d n = true) (hr : RepD Df n (lk l j) a)
    (k : ∀ a, RepD Df n (lk ((d, undef) :: l) j) a → wpQuiet P ops (QC w0 H) K rest a) : wpQuiet P ops (QC w0 H) K (o :: rest) a := by
  unfold wpQuiet
  rw [if_neg (by rw [hw]; decide), hd]
  exact k _ (hr.put d undef hn)
theorem qt_call {f : FuncId} {args : Array Value} (hw : Region.wanted o (yielded ops a.tmps) = true) {K : Act → Prop} (hd : o.dst = some d) (hn : Nat.blt d n = true) (hr : RepD Df n (lk l j) a)
    (hrun : ∀ w, Fit w0 H w → (execOp (evE (lk l j)) o).run P w = .ok (.enter f args) w) (hc : ∀ w, Fit w0 H w → Calls P f args w fun e w1 => e = .returned v ∧ Fit w0 H w1)
    (k : ∀ a, RepD Df n (lk ((d, v) :: l) j) a → wpQuiet P ops (QC w0 H) K rest a) : wpQuiet P ops (QC w0 H) K (o :: rest) a := by
  unfold wpQuiet
  rw [if_pos hw]
  refine ⟨v, fun w hC => ?_, ?_⟩
  · unfold Oper.quietAt
    rw [hr.eval, hrun w hC]
    exact ⟨rfl, hc w hC⟩
  · rw [hd]; exact k _ (hr.put d v hn)

/-! ### what single operations yield -/
/-- A number told otherwise. -/
theorem ra {k : IntKind} {m z : Int} {s : Sem Next} {w w' : World} (h : s.run P w = .ok (.value (.int k m)) w') (hz : m = z) : s.run P w = .ok (.value (.int k z)) w' := hz ▸ h
theorem rb {b c : Bool} {s : Sem Next} {w w' : World} (h : s.run P w = .ok (.value (.bool b)) w') (hz : b = c) : s.run P w = .ok (.value (.bool c)) w' := hz ▸ h
theorem rv {u v : Value} {s : Sem Next} {w w' : World} (h : s.run P w = .ok (.value u) w') (hz : u = v) : s.run P w = .ok (.value v) w' := hz ▸ h
theorem i64_in (x : Int) (h : -9223372036854775808 ≤ x ∧ x ≤ 9223372036854775807) : IntKind.i64.wrap x = x := IntWalk.i64_in _ h
def notAgg : Option TypeDesc → Bool
  | some (.struct _) => false
  | some (.array _ _) => false
  | some _ => true
  | none => false
theorem run_isAgg_no {t : TypeId} (h : notAgg (P.underlying t) = true) : (isAgg t).run P w = .ok false w := by
  cases hu : P.underlying t with
  | none => rw [hu] at h; cases h
  | some D =>
    rw [hu] at h
    simp only [isAgg, Sem.run_bind, run_underlying hu, Result.andThen_ok]
    cases D <;> first | rfl | cases h
/-- A load of one cell. -/
theorem rl {x : Operand} {ad : Addr} (ho : o.op = .load t x) (hx : evE e x = .pointer (some ad)) (hu : notAgg (P.underlying t) = true) (hc : w.cell? ad = some v) :
    (execOp (evE e) o).run P w = .ok (.value v) w := by
  unfold execOp
  simp only [ho, Instr.loadAt, hx, Instr.sureAddr, loadVar, Sem.run_bind, Sem.run_pure, Result.andThen_ok, run_isAgg_no hu]
  simp [go_sem, hc]
/-- A store of one cell. -/
theorem rs {x y : Operand} {ad : Addr} {u : Value} (ho : o.op = .store t x y) (hx : evE e x = .pointer (some ad)) (hy : evE e y = v) (hv : v.cells = #[v]) (h1 : v.oneCell' = true) (hs : (P.info? t).map (·.size) = some 1) (hc : w.cell? ad = some u) (hf : w.frozen? ad = false) :
    (execOp (evE e) o).run P w = .ok .skip (w.setCell ad v) := by
  have hst : (Instr.storeAt t (.pointer (some ad)) v).run P w = .ok () (w.setCell ad v) := by
    cases hi : P.info? t with
    | none => simp [hi] at hs
    | some i =>
      simp [hi] at hs
      have ha : ad.add 0 = ad := by unfold Addr.add; rw [if_pos rfl]
      simp only [Instr.storeAt, Instr.sureAddr, storeVar, Sem.run_bind, Sem.run_pure, Result.andThen_ok, sizeOf, typeInfo, hv, run_program, hi]
      simp [storeCells, ha, hs, run_store P w ad v _ h1, hc, hf]
  unfold execOp
  simp only [ho, hx, hy, Sem.run_bind, hst, Result.andThen_ok, Sem.run_pure]
/-- pick, the choice known. -/
theorem rp_t {c x y : Operand} {b : Bool} (ho : o.op = .pick c x y) (hc : evE e c = .bool b) (hb : b = true) (hx : evE e x = v) : (execOp (evE e) o).run P w = .ok (.value v) w := by
  subst hb; subst hx
  unfold execOp
  simp [ho, hc, asBool]
theorem rp_f {c x y : Operand} {b : Bool} (ho : o.op = .pick c x y) (hc : evE e c = .bool b) (hb : b = false) (hx : evE e y = v) : (execOp (evE e) o).run P w = .ok (.value v) w := by
  subst hb; subst hx
  unfold execOp
  simp [ho, hc, asBool]
/-- The address of an element. -/
theorem ri {x y : Operand} {g off len cap : Nat} {k : IntKind} {i : Int} {E : TypeId} {sz : Nat} (ho : o.op = .indexAddr t x y) (hx : evE e x = .slice (some ⟨g, off, none⟩) len cap) (hy : evE e y = .int k i)
    (ht : P.underlying t = some (.slice E)) (hs : (P.info? E).map (·.size) = some sz) (h0 : 0 ≤ i) (h1 : i < len) : (execOp (evE e) o).run P w = .ok (.value (.pointer (some ⟨g, off + i.toNat * sz, none⟩))) w := by
  unfold execOp
  simp only [ho, hx, hy]
  cases hi : P.info? E with
  | none => simp [hi] at hs
  | some q =>
    simp [hi] at hs
    simp [Instr.indexAt, run_underlying ht, asIntOf, h0, h1, sizeOf, typeInfo, hi, hs, Addr.add_lit]

/-- .. of a row's element. -/
theorem ri0 {x y : Operand} {g len cap : Nat} {k : IntKind} {i : Int} {E : TypeId} {sz : Nat} (ho : o.op = .indexAddr t x y) (hx : evE e x = .slice (some ⟨g, 0, none⟩) len cap) (hy : evE e y = .int k i)
    (ht : P.underlying t = some (.slice E)) (hs : (P.info? E).map (·.size) = some sz) (h0 : 0 ≤ i) (h1 : i < len) : (execOp (evE e) o).run P w = .ok (.value (.pointer (some ⟨g, i.toNat * sz, none⟩))) w := by
  have := ri (w := w) ho hx hy ht hs h0 h1
  rwa [Nat.zero_add] at this

theorem ri0e {x y : Operand} {g len cap : Nat} {ca : Option Addr} {k : IntKind} {i : Int} {E : TypeId} {sz : Nat} (hca : ca = some ⟨g, 0, none⟩) (ho : o.op = .indexAddr t x y) (hx : evE e x = .slice ca len cap) (hy : evE e y = .int k i)
    (ht : P.underlying t = some (.slice E)) (hs : (P.info? E).map (·.size) = some sz) (h0 : 0 ≤ i) (h1 : i < len) : (execOp (evE e) o).run P w = .ok (.value (.pointer (some ⟨g, i.toNat * sz, none⟩))) w :=
  ri0 ho (hca ▸ hx) hy ht hs h0 h1
theorem rie {x y : Operand} {g off len cap : Nat} {ca : Option Addr} {k : IntKind} {i : Int} {E : TypeId} {sz : Nat} (hca : ca = some ⟨g, off, none⟩) (ho : o.op = .indexAddr t x y) (hx : evE e x = .slice ca len cap) (hy : evE e y = .int k i)
    (ht : P.underlying t = some (.slice E)) (hs : (P.info? E).map (·.size) = some sz) (h0 : 0 ≤ i) (h1 : i < len) : (execOp (evE e) o).run P w = .ok (.value (.pointer (some ⟨g, off + i.toNat * sz, none⟩))) w :=
  ri ho (hca ▸ hx) hy ht hs h0 h1
/-- A slice that came in: its elements lie in cells of W. -/
def ArgS {α : Type} (W : World) (enc : α → List Value) (sz b o : Nat) (l : List α) : Prop := ∀ i x f u, l[i]? = some x → (enc x)[f]? = some u → W.cell? ⟨b, o + i * sz + f, none⟩ = some u
def ArgV {α : Type} (W : World) (enc : α → List Value) (sz : Nat) (va : Option Addr) (l : List α) : Prop := 0 < l.length → ∃ b o, va = some ⟨b, o, none⟩ ∧ ArgS W enc sz b o l

/-- % and / by a number that is not 0. -/
theorem rrem {x y : Operand} {k : IntKind} {p q : Int} {T T' : TypeId} (ho : o.op = .binOp .rem T x y T') (hx : evE e x = .int k p) (hy : evE e y = .int k q) (hq : q ≠ 0) : (execOp (evE e) o).run P w = .ok (.value (.int k (p.tmod q))) w := by
  unfold execOp
  simp [ho, hx, hy, eqGuard, binOp, Op.intDiv, hq]
theorem rquo {x y : Operand} {k : IntKind} {p q : Int} {T T' : TypeId} (ho : o.op = .binOp .quo T x y T') (hx : evE e x = .int k p) (hy : evE e y = .int k q) (hq : q ≠ 0) : (execOp (evE e) o).run P w = .ok (.value (.int k (k.wrap (p.tdiv q)))) w := by
  unfold execOp
  simp [ho, hx, hy, eqGuard, binOp, Op.intDiv, hq]
theorem tmod_bd (x n : Int) (hn : 0 < n) : -n < x.tmod n ∧ x.tmod n < n := by
  have h1 := Int.tmod_lt_of_pos x hn
  have h2 := Int.lt_tmod_of_pos x hn
  exact ⟨by omega, h1⟩
theorem mod_go (x n : Int) (hn : 0 < n) : (if x.tmod n < 0 then x.tmod n + n else x.tmod n) = x % n := by
  have h1 := Int.tmod_eq_emod (a := x) (b := n)
  have h3 := Int.emod_nonneg x (show n ≠ 0 by omega)
  have h4 := Int.emod_lt_of_pos x hn
  have h5 : ((n.natAbs : Nat) : Int) = n := by omega
  split at h1 <;> split <;> omega

/-! ### control -/
theorem then_normal {K : Act → World → Prop} (h : K a w) : Exit.then K Q .normal a w := h
theorem then_ret {K : Act → World → Prop} (h : Q .ret a w) : Exit.then K Q .ret a w := h
theorem then_exit {K : Act → World → Prop} {i : Nat} (h : Q (.exit i) a w) : Exit.then K Q (.exit i) a w := h
theorem blk_normal {i : Nat} (h : Q .normal a w) : Exit.inBlock i Q .normal a w := h
theorem blk_ret {i : Nat} (h : Q .ret a w) : Exit.inBlock i Q .ret a w := h
theorem blk_here {i : Nat} (h : Q .normal a w) : Exit.inBlock i Q (.exit i) a w := by show (if i = i then _ else _); rw [if_pos rfl]; exact h
theorem blk_other {i i' : Nat} (hne : i' ≠ i) (h : Q (.exit i') a w) : Exit.inBlock i Q (.exit i') a w := by show (if i' = i then _ else _); rw [if_neg hne]; exact h
theorem cond_t {c : Operand} {x y : Code} {b : Bool} (hr : RepD Df n e a) (hc : evE e c = .bool b) (hb : b = true) (h : x.wp P Q a w) : (Code.cond c x y).wp P Q a w :=
  wp_cond_true (by rw [hr.eval, hc, hb]) h
theorem cond_f {c : Operand} {x y : Code} {b : Bool} (hr : RepD Df n e a) (hc : evE e c = .bool b) (hb : b = false) (h : y.wp P Q a w) : (Code.cond c x y).wp P Q a w :=
  wp_cond_false (by rw [hr.eval, hc, hb]) h
/-- A loop, by what holds at each round's head. -/
theorem loop_rule {β : Type} {c : Code} (μ : β → Nat) (I : β → Act → World → Prop) (x0 : β) (h0 : I x0 a w)
    (round : ∀ x a w, I x a w → c.wp P (Exit.then (fun a w => ∃ x', I x' a w ∧ μ x' < μ x) Q) a w) : (Code.loop c).wp P Q a w := by
  have key : ∀ m x a w, μ x = m → I x a w → ∀ b k cs, ∃ e a' w', Q e a' w' ∧ Arrives P (lone (b.at a (.code c :: .inLoop c :: k)) cs w) b k cs e a' w' := by
    intro m
    induction m using Nat.strongRecOn with
    | _ m ih =>
      intro x a w hm hI b k cs
      obtain ⟨e, a1, w1, hq, harr⟩ := round x a w hI b (.inLoop c :: k) cs
      cases e with
      | normal =>
        obtain ⟨x', hI', hlt⟩ := hq
        obtain ⟨e2, a2, w2, hq2, harr2⟩ := ih (μ x') (hm ▸ hlt) x' a1 w1 rfl hI' b k cs
        exact ⟨e2, a2, w2, hq2, .of_steps (Steps.trans harr (.one step_inLoop)) harr2⟩
      | exit id => exact ⟨_, a1, w1, hq, .pass (x := .inLoop c) rfl (fun _ _ => .inl (by simp)) harr⟩
      | goto l => exact ⟨_, a1, w1, hq, .pass (x := .inLoop c) rfl (fun _ _ => .inl (by simp)) harr⟩
      | ret => exact ⟨_, a1, w1, hq, .pass (x := .inLoop c) rfl (fun _ _ => .inl (by simp)) harr⟩
      | panic ch => exact ⟨_, a1, w1, hq, .pass (x := .inLoop c) rfl (fun _ _ => .inl (by simp)) harr⟩
      | outgrown => exact ⟨_, a1, w1, hq, .pass (x := .inLoop c) rfl (fun _ _ => .inl (by simp)) harr⟩
  intro b k cs
  obtain ⟨e, a', w', hq, harr⟩ := key _ x0 a w rfl h0 b k cs
  exact ⟨e, a', w', hq, .of_steps (.one step_loop) harr⟩
/-- The ways meet again. -/
theorem cut_rule {β : Type} {x y : Code} (I : β → Act → World → Prop) (h : x.wp P (Exit.then (fun a w => ∃ g, I g a w) Q) a w) (k : ∀ g a w, I g a w → y.wp P Q a w) : (Code.seq x y).wp P Q a w :=
  wp_seq (Code.wp_mono (fun e a w q => by
    cases e with
    | normal => obtain ⟨g, hg⟩ := q; exact k g a w hg
    | _ => exact q) h)

theorem getD_app (args : Array Value) (m t : Nat) : (args ++ Array.replicate m undef).getD t undef = args.getD t undef := by
  simp only [Array.getD_eq_getD_getElem?, Array.getElem?_append, Array.getElem?_replicate]
  by_cases h : t < args.size
  · rw [if_pos h]
  · rw [if_neg h, Array.getElem?_eq_none (by omega)]
    split <;> rfl
/-- Into a function. -/
theorem enter {f : FuncId} {fn : Func} {c : Code} {args : Array Value} {R : Ending → World → Prop} (hf : P.funcs[f]? = some fn) (hb : fn.body = some c) (n : Nat) (hn : fn.ntmps = n) (hs : Nat.ble args.size n = true)
    (l : List (Nat × Value)) (hl : allEq (fun t => args.getD t undef) l) (k : ∀ j a, Rep n (lk l j) a → c.wp P (bodyPost P fn R) a w) : Calls P f args w R := by
  refine calls_of_wp hf hb (k (fun t => args.getD t undef) _ ?_)
  rw [lk_of_allEq hl]
  refine ⟨?_, fun t => getD_app args _ t, rfl⟩
  have := Nat.le_of_ble_eq_true hs
  simp [hn]
  omega
theorem end_ret1 {fn : Func} {R : Ending → World → Prop} {t : Nat} (hres : fn.results = #[.tmp t]) (hr : Rep n e a) (hv : e t = v) (h : R (.returned v) w) : bodyPost P fn R .ret a w :=
  bodyPost_ret (by rw [results_tmp hres, hr.get, hv]) hr.defers h
theorem end_ret2 {fn : Func} {R : Ending → World → Prop} {t t' : Nat} {v' : Value} (hres : fn.results = #[.tmp t, .tmp t']) (hr : Rep n e a) (hv : e t = v) (hv' : e t' = v') (h : R (.returned (.tuple #[v, v'])) w) : bodyPost P fn R .ret a w :=
  bodyPost_ret (by rw [results_tmp2 hres, hr.get, hr.get, hv, hv']) hr.defers h
theorem end_ret0 {fn : Func} {R : Ending → World → Prop} (hres : fn.results = #[]) (hr : Rep n e a) (h : R (.returned (.tuple #[])) w) : bodyPost P fn R .ret a w :=
  bodyPost_ret (results_none hres _ _ _) hr.defers h
theorem end_norm0 {fn : Func} {R : Ending → World → Prop} (hres : fn.results = #[]) (hr : Rep n e a) (h : R (.returned (.tuple #[])) w) : bodyPost P fn R .normal a w :=
  bodyPost_end (results_none hres _ _ _) hr.defers h
end
end Go.Proofs.YtpikpffbcjpmcaaGreatDoor.GX
