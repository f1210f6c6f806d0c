/- More rules for the walk: stores into named blocks and rows, append. No program is named here. -/
import Derived.Test.YtpikpffbcjpmcaaGreatDoorGX
namespace Go.Proofs.YtpikpffbcjpmcaaGreatDoor.GX
open Go Go.RowKit Go.Proofs.YtpikpffbcjpmcaaGreatDoor.SL

def at_ {α : Type} [Inhabited α] (l : List α) (i : Nat) : α := l.getD i default
theorem get_at {α : Type} [Inhabited α] {l : List α} {i : Nat} (h : i < l.length) : l[i]? = some (at_ l i) := by
  unfold at_; rw [List.getD_eq_getElem?_getD, List.getElem?_eq_getElem h]; rfl
theorem at_set_same {α : Type} [Inhabited α] {l : List α} {i : Nat} {x : α} (h : i < l.length) : at_ (l.set i x) i = x := by
  unfold at_; rw [List.getD_eq_getElem?_getD, List.getElem?_set_self h]; rfl
theorem at_set_ne {α : Type} [Inhabited α] {l : List α} {i k : Nat} {x : α} (h : i ≠ k) : at_ (l.set i x) k = at_ l k := by
  unfold at_; rw [List.getD_eq_getElem?_getD, List.getElem?_set_ne h, List.getD_eq_getElem?_getD]
theorem at_append_left {α : Type} [Inhabited α] {l m : List α} {i : Nat} (h : i < l.length) : at_ (l ++ m) i = at_ l i := by
  unfold at_; rw [List.getD_eq_getElem?_getD, List.getElem?_append_left h, List.getD_eq_getElem?_getD]
theorem at_append_right {α : Type} [Inhabited α] {l m : List α} {i : Nat} (h : l.length ≤ i) : at_ (l ++ m) i = at_ m (i - l.length) := by
  unfold at_; rw [List.getD_eq_getElem?_getD, List.getElem?_append_right h, List.getD_eq_getElem?_getD]

theorem get_set {α : Type} {l : List α} {i : Nat} {x : α} (h : i < l.length) : (l.set i x)[i]? = some x := List.getElem?_set_self h

def heldC (w : World) (b : Nat) : Nat → List Value → Prop
  | _, [] => True
  | off, v :: r => w.cell? ⟨b, off, none⟩ = some v ∧ heldC w b (off + 1) r
theorem heldC_get {w : World} {b : Nat} : ∀ {cs : List Value} {off : Nat}, heldC w b off cs → ∀ j v, cs[j]? = some v → w.cell? ((⟨b, off, none⟩ : Addr).add j) = some v
  | [], _, _, j, v, h => by simp at h
  | u :: r, off, hh, j, v, h => by
    cases j with
    | zero => simp at h; subst h; rw [Addr.add_lit]; exact hh.1
    | succ j =>
      have := heldC_get hh.2 j v (by simpa using h)
      rw [Addr.add_lit] at this ⊢
      rw [show off + (j + 1) = off + 1 + j by omega]
      exact this

section
variable {P : Program} {ops : Array Oper} {Q : Exit → Act → World → Prop} {a : Act} {w w0 w1 : World} {rest : List Oper} {o : Oper} {n d t : Nat} {v : Value} {l : List (Nat × Value)} {j e : Nat → Value} {L : List HProp} {H : HProp} {Df : List Deferred}
def isAggB : Option TypeDesc → Bool
  | some (.struct _) => true
  | some (.array _ _) => true
  | _ => false
theorem run_isAgg_yes {t : TypeId} (h : isAggB (P.underlying t) = true) : (isAgg t).run P w = .ok true w := by
  cases hu : P.underlying t with
  | none => rw [hu] at h; cases h
  | some D =>
    rw [hu] at h
    simp only [isAgg, Sem.run_bind, run_underlying hu, Result.andThen_ok]
    cases D <;> first | rfl | cases h
/-- A load of a struct or an array. -/
theorem rlm {x : Operand} {b off : Nat} {cs : List Value} (ho : o.op = .load t x) (hx : evE e x = .pointer (some ⟨b, off, none⟩)) (hu : isAggB (P.underlying t) = true)
    (hs : (P.info? t).map (·.size) = some cs.length) (hc : heldC w b off cs) : (execOp (evE e) o).run P w = .ok (.value (.agg cs.toArray)) w := by
  have hl := run_loadCells_list (P := P) w ⟨b, off, none⟩ cs (heldC_get hc)
  unfold execOp
  cases hi : P.info? t with
  | none => simp [hi] at hs
  | some q =>
    simp [hi] at hs
    simp only [ho, Instr.loadAt, hx, Instr.sureAddr, loadVar, Sem.run_bind, Sem.run_pure, Result.andThen_ok, run_isAgg_yes hu, if_true, sizeOf, typeInfo, run_program, hi, hs, hl]

theorem end_retC {fn : Func} {R : Ending → World → Prop} {t T b off : Nat} {cs : List Value} (hres : fn.results = #[.cell t T]) (hr : Rep n e a) (hv : e t = .pointer (some ⟨b, off, none⟩)) (hu : isAggB (P.underlying T) = true)
    (hs : (P.info? T).map (·.size) = some cs.length) (hc : heldC w b off cs) (h : R (.returned (.agg cs.toArray)) w) : bodyPost P fn R .ret a w := by
  have hl := run_loadCells_list (P := P) w ⟨b, off, none⟩ cs (heldC_get hc)
  refine bodyPost_ret ?_ hr.defers h
  cases hi : P.info? T with
  | none => simp [hi] at hs
  | some q =>
    simp [hi] at hs
    have hg := hr.get t
    rw [hv, Array.getD_eq_getD_getElem?] at hg
    simp [results, hres, hg, asAddr, loadVar, run_isAgg_yes hu, sizeOf, typeInfo, hi, hs, hl]
theorem end_retCT {fn : Func} {R : Ending → World → Prop} {t T b off u : Nat} {cs : List Value} (hres : fn.results = #[.cell t T, .tmp u]) (hr : Rep n e a) (hv : e t = .pointer (some ⟨b, off, none⟩)) (hv' : e u = v) (hu : isAggB (P.underlying T) = true)
    (hs : (P.info? T).map (·.size) = some cs.length) (hc : heldC w b off cs) (h : R (.returned (.tuple #[.agg cs.toArray, v])) w) : bodyPost P fn R .ret a w := by
  have hl := run_loadCells_list (P := P) w ⟨b, off, none⟩ cs (heldC_get hc)
  refine bodyPost_ret ?_ hr.defers h
  cases hi : P.info? T with
  | none => simp [hi] at hs
  | some q =>
    simp [hi] at hs
    have hg := hr.get t
    rw [hv, Array.getD_eq_getD_getElem?] at hg
    have hg' := hr.get u
    rw [hv', Array.getD_eq_getD_getElem?] at hg'
    simp [results, hres, hg, hg', asAddr, loadVar, run_isAgg_yes hu, sizeOf, typeInfo, hi, hs, hl]

/-- A store of one cell into a named block. -/
theorem op_store {x y : Operand} {b i : Nat} {cs : Array Value} {T : TypeId} {u : Value} (hw : Region.wanted o (yielded ops a.tmps) = true) (hd : o.dst = none) (hr : RepD Df n (lk l j) a) (ho : o.op = .store t x y)
    (hx : evE (lk l j) x = .pointer (some ⟨b, i, none⟩)) (hy : evE (lk l j) y = v) (hv : v.cells = #[v]) (h1 : v.oneCell' = true) (hs : (P.info? t).map (·.size) = some 1)
    (hF : Fit w0 (sepL (pts b (.cells cs T) :: L)) w) (hc : cs[i]? = some u) (k : ∀ w1, Fit w0 (sepL (pts b (.cells (cs.setIfInBounds i v) T) :: L)) w1 → wpList P ops Q rest a w1) : wpList P ops Q (o :: rest) a w :=
  op_skip hw hd hr (rs ho hx hy hv h1 hs (hF.cell i hc) (hF.free i)) (k _ (hF.set i v))

/-- .. of several cells. -/
theorem op_stores {x y : Operand} {b : Nat} {cs cs' : Array Value} {T : TypeId} {vs : List Value} (hw : Region.wanted o (yielded ops a.tmps) = true) (hd : o.dst = none) (hr : RepD Df n (lk l j) a) (ho : o.op = .store t x y)
    {i : Nat} (hx : evE (lk l j) x = .pointer (some ⟨b, i, none⟩)) (hy : evE (lk l j) y = .agg vs.toArray) (h1 : vs.all (·.oneCell') = true) (hfit : Nat.ble (i + vs.length) cs.size = true) (hs : (P.info? t).map (·.size) = some vs.length)
    (hF : Fit w0 (sepL (pts b (.cells cs T) :: L)) w) (hcs : (cs.toList.take i ++ vs ++ cs.toList.drop (i + vs.length)).toArray = cs') (k : ∀ w1, Fit w0 (sepL (pts b (.cells cs' T) :: L)) w1 → wpList P ops Q rest a w1) : wpList P ops Q (o :: rest) a w := by
  have hst := run_storeCells_at P b i T vs 0 cs w hF.block (by simpa using Nat.le_of_ble_eq_true hfit) (by simpa using h1)
  simp only [Nat.add_zero, hcs] at hst
  refine op_skip (w1 := w.setRow b cs') hw hd hr ?_ (k _ ?_)
  · unfold execOp
    cases hi : P.info? t with
    | none => simp [hi] at hs
    | some q =>
      simp [hi] at hs
      simp only [ho, hx, hy, Instr.storeAt, Instr.sureAddr, storeVar, Sem.run_bind, Sem.run_pure, Result.andThen_ok, sizeOf, typeInfo, run_program, hi, Value.cells]
      simp [hs, hst]
  · exact hF.turn (w' := w.setRow b cs') (setRow_heap w b cs cs' T (0, 0) hF.block) (fun k hk _ => setRow_other w b k _ hk) rfl rfl rfl (by simp)

section
variable {α : Type} {E : TypeId} {sz g cap : Nat} {enc : α → List Value} {xs : List α}

/-- A store of one cell into an element of a row. -/
theorem op_store_slc {x y : Operand} (hw : Region.wanted o (yielded ops a.tmps) = true) (hd : o.dst = none) (hr : RepD Df n (lk l j) a) (ho : o.op = .store t x y)
    {i f : Nat} (hx : evE (lk l j) x = .pointer (some ⟨g, i * sz + f, none⟩)) (hy : evE (lk l j) y = v) (hv : v.cells = #[v]) (h1 : v.oneCell' = true) (hs : (P.info? t).map (·.size) = some 1)
    (he : Enc enc sz) (hF : Fit w0 (sepL (slc E sz enc g cap xs :: L)) w) {p q : α} (hp : xs[i]? = some p) (hf : f < sz) (hq : enc q = (enc p).set f v)
    (k : ∀ w1, Fit w0 (sepL (slc E sz enc g cap (xs.set i q) :: L)) w1 → wpList P ops Q rest a w1) : wpList P ops Q (o :: rest) a w := by
  have hu : (enc p)[f]? = some (enc p)[f]! := by
    have : f < (enc p).length := by rw [he.len]; exact hf
    rw [List.getElem?_eq_getElem this, List.getElem!_eq_getElem?_getD, List.getElem?_eq_getElem this]
    rfl
  exact op_skip hw hd hr (rs ho hx hy hv h1 hs (hF.slc_get he i f p _ hp hu) (hF.slc_free _)) (k _ (hF.slc_set he i f p q v hp hf hq))

/-- .. of a whole element. -/
theorem op_stores_slc {x y : Operand} {vs : List Value} (hw : Region.wanted o (yielded ops a.tmps) = true) (hd : o.dst = none) (hr : RepD Df n (lk l j) a) (ho : o.op = .store t x y)
    {i : Nat} (hx : evE (lk l j) x = .pointer (some ⟨g, i * sz, none⟩)) (hy : evE (lk l j) y = .agg vs.toArray) (h1 : vs.all (·.oneCell') = true) (hs : (P.info? t).map (·.size) = some vs.length)
    (he : Enc enc sz) (hF : Fit w0 (sepL (slc E sz enc g cap xs :: L)) w) {q : α} (hi : i < xs.length) (hq : enc q = vs)
    (k : ∀ w1, Fit w0 (sepL (slc E sz enc g cap (xs.set i q) :: L)) w1 → wpList P ops Q rest a w1) : wpList P ops Q (o :: rest) a w := by
  obtain ⟨hl1, hl2⟩ := hF.slc_len
  obtain ⟨cur, hc1, hc2, hP⟩ := hF.slc_cells
  have hvl : vs.length = sz := by rw [← hq, he.len]
  have hle : i * sz + sz ≤ xs.length * sz := by
    have : (i + 1) * sz ≤ xs.length * sz := Nat.mul_le_mul_right _ hi
    rw [Nat.add_mul] at this
    omega
  have hle2 : xs.length * sz ≤ cap * sz := Nat.mul_le_mul_right _ hl1
  have hst := run_storeCells_at P g (i * sz) E vs 0 cur w hP.block (by rw [hvl]; omega) (by simpa using h1)
  simp only [Nat.add_zero] at hst
  refine op_skip (w1 := w.setRow g (cur.toList.take (i * sz) ++ vs ++ cur.toList.drop (i * sz + vs.length)).toArray) hw hd hr ?_ (k _ ?_)
  · unfold execOp
    cases hinf : P.info? t with
    | none => simp [hinf] at hs
    | some q =>
      simp [hinf] at hs
      simp only [ho, hx, hy, Instr.storeAt, Instr.sureAddr, storeVar, Sem.run_bind, Sem.run_pure, Result.andThen_ok, sizeOf, typeInfo, run_program, hinf, Value.cells]
      simp [hs, hst]
  · refine (hP.turn (w' := w.setRow g (cur.toList.take (i * sz) ++ vs ++ cur.toList.drop (i * sz + vs.length)).toArray) (setRow_heap w g cur _ E (0, 0) hP.block) (fun k hk _ => setRow_other w g k _ hk) rfl rfl rfl (by simp)).head fun z hz => ⟨by simpa using hl1, hl2, _, ?_, ?_, hz⟩
    · simp only [List.size_toArray, List.length_append, List.length_take, List.length_drop, Array.length_toList, hvl]
      omega
    · rw [List.length_set, he.set xs i q hi, hq, ← hc2]
      have hA : (cur.toList.take (i * sz)).length = i * sz := by rw [List.length_take, Array.length_toList]; omega
      have e1 : (cur.toList.take (i * sz) ++ vs ++ cur.toList.drop (i * sz + vs.length)).take (xs.length * sz) = cur.toList.take (i * sz) ++ vs ++ (cur.toList.drop (i * sz + vs.length)).take (xs.length * sz - (i * sz + sz)) := by
        rw [List.take_append, List.take_of_length_le (by rw [List.length_append, hA, hvl]; exact hle), List.length_append, hA, hvl]
      rw [List.toList_toArray, e1, List.take_take, Nat.min_eq_left (by omega), List.drop_take, hvl]

/-- append. -/
theorem op_append {ca : Option Addr} {n0 cc bytes : Nat} {s x : Operand} {ad : Addr} {m c : Nat} (hw : Region.wanted o (yielded ops a.tmps) = true) (hd : o.dst = some d) (hn : Nat.blt d n = true) (hr : RepD Df n (lk l j) a)
    (ho : o.op = .call { callee := .builtin .append, args := #[s, x], argTypes := #[t, t] }) (hs : evE (lk l j) s = .slice ca n0 cc) (hx : evE (lk l j) x = .slice (some ad) m c)
    (he : Enc enc sz) (hty : P.underlying t = some (.slice E)) (hinfo : (P.info? E).map (fun i => (i.size, i.bytes, i.zero.map (·.cells.size))) = some (sz, bytes, some sz))
    (hF : Fit w0 (sepL (rowOf E sz enc (.slice ca n0 cc) xs :: L)) w) {news : List α} (hm : news.length = m) (hnews : ∀ j u, (news.flatMap enc)[j]? = some u → w.cell? (ad.add j) = some u)
    (hb : (xs.length + m) * bytes ≤ 140737488355328) (hbp : Nat.blt 0 bytes = true)
    (k : ∀ ca cc w1 a, Fit w0 (sepL (rowOf E sz enc (.slice ca (xs ++ news).length cc) (xs ++ news) :: L)) w1 → RepD Df n (lk ((d, .slice ca (xs ++ news).length cc) :: l) j) a → wpList P ops Q rest a w1) : wpList P ops Q (o :: rest) a w := by
  have hn0 := hF.row_n
  subst hn0
  cases hi : P.info? E with
  | none => simp [hi] at hinfo
  | some i =>
    simp only [hi, Option.map_some, Option.some.injEq, Prod.mk.injEq] at hinfo
    obtain ⟨i1, i2, i3⟩ := hinfo
    cases hz : i.zero with
    | none => simp [hz] at i3
    | some zv =>
      simp only [hz, Option.map_some, Option.some.injEq] at i3
      have hbp' : 0 < bytes := Nat.le_of_ble_eq_true hbp
      have h63 : xs.length + m ≤ maxLen := by
        have : xs.length + m ≤ (xs.length + m) * bytes := Nat.le_mul_of_pos_right _ hbp'
        simp only [maxLen]; omega
      obtain ⟨v', w', hrun, hF'⟩ := run_append_fit (P := P) he t o.type i zv bytes hty hi hz i1 i2 i3 hF ad m c news hm hnews h63 hb
      obtain ⟨a', cap', e, _, _⟩ := hF'.row_val
      subst e
      refine op_valw hw hd hn hr ?_ (fun a hr => k a' cap' w' a hF' hr)
      unfold execOp
      simp only [ho, resolve, invoke, builtin, Sem.run_bind, Sem.run_pure, Result.andThen_ok, List.map_toArray, List.map_cons, List.map_nil, hs, hx, hrun]
end
end
end Go.Proofs.YtpikpffbcjpmcaaGreatDoor.GX
