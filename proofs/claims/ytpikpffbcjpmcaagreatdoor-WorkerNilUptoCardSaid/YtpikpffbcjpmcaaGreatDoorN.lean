/- Rows whose elements own rows of their own; full slices; arrays. No program is named here. -/
import Derived.Test.YtpikpffbcjpmcaaGreatDoorM
namespace Go.Proofs.YtpikpffbcjpmcaaGreatDoor.SL
open Go Go.RowKit
set_option linter.unusedVariables false

/-- The cells of one element. -/
structure CellN (sz : Nat) where
  cs : List Value
  len : cs.length = sz
  one : ∀ u ∈ cs, u.oneCell' = true
theorem CellN.ext' {sz : Nat} {a b : CellN sz} (h : a.cs = b.cs) : a = b := by cases a; cases b; simp at h; subst h; rfl
theorem encN_ok {sz : Nat} (h : 0 < sz) : Enc (CellN.cs (sz := sz)) sz := ⟨fun x => x.len, fun x => x.one, h⟩

/-- Each element owns what 'own' says of it and its cells. -/
def rowN {α : Type} (e : TypeId) (sz : Nat) (own : α → List Value → HProp) (v : Value) (l : List α) : HProp :=
  exs fun css : List (CellN sz) => sepL (pur (css.length = l.length) :: rowOf e sz CellN.cs v css :: List.zipWith (fun x c => own x c.cs) l css)
/-- .. the i-th element taken out. -/
def rowH {α : Type} (e : TypeId) (sz : Nat) (own : α → List Value → HProp) (v : Value) (l : List α) (i : Nat) (cs : List Value) : HProp :=
  exs fun css : List (CellN sz) => sepL (pur (css.length = l.length ∧ (css[i]?).map CellN.cs = some cs) :: rowOf e sz CellN.cs v css :: (List.zipWith (fun x c => own x c.cs) l css).eraseIdx i)

section
variable {w0 w : World} {L : List HProp} {α : Type} {e : TypeId} {sz n cc i : Nat} {own : α → List Value → HProp} {v : Value} {l : List α} {ca : Option Addr} {cs : List Value} {x y : α}
theorem Fit.rowN_op (h : Fit w0 (sepL (rowN e sz own v l :: L)) w) : ∃ css : List (CellN sz), css.length = l.length ∧ Fit w0 (sepL (rowOf e sz CellN.cs v css :: (List.zipWith (fun x c => own x c.cs) l css ++ L))) w := by
  obtain ⟨css, h⟩ := h.open_exs
  have h := h.open_sepL
  obtain ⟨hl, h⟩ := h.open_pur
  exact ⟨css, hl, h⟩
theorem Fit.rowN_sh {css : List (CellN sz)} (hl : css.length = l.length) (h : Fit w0 (sepL (rowOf e sz CellN.cs v css :: (List.zipWith (fun x c => own x c.cs) l css ++ L))) w) : Fit w0 (sepL (rowN e sz own v l :: L)) w := by
  refine Fit.shut_exs css ?_
  refine Fit.shut_sepL (pur (css.length = l.length) :: rowOf e sz CellN.cs v css :: List.zipWith (fun x c => own x c.cs) l css) L ?_
  exact h.shut_pur hl
theorem Fit.rowH_op (h : Fit w0 (sepL (rowH e sz own v l i cs :: L)) w) : ∃ css : List (CellN sz), css.length = l.length ∧ (css[i]?).map CellN.cs = some cs ∧ Fit w0 (sepL (rowOf e sz CellN.cs v css :: ((List.zipWith (fun x c => own x c.cs) l css).eraseIdx i ++ L))) w := by
  obtain ⟨css, h⟩ := h.open_exs
  have h := h.open_sepL
  obtain ⟨hl, h⟩ := h.open_pur
  exact ⟨css, hl.1, hl.2, h⟩
theorem Fit.rowH_sh {css : List (CellN sz)} (hl : css.length = l.length) (hi : (css[i]?).map CellN.cs = some cs) (h : Fit w0 (sepL (rowOf e sz CellN.cs v css :: ((List.zipWith (fun x c => own x c.cs) l css).eraseIdx i ++ L))) w) : Fit w0 (sepL (rowH e sz own v l i cs :: L)) w := by
  refine Fit.shut_exs css ?_
  refine Fit.shut_sepL (pur (css.length = l.length ∧ (css[i]?).map CellN.cs = some cs) :: rowOf e sz CellN.cs v css :: (List.zipWith (fun x c => own x c.cs) l css).eraseIdx i) L ?_
  exact h.shut_pur ⟨hl, hi⟩
theorem Fit.rowN_nil (h : Fit w0 (sepL L) w) : Fit w0 (sepL (rowN e sz own (.slice none 0 0) ([] : List α) :: L)) w :=
  Fit.rowN_sh (css := []) rfl (Fit.row_nil h)
theorem Fit.rowN_n (h : Fit w0 (sepL (rowN e sz own (.slice ca n cc) l :: L)) w) : n = l.length := by
  obtain ⟨css, hl, h⟩ := h.rowN_op
  rw [← hl]; exact h.row_n
theorem Fit.rowH_n (h : Fit w0 (sepL (rowH e sz own (.slice ca n cc) l i cs :: L)) w) : n = l.length := by
  obtain ⟨css, hl, _, h⟩ := h.rowH_op
  rw [← hl]; exact h.row_n
theorem Fit.rowN_len (h : Fit w0 (sepL (rowN e sz own v l :: L)) w) : l.length ≤ maxLen := by
  obtain ⟨css, hl, h⟩ := h.rowN_op
  rw [← hl]; exact h.row_len
/-- The i-th element is taken out. -/
theorem Fit.rowN_take (h : Fit w0 (sepL (rowN e sz own v l :: L)) w) (hi : l[i]? = some x) : ∃ cs, Fit w0 (sepL (rowH e sz own v l i cs :: own x cs :: L)) w := by
  obtain ⟨css, hl, h⟩ := h.rowN_op
  have hil : i < css.length := by rw [hl]; exact (List.getElem?_eq_some_iff.1 hi).1
  have hc : css[i]? = some css[i] := List.getElem?_eq_getElem hil
  refine ⟨css[i].cs, Fit.rowH_sh hl (by rw [hc]; rfl) ?_⟩
  have hz : (List.zipWith (fun x c => own x c.cs) l css)[i]? = some (own x css[i].cs) := by
    rw [List.getElem?_zipWith, hi, hc]
  have h2 : Fit w0 (sepL (List.zipWith (fun x c => own x c.cs) l css ++ (rowOf e sz CellN.cs v css :: L))) w := h.perm (by
    refine (List.perm_middle (l₁ := List.zipWith (fun x c => own x c.cs) l css) (a := rowOf e sz CellN.cs v css) (l₂ := L)).symm)
  have h3 := Fit.shut_sepL _ _ h2
  have h4 : Fit w0 (sepL (sepL (own x css[i].cs :: (List.zipWith (fun x c => own x c.cs) l css).eraseIdx i) :: rowOf e sz CellN.cs v css :: L)) w := by
    refine h3.head fun q hq => ?_
    have := sepL_pick i (List.zipWith (fun x c => own x c.cs) l css)
    unfold SL.pick at this
    rw [hz] at this
    show sepL _ q
    rw [this]; exact hq
  have h5 := h4.open_sepL
  refine h5.perm ?_
  simp only [List.cons_append]
  refine ((List.perm_middle (l₁ := (List.zipWith (fun x c => own x c.cs) l css).eraseIdx i) (a := rowOf e sz CellN.cs v css) (l₂ := L)).cons _).trans ?_
  refine (List.Perm.swap _ _ _).trans (List.Perm.cons _ ?_)
  exact (List.perm_middle (l₁ := (List.zipWith (fun x c => own x c.cs) l css).eraseIdx i) (a := own x css[i].cs) (l₂ := L)).symm
/-- .. and put back. -/
theorem Fit.rowH_put (hi : i < l.length) (h : Fit w0 (sepL (rowH e sz own v l i cs :: own y cs :: L)) w) : Fit w0 (sepL (rowN e sz own v (l.set i y) :: L)) w := by
  obtain ⟨css, hl, hc, h⟩ := h.rowH_op
  have hil : i < css.length := by rw [hl]; exact hi
  have hci : css[i]? = some css[i] := List.getElem?_eq_getElem hil
  rw [hci] at hc
  simp only [Option.map_some, Option.some.injEq] at hc
  refine Fit.rowN_sh (css := css) (by rw [List.length_set]; exact hl) ?_
  have hz : (List.zipWith (fun x c => own x c.cs) (l.set i y) css)[i]? = some (own y cs) := by
    rw [List.getElem?_zipWith, List.getElem?_set_self hi, hci, ← hc]
  have he : (List.zipWith (fun x c => own x c.cs) (l.set i y) css).eraseIdx i = (List.zipWith (fun x c => own x c.cs) l css).eraseIdx i := by
    have h1 : List.zipWith (fun x c => own x c.cs) (l.set i y) css = (List.zipWith (fun x c => own x c.cs) l css).set i (own y css[i].cs) := by
      apply List.ext_getElem?
      intro k
      rw [List.getElem?_zipWith]
      by_cases hk : i = k
      · subst hk
        rw [List.getElem?_set_self hi, hci, List.getElem?_set_self (by rw [List.length_zipWith]; omega)]
      · rw [List.getElem?_set_ne hk, List.getElem?_set_ne hk, List.getElem?_zipWith]
    rw [h1]
    apply List.ext_getElem?
    intro k
    rw [List.getElem?_eraseIdx, List.getElem?_eraseIdx]
    split
    · rw [List.getElem?_set_ne (by omega)]
    · rw [List.getElem?_set_ne (by omega)]
  have h2 : Fit w0 (sepL ((own y cs :: (List.zipWith (fun x c => own x c.cs) (l.set i y) css).eraseIdx i) ++ (rowOf e sz CellN.cs v css :: L))) w := by
    rw [he]
    refine h.perm ?_
    simp only [List.cons_append]
    refine (List.Perm.cons _ (List.perm_middle (l₁ := (List.zipWith (fun x c => own x c.cs) l css).eraseIdx i) (a := own y cs) (l₂ := L))).trans ?_
    refine (List.Perm.swap _ _ _).trans (List.Perm.cons _ ?_)
    exact (List.perm_middle (l₁ := (List.zipWith (fun x c => own x c.cs) l css).eraseIdx i) (a := rowOf e sz CellN.cs v css) (l₂ := L)).symm
  have h3 := Fit.shut_sepL _ _ h2
  have h4 : Fit w0 (sepL (sepL (List.zipWith (fun x c => own x c.cs) (l.set i y) css) :: rowOf e sz CellN.cs v css :: L)) w := by
    refine h3.head fun q hq => ?_
    have := sepL_pick i (List.zipWith (fun x c => own x c.cs) (l.set i y) css)
    unfold SL.pick at this
    rw [hz] at this
    rw [← this]; exact hq
  exact h4.open_sepL.perm (List.perm_middle (l₁ := List.zipWith (fun x c => own x c.cs) (l.set i y) css) (a := rowOf e sz CellN.cs v css) (l₂ := L))
theorem Fit.rowH_cell (h : Fit w0 (sepL (rowH e sz own (.slice ca n cc) l i cs :: L)) w) (hp : 0 < sz) {f : Nat} {u : Value} (hf : cs[f]? = some u) : w.cell? ⟨GX.blk ca, i * sz + f, none⟩ = some u := by
  obtain ⟨css, hl, hc, h⟩ := h.rowH_op
  cases hci : css[i]? with
  | none => rw [hci] at hc; simp at hc
  | some c =>
    rw [hci] at hc
    simp only [Option.map_some, Option.some.injEq] at hc
    exact h.row_cell (encN_ok hp) hci (by rw [hc]; exact hf)
theorem Fit.rowH_lt (h : Fit w0 (sepL (rowH e sz own v l i cs :: L)) w) : i < l.length := by
  obtain ⟨css, hl, hc, _⟩ := h.rowH_op
  cases hci : css[i]? with
  | none => rw [hci] at hc; simp at hc
  | some c => have := (List.getElem?_eq_some_iff.1 hci).1; omega
theorem Fit.rowH_back (h : Fit w0 (sepL (rowH e sz own v l i cs :: own y cs :: L)) w) : Fit w0 (sepL (rowN e sz own v (l.set i y) :: L)) w := h.rowH_put h.rowH_lt
theorem Fit.rowH_same [Inhabited α] (h : Fit w0 (sepL (rowH e sz own v l i cs :: own (GX.at_ l i) cs :: L)) w) : Fit w0 (sepL (rowN e sz own v l :: L)) w := by
  have hi := h.rowH_lt
  have h := h.rowH_back
  have e1 : l.set i (GX.at_ l i) = l := by
    apply List.ext_getElem?
    intro k
    by_cases hk : i = k
    · subst hk; rw [List.getElem?_set_self hi, GX.get_at hi]
    · rw [List.getElem?_set_ne hk]
  rw [e1] at h; exact h
/-- An element of which nothing is owned but its cells' values. -/
theorem Fit.rowN_addr (h : Fit w0 (sepL (rowN e sz own (.slice ca n cc) l :: L)) w) (hl : 0 < l.length) : ca = some ⟨GX.blk ca, 0, none⟩ := by
  obtain ⟨css, hl', h⟩ := h.rowN_op
  exact (h.row_addr (by omega)).1
theorem Fit.rowH_addr (h : Fit w0 (sepL (rowH e sz own (.slice ca n cc) l i cs :: L)) w) : ca = some ⟨GX.blk ca, 0, none⟩ := by
  obtain ⟨css, hl', hc, h⟩ := h.rowH_op
  have : 0 < css.length := by
    cases hci : css[i]? with
    | none => rw [hci] at hc; simp at hc
    | some c => have := (List.getElem?_eq_some_iff.1 hci).1; omega
  exact (h.row_addr this).1
/-- A named block as a row. -/
theorem Fit.pts_row {enc : α → List Value} {b : Nat} {cs : Array Value} {T : TypeId} (hl : l.length = n) (hc : cs.toList = l.flatMap enc) (he : Enc enc sz) (hm : n ≤ maxLen) (h : Fit w0 (sepL (pts b (.cells cs T) :: L)) w) :
    Fit w0 (sepL (rowOf T sz enc (.slice (some ⟨b, 0, none⟩) n n) l :: L)) w := by
  subst hl
  refine h.head fun z hz => .inr ⟨b, l.length, cs, rfl, Nat.le_refl _, hm, ?_, ?_, hz⟩
  · rw [← Array.length_toList, hc, he.flat]
  · rw [hc]; exact List.take_of_length_le (by rw [he.flat]; exact Nat.le_refl _)
end
end Go.Proofs.YtpikpffbcjpmcaaGreatDoor.SL
namespace Go.Proofs.YtpikpffbcjpmcaaGreatDoor.GX
open Go Go.RowKit Go.Proofs.YtpikpffbcjpmcaaGreatDoor.SL
set_option linter.unusedVariables false
section
variable {P : Program} {ops : Array Oper} {Q : Exit → Act → World → Prop} {a : Act} {w w0 w1 : World} {rest : List Oper} {o : Oper} {n d t : Nat} {v : Value} {l : List (Nat × Value)} {j e : Nat → Value} {L : List HProp} {H : HProp} {Df : List Deferred}
variable {α : Type} {E : TypeId} {sz n0 cc : Nat} {enc : α → List Value} {xs : List α} {ca : Option Addr} {own : α → List Value → HProp}

theorem ri_rowN {w' : World} {x y : Operand} {k : IntKind} {i : Int} (ho : o.op = .indexAddr t x y) (hx : evE e x = .slice ca n cc) (hy : evE e y = .int k i)
    (ht : P.underlying t = some (.slice E)) (hs : (P.info? E).map (·.size) = some sz) (hF : Fit w0 (sepL (rowN E sz own (.slice ca n cc) xs :: L)) w) (hi : inr_ i xs.length) : (execOp (evE e) o).run P w' = .ok (.value (.pointer (some ⟨blk ca, i.toNat * sz, none⟩))) w' := by
  have hn := hF.rowN_n
  have h0 := hi.1; have h1 := hi.2
  exact ri0e (hF.rowN_addr (by omega)) ho hx hy ht hs h0 (by omega)
theorem ri_rowH {w' : World} {x y : Operand} {k : IntKind} {i : Int} {i0 : Nat} {cs : List Value} (ho : o.op = .indexAddr t x y) (hx : evE e x = .slice ca n cc) (hy : evE e y = .int k i)
    (ht : P.underlying t = some (.slice E)) (hs : (P.info? E).map (·.size) = some sz) (hF : Fit w0 (sepL (rowH E sz own (.slice ca n cc) xs i0 cs :: L)) w) (hi : inr_ i xs.length) : (execOp (evE e) o).run P w' = .ok (.value (.pointer (some ⟨blk ca, i.toNat * sz, none⟩))) w' := by
  have hn := hF.rowH_n
  have h0 := hi.1; have h1 := hi.2
  exact ri0e hF.rowH_addr ho hx hy ht hs h0 (by omega)
/-- An array's element. -/
theorem ri_arr {x y : Operand} {k : IntKind} {i : Int} {b N : Nat} {w' : World} (ho : o.op = .indexAddr t x y) (hx : evE e x = .pointer (some ⟨b, 0, none⟩)) (hy : evE e y = .int k i)
    (ht : P.underlying t = some (.array N E)) (hs : (P.info? E).map (·.size) = some sz) (hN : xs.length = N) (hi : inr_ i xs.length) : (execOp (evE e) o).run P w' = .ok (.value (.pointer (some ⟨blk (some ⟨b, 0, none⟩), i.toNat * sz, none⟩))) w' := by
  unfold execOp
  have h0 := hi.1; have h1 := hi.2
  simp only [ho, hx, hy]
  subst hN
  cases hq : P.info? E with
  | none => simp [hq] at hs
  | some q =>
    simp [hq] at hs
    simp [Instr.indexAt, Instr.sureAddr, run_underlying ht, asIntOf, h0, h1, sizeOf, typeInfo, hq, hs, Addr.add_lit, blk]

/-- A store of one cell into the element that is out. -/
theorem op_store_rowH {x y : Operand} {i f : Nat} {cs : List Value} (hw : Region.wanted o (yielded ops a.tmps) = true) (hd : o.dst = none) (hr : RepD Df n (lk l j) a) (ho : o.op = .store t x y)
    (hx : evE (lk l j) x = .pointer (some ⟨blk ca, i * sz + f, none⟩)) (hy : evE (lk l j) y = v) (hv : v.cells = #[v]) (h1 : v.oneCell' = true) (hs : (P.info? t).map (·.size) = some 1) (hp : Nat.blt 0 sz = true)
    (hF : Fit w0 (sepL (rowH E sz own (.slice ca n0 cc) xs i cs :: L)) w) (hf : f < sz)
    (k : ∀ w1, Fit w0 (sepL (rowH E sz own (.slice ca n0 cc) xs i (cs.set f v) :: L)) w1 → wpList P ops Q rest a w1) : wpList P ops Q (o :: rest) a w := by
  obtain ⟨css, hl, hc, h⟩ := hF.rowH_op
  have hp' : 0 < sz := Nat.le_of_ble_eq_true hp
  cases hci : css[i]? with
  | none => rw [hci] at hc; simp at hc
  | some c =>
    rw [hci] at hc
    simp only [Option.map_some, Option.some.injEq] at hc
    have hlt : i < css.length := (List.getElem?_eq_some_iff.1 hci).1
    let q : CellN sz := ⟨c.cs.set f v, by rw [List.length_set]; exact c.len, fun u hu => by
      rcases List.mem_or_eq_of_mem_set hu with h | h
      · exact c.one u h
      · subst h; exact h1⟩
    refine op_store_row hw hd hr ho hx hy hv h1 hs (encN_ok hp') h (p := c) (q := q) hci hf rfl fun w1 h => k w1 ?_
    refine Fit.rowH_sh (css := css.set i q) (by rw [List.length_set]; exact hl) (by rw [List.getElem?_set_self hlt, ← hc]; rfl) ?_
    have he : (List.zipWith (fun x c => own x c.cs) xs (css.set i q)).eraseIdx i = (List.zipWith (fun x c => own x c.cs) xs css).eraseIdx i := by
      apply List.ext_getElem?
      intro k
      rw [List.getElem?_eraseIdx, List.getElem?_eraseIdx]
      split
      · rw [List.getElem?_zipWith, List.getElem?_zipWith, List.getElem?_set_ne (by omega)]
      · rw [List.getElem?_zipWith, List.getElem?_zipWith, List.getElem?_set_ne (by omega)]
    rw [he]; exact h
/-- append of an element with what it owns. -/
theorem op_append_N {bytes : Nat} {s x : Operand} {ad : Addr} {c : Nat} {y : α} {cs : List Value} (hw : Region.wanted o (yielded ops a.tmps) = true) (hd : o.dst = some d) (hn : Nat.blt d n = true) (hr : RepD Df n (lk l j) a)
    (ho : o.op = .call { callee := .builtin .append, args := #[s, x], argTypes := #[t, t] }) (hs : evE (lk l j) s = .slice ca n0 cc) (hx : evE (lk l j) x = .slice (some ad) 1 c)
    (hty : P.underlying t = some (.slice E)) (hinfo : (P.info? E).map (fun i => (i.size, i.bytes, i.zero.map (·.cells.size))) = some (sz, bytes, some sz))
    (hsz : cs.length = sz) (hone : cs.all (·.oneCell') = true) (hp : Nat.blt 0 sz = true)
    (hF : Fit w0 (sepL (rowN E sz own (.slice ca n0 cc) xs :: own y cs :: L)) w) (hnews : ∀ j u, cs[j]? = some u → w.cell? (ad.add j) = some u)
    (hb : (xs.length + 1) * bytes ≤ 140737488355328) (hbp : Nat.blt 0 bytes = true)
    (k : ∀ ca cc w1 a, Fit w0 (sepL (rowN E sz own (.slice ca (xs ++ [y]).length cc) (xs ++ [y]) :: L)) w1 → RepD Df n (lk ((d, .slice ca (xs ++ [y]).length cc) :: l) j) a → wpList P ops Q rest a w1) : wpList P ops Q (o :: rest) a w := by
  obtain ⟨css, hl, h⟩ := hF.rowN_op
  have hp' : 0 < sz := Nat.le_of_ble_eq_true hp
  let c0 : CellN sz := ⟨cs, hsz, by simpa using hone⟩
  have hlen : (css ++ [c0]).length = (xs ++ [y]).length := by rw [List.length_append, List.length_append, hl]; rfl
  refine op_append (m := 1) (c := c) (bytes := bytes) hw hd hn hr ho hs hx (encN_ok hp') (E := E) (xs := css) hty hinfo h (news := [c0]) rfl (by simpa using hnews) (by rw [hl]; exact hb) hbp fun ca cc w1 a h hr' => ?_
  rw [hlen] at h hr'
  refine k ca cc w1 a (Fit.rowN_sh (css := css ++ [c0]) hlen ?_) hr'
  rw [List.zipWith_append (by rw [hl])]
  simp only [List.zipWith_cons_cons, List.zipWith_nil_right, List.append_assoc, List.cons_append, List.nil_append]
  exact h

/-- append of another slice's elements. -/
theorem op_append_rd {bytes : Nat} {s x : Operand} {va : Option Addr} {m0 c : Nat} (hw : Region.wanted o (yielded ops a.tmps) = true) (hd : o.dst = some d) (hn : Nat.blt d n = true) (hr : RepD Df n (lk l j) a)
    (ho : o.op = .call { callee := .builtin .append, args := #[s, x], argTypes := #[t, t] }) (hs : evE (lk l j) s = .slice ca n0 cc) {news : List α} (hx : evE (lk l j) x = .slice va news.length c)
    (he : Enc enc sz) (hty : P.underlying t = some (.slice E)) (hinfo : (P.info? E).map (fun i => (i.size, i.bytes, i.zero.map (·.cells.size))) = some (sz, bytes, some sz))
    (hF : Fit w0 (sepL (rowOf E sz enc (.slice ca n0 cc) xs :: L)) w) (hnews : RdRow L sz enc va news)
    (hb : (xs.length + news.length) * bytes ≤ 140737488355328) (hbp : Nat.blt 0 bytes = true)
    (k : ∀ ca cc w1 a, Fit w0 (sepL (rowOf E sz enc (.slice ca (xs ++ news).length cc) (xs ++ news) :: L)) w1 → RepD Df n (lk ((d, .slice ca (xs ++ news).length cc) :: l) j) a → wpList P ops Q rest a w1) : wpList P ops Q (o :: rest) a w := by
  by_cases h0 : news.length = 0
  · have hn0 : news = [] := List.eq_nil_of_length_eq_zero h0
    subst hn0
    have hnn := hF.row_n
    simp only [List.append_nil] at k
    obtain ⟨q, z, hq, h1, h2, h3, h4⟩ : ∃ i z, P.info? E = some i ∧ i.size = sz ∧ i.bytes = bytes ∧ i.zero = some z ∧ z.cells.size = sz := by
      cases hi : P.info? E with
      | none => simp [hi] at hinfo
      | some i =>
        simp only [hi, Option.map_some, Option.some.injEq, Prod.mk.injEq] at hinfo
        cases hz : i.zero with
        | none => simp [hz] at hinfo
        | some z => exact ⟨i, z, rfl, hinfo.1, hinfo.2.1, hz, by simpa [hz] using hinfo.2.2⟩
    obtain ⟨a', c', e1, _, hcc⟩ := hF.row_val
    simp only [Value.slice.injEq] at e1
    obtain ⟨rfl, _, rfl⟩ := e1
    refine op_valw (w1 := w) (v := .slice ca xs.length cc) hw hd hn hr ?_ (fun a hr => k ca cc w a (hnn ▸ hF) hr)
    unfold execOp
    have hle : n0 ≤ cc := by omega
    simp only [ho, resolve, invoke, builtin, Sem.run_bind, Sem.run_pure, Result.andThen_ok, List.map_toArray, List.map_cons, List.map_nil, hs, hx]
    subst hnn
    cases ca with
    | none => cases va <;> simp [Builtin.append_, run_underlying hty, sizeOf, typeInfo, hq, Builtin.lenOf, Builtin.firstCells, loadCells, loadCellsFrom, hcc]
    | some ac => cases va <;> simp [Builtin.append_, run_underlying hty, sizeOf, typeInfo, hq, Builtin.lenOf, Builtin.firstCells, loadCells, loadCellsFrom, hcc, storeCells]
  · obtain ⟨y, hy⟩ : ∃ y, news[0]? = some y := ⟨_, List.getElem?_eq_getElem (by omega)⟩
    have hva := (hnews 0 y hy).1
    rw [hva] at hx
    refine op_append (m := news.length) (c := c) (bytes := bytes) hw hd hn hr ho hs hx he hty hinfo hF (news := news) rfl (fun i u hu => ?_) hb hbp k
    have hlt := (List.getElem?_eq_some_iff.1 hu).1
    rw [he.flat] at hlt
    have hp := he.pos
    have hdiv : i / sz < news.length := (Nat.div_lt_iff_lt_mul hp).2 hlt
    have hm : i % sz < sz := Nat.mod_lt _ hp
    have hyi : news[i / sz]? = some (news[i / sz]'hdiv) := List.getElem?_eq_getElem hdiv
    have hg := he.get news (i / sz) (i % sz) _ hyi hm
    rw [show i / sz * sz + i % sz = i by rw [Nat.mul_comm]; exact Nat.div_add_mod i sz, hu] at hg
    have := (hnews _ _ hyi).2 (i % sz) u hg.symm w0 w hF.drop
    rw [Addr.add_lit]
    rw [show offs va + i = offs va + i / sz * sz + i % sz by rw [Nat.add_assoc, Nat.mul_comm, Nat.div_add_mod]]
    exact this
/-- append to a slice without room: the old one stays. -/
theorem op_append_fullrow {bytes : Nat} {s x : Operand} {ad : Addr} {m c : Nat} (hw : Region.wanted o (yielded ops a.tmps) = true) (hd : o.dst = some d) (hn : Nat.blt d n = true) (hr : RepD Df n (lk l j) a)
    (ho : o.op = .call { callee := .builtin .append, args := #[s, x], argTypes := #[t, t] }) (hs : evE (lk l j) s = .slice ca n0 cc) (hcc : cc = n0) (hm0 : Nat.blt 0 m = true) (hx : evE (lk l j) x = .slice (some ad) m c)
    (he : Enc enc sz) (hty : P.underlying t = some (.slice E)) (hinfo : (P.info? E).map (fun i => (i.size, i.bytes, i.zero.map (·.cells.size))) = some (sz, bytes, some sz))
    (hF : Fit w0 (sepL (rowOf E sz enc (.slice ca n0 cc) xs :: L)) w) {news : List α} (hm : news.length = m) (hnews : ∀ j u, (news.flatMap enc)[j]? = some u → w.cell? (ad.add j) = some u)
    (hb : (xs.length + m) * bytes ≤ 140737488355328) (hbp : Nat.blt 0 bytes = true)
    (k : ∀ ca' c1 w1 a, Fit w0 (sepL (rowOf E sz enc (.slice ca' (xs ++ news).length c1) (xs ++ news) :: rowOf E sz enc (.slice ca n0 cc) xs :: L)) w1 → RepD Df n (lk ((d, .slice ca' (xs ++ news).length c1) :: l) j) a → wpList P ops Q rest a w1) : wpList P ops Q (o :: rest) a w := by
  have hn0 := hF.row_n
  rcases hF.rows with ⟨e1, e2, hF'⟩ | ⟨g, cap, e1, _, hF'⟩
  · simp only [Value.slice.injEq] at e1
    obtain ⟨rfl, rfl, rfl⟩ := e1
    subst e2
    exact op_append hw hd hn hr ho hs hx he hty hinfo (hF'.row_nil) hm hnews hb hbp fun ca' c1 w1 a h hr' => k ca' c1 w1 a ((h.row_nil).pick 1) hr'
  · simp only [Value.slice.injEq] at e1
    obtain ⟨rfl, _, rfl⟩ := e1
    exact op_append_full hw hd hn hr ho hs hn0 (hcc.trans hn0) hm0 hx he hty hinfo hF' hm hnews hb hbp fun ca' c1 w1 a h hr' => k ca' c1 w1 a ((((h.pick 1).unrow_n hn0).pick 1)) hr'
end
theorem RdRow.of_row_take {α : Type} {E : TypeId} {sz : Nat} {enc : α → List Value} {ca : Option Addr} {z0 w : World} {L' L'' L3 : List HProp} {n cc k : Nat} {l : List α} (he : Enc enc sz) (h0 : Fit z0 (sepL (rowOf E sz enc (.slice ca n cc) l :: L'')) w)
    (f : ∀ {z w}, Fit z (sepL L') w → Fit z (sepL (rowOf E sz enc (.slice ca n cc) l :: L3)) w) : RdRow L' sz enc ca (l.take k) := (RdRow.of_row he h0 f).take k
/-- xs[:n] of what is only read. -/
theorem rslr {α : Type} {P : Program} {o : Oper} {e : Nat → Value} {t E : TypeId} {sz cc : Nat} {ca : Option Addr} {xs : List α} {x y : Operand} {k : IntKind} {i : Int} {w' : World} (ho : o.op = .slice t x none (some y) none) (hx : evE e x = .slice ca xs.length cc) (hy : evE e y = .int k i) (ht : P.underlying t = some (.slice E)) (hs : (P.info? E).map (·.size) = some sz)
    (hcc : xs.length ≤ cc) (hi : 0 ≤ i ∧ i ≤ ((xs.length : Nat) : Int)) : (execOp (evE e) o).run P w' = .ok (.value (.slice ca (xs.take i.toNat).length cc)) w' := by
  have hl : (xs.take i.toNat).length = i.toNat := by rw [List.length_take]; omega
  have h0 := hi.1
  have h1 : i ≤ (cc : Int) := by omega
  rw [hl]
  unfold execOp
  have ha : ∀ a : Addr, a.add 0 = a := fun a => by unfold Addr.add; rw [if_pos rfl]
  cases hq : P.info? E with
  | none => simp [hq] at hs
  | some q =>
    simp [hq] at hs
    simp [ho, hx, hy, Instr.sliceAt, Instr.slice, Instr.sliceBounds, Instr.sliceBound, run_underlying ht, asIntOf, h0, h1, sizeOf, typeInfo, hq, ha]
end Go.Proofs.YtpikpffbcjpmcaaGreatDoor.GX
