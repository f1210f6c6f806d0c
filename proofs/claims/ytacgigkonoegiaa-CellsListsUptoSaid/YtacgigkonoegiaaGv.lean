/- Rows of which the elements are given away, one behind the other; append of an element that stays in hand. No program is named here. -/
import Derived.Test.YtacgigkonoegiaaC
namespace Go.Proofs.Ytacgigkonoegiaa.SL
open Go Go.RowKit
set_option linter.unusedVariables false
/-- The first i elements are given away. -/
def rowG {α : Type} (e : TypeId) (sz : Nat) (own : α → List Value → HProp) (v : Value) (l : List α) (i : Nat) : HProp :=
  exs fun css : List (CellN sz) => sepL (pur (css.length = l.length) :: rowOf e sz CellN.cs v css :: (List.zipWith (fun x c => own x c.cs) l css).drop i)
/-- .. the i-th is in hand. -/
def rowK {α : Type} (e : TypeId) (sz : Nat) (own : α → List Value → HProp) (v : Value) (l : List α) (i : Nat) (cs : List Value) : HProp :=
  exs fun css : List (CellN sz) => sepL (pur (css.length = l.length ∧ (css[i]?).map CellN.cs = some cs) :: rowOf e sz CellN.cs v css :: (List.zipWith (fun x c => own x c.cs) l css).drop (i + 1))
section
variable {w0 w : World} {L : List HProp} {α : Type} {e : TypeId} {sz n cc i i0 : Nat} {own : α → List Value → HProp} {v : Value} {l : List α} {ca : Option Addr} {cs : List Value} {x y : α}
theorem Fit.rowG_op (h : Fit w0 (sepL (rowG e sz own v l i :: L)) w) : ∃ css : List (CellN sz), css.length = l.length ∧ Fit w0 (sepL (rowOf e sz CellN.cs v css :: ((List.zipWith (fun x c => own x c.cs) l css).drop i ++ L))) w := by
  obtain ⟨css, h⟩ := h.open_exs
  have h := h.open_sepL
  obtain ⟨hl, h⟩ := h.open_pur
  exact ⟨css, hl, h⟩
theorem Fit.rowG_sh {css : List (CellN sz)} (hl : css.length = l.length) (h : Fit w0 (sepL (rowOf e sz CellN.cs v css :: ((List.zipWith (fun x c => own x c.cs) l css).drop i ++ L))) w) : Fit w0 (sepL (rowG e sz own v l i :: L)) w := by
  refine Fit.shut_exs css ?_
  refine Fit.shut_sepL (pur (css.length = l.length) :: rowOf e sz CellN.cs v css :: (List.zipWith (fun x c => own x c.cs) l css).drop i) L ?_
  exact h.shut_pur hl
theorem Fit.rowK_op (h : Fit w0 (sepL (rowK e sz own v l i cs :: L)) w) : ∃ css : List (CellN sz), css.length = l.length ∧ (css[i]?).map CellN.cs = some cs ∧ Fit w0 (sepL (rowOf e sz CellN.cs v css :: ((List.zipWith (fun x c => own x c.cs) l css).drop (i + 1) ++ L))) w := by
  obtain ⟨css, h⟩ := h.open_exs
  have h := h.open_sepL
  obtain ⟨hl, h⟩ := h.open_pur
  exact ⟨css, hl.1, hl.2, h⟩
theorem Fit.rowK_sh {css : List (CellN sz)} (hl : css.length = l.length) (hi : (css[i]?).map CellN.cs = some cs) (h : Fit w0 (sepL (rowOf e sz CellN.cs v css :: ((List.zipWith (fun x c => own x c.cs) l css).drop (i + 1) ++ L))) w) : Fit w0 (sepL (rowK e sz own v l i cs :: L)) w := by
  refine Fit.shut_exs css ?_
  refine Fit.shut_sepL (pur (css.length = l.length ∧ (css[i]?).map CellN.cs = some cs) :: rowOf e sz CellN.cs v css :: (List.zipWith (fun x c => own x c.cs) l css).drop (i + 1)) L ?_
  exact h.shut_pur ⟨hl, hi⟩
theorem Fit.rowG_in (h : Fit w0 (sepL (rowN e sz own v l :: L)) w) : Fit w0 (sepL (rowG e sz own v l 0 :: L)) w := by
  obtain ⟨css, hl, h⟩ := h.rowN_op
  exact Fit.rowG_sh hl h
theorem Fit.rowG_n (h : Fit w0 (sepL (rowG e sz own (.slice ca n cc) l i :: L)) w) : n = l.length := by
  obtain ⟨css, hl, h⟩ := h.rowG_op
  rw [← hl]; exact h.row_n
theorem Fit.rowK_n (h : Fit w0 (sepL (rowK e sz own (.slice ca n cc) l i cs :: L)) w) : n = l.length := by
  obtain ⟨css, hl, _, h⟩ := h.rowK_op
  rw [← hl]; exact h.row_n
theorem Fit.rowG_take (e0 : i = i0) (hi : l[i]? = some x) (h : Fit w0 (sepL (rowG e sz own v l i0 :: L)) w) : ∃ cs, Fit w0 (sepL (rowK e sz own v l i cs :: own x cs :: L)) w := by
  subst e0
  obtain ⟨css, hl, h⟩ := h.rowG_op
  have hil : i < css.length := by rw [hl]; exact (List.getElem?_eq_some_iff.1 hi).1
  have hc : css[i]? = some css[i] := List.getElem?_eq_getElem hil
  refine ⟨css[i].cs, Fit.rowK_sh hl (by rw [hc]; rfl) ?_⟩
  have hz : (List.zipWith (fun x c => own x c.cs) l css)[i]? = some (own x css[i].cs) := by
    rw [List.getElem?_zipWith, hi, hc]
  have hlz : i < (List.zipWith (fun x c => own x c.cs) l css).length := (List.getElem?_eq_some_iff.1 hz).1
  have hd : (List.zipWith (fun x c => own x c.cs) l css).drop i = own x css[i].cs :: (List.zipWith (fun x c => own x c.cs) l css).drop (i + 1) := by
    rw [List.drop_eq_getElem_cons hlz]
    congr 1
    rw [List.getElem?_eq_getElem hlz] at hz
    exact Option.some.inj hz
  rw [hd] at h
  refine h.perm ?_
  refine List.Perm.cons _ ?_
  exact (List.perm_middle (l₁ := (List.zipWith (fun x c => own x c.cs) l css).drop (i + 1)) (a := own x css[i].cs) (l₂ := L)).symm
theorem Fit.rowK_next (h : Fit w0 (sepL (rowK e sz own v l i cs :: L)) w) : Fit w0 (sepL (rowG e sz own v l (i + 1) :: L)) w := by
  obtain ⟨css, hl, _, h⟩ := h.rowK_op
  exact Fit.rowG_sh hl h
theorem Fit.rowK_cell (h : Fit w0 (sepL (rowK e sz own (.slice ca n cc) l i cs :: L)) w) (hp : 0 < sz) {f : Nat} {u : Value} (hf : cs[f]? = some u) : w.cell? ⟨GX.blk ca, i * sz + f, none⟩ = some u := by
  obtain ⟨css, hl, hc, h⟩ := h.rowK_op
  cases hci : css[i]? with
  | none => rw [hci] at hc; simp at hc
  | some c =>
    rw [hci] at hc
    simp only [Option.map_some, Option.some.injEq] at hc
    exact h.row_cell (encN_ok hp) hci (by rw [hc]; exact hf)
theorem Fit.rowH_last (h : Fit w0 (sepL (rowH e sz own v (l ++ [y]) l.length cs :: own x cs :: L)) w) : Fit w0 (sepL (rowN e sz own v (l ++ [x]) :: L)) w := by
  have h := h.rowH_back
  have e1 : (l ++ [y]).set l.length x = l ++ [x] := by rw [List.set_append_right _ _ (Nat.le_refl _)]; simp
  rwa [e1] at h
end
end Go.Proofs.Ytacgigkonoegiaa.SL
namespace Go.Proofs.Ytacgigkonoegiaa.GX
open Go Go.RowKit Go.Proofs.Ytacgigkonoegiaa.SL
section
variable {P : Program} {ops : Array Oper} {Q : Exit → Act → World → Prop} {a : Act} {w w0 w1 : World} {rest : List Oper} {o : Oper} {n d t : Nat} {v : Value} {l : List (Nat × Value)} {j e : Nat → Value} {L : List HProp} {Df : List Deferred}
variable {α : Type} {E : TypeId} {sz n0 cc : Nat} {xs : List α} {ca : Option Addr} {own : α → List Value → HProp}
theorem rowOf_addr {enc : α → List Value} (hF : Fit w0 (sepL (rowOf E sz enc (.slice ca n0 cc) xs :: L)) w) (h0 : 0 < xs.length) : ca = some ⟨blk ca, 0, none⟩ := (hF.row_addr h0).1
theorem ri_rowG {w' : World} {x y : Operand} {k : IntKind} {i : Int} {i0 : Nat} (ho : o.op = .indexAddr t x y) (hx : evE e x = .slice ca n cc) (hy : evE e y = .int k i)
    (ht : P.underlying t = some (.slice E)) (hs : (P.info? E).map (·.size) = some sz) (hF : Fit w0 (sepL (rowG E sz own (.slice ca n cc) xs i0 :: L)) w) (hi : inr_ i xs.length) : (execOp (evE e) o).run P w' = .ok (.value (.pointer (some ⟨blk ca, i.toNat * sz, none⟩))) w' := by
  have hn := hF.rowG_n
  have h0 := hi.1; have h1 := hi.2
  obtain ⟨css, hl, h⟩ := hF.rowG_op
  exact ri0e (rowOf_addr h (by omega)) ho hx hy ht hs h0 (by omega)
theorem ri_rowK {w' : World} {x y : Operand} {k : IntKind} {i : Int} {i0 : Nat} {cs : List Value} (ho : o.op = .indexAddr t x y) (hx : evE e x = .slice ca n cc) (hy : evE e y = .int k i)
    (ht : P.underlying t = some (.slice E)) (hs : (P.info? E).map (·.size) = some sz) (hF : Fit w0 (sepL (rowK E sz own (.slice ca n cc) xs i0 cs :: L)) w) (hi : inr_ i xs.length) : (execOp (evE e) o).run P w' = .ok (.value (.pointer (some ⟨blk ca, i.toNat * sz, none⟩))) w' := by
  have hn := hF.rowK_n
  have h0 := hi.1; have h1 := hi.2
  obtain ⟨css, hl, _, h⟩ := hF.rowK_op
  exact ri0e (rowOf_addr h (by omega)) ho hx hy ht hs h0 (by omega)
/-- append of one element, whose parts stay in hand. -/
theorem op_append_O {bytes : Nat} {s x : Operand} {ad : Addr} {c : Nat} {cs : List Value} (hw : Region.wanted o (yielded ops a.tmps) = true) (hr : RepD Df n (lk l j) a) (y : α)
    (hF : Fit w0 (sepL (rowN E sz own (.slice ca n0 cc) xs :: L)) w) (hnews : ∀ j u, cs[j]? = some u → w.cell? (ad.add j) = some u)
    (hb : (xs.length + 1) * bytes ≤ 140737488355328)
    (k : ∀ ca cc w1 a, Fit w0 (sepL (rowH E sz own (.slice ca (xs ++ [y]).length cc) (xs ++ [y]) xs.length cs :: L)) w1 → RepD Df n (lk ((d, .slice ca (xs ++ [y]).length cc) :: l) j) a → wpList P ops Q rest a w1)
    (hd : o.dst = some d := by rfl) (hn : Nat.blt d n = true := by rfl)
    (ho : o.op = .call { callee := .builtin .append, args := #[s, x], argTypes := #[t, t] } := by rfl) (hs : evE (lk l j) s = .slice ca n0 cc := by kernel_rfl) (hx : evE (lk l j) x = .slice (some ad) 1 c := by kernel_rfl)
    (hty : P.underlying t = some (.slice E) := by kernel_rfl) (hinfo : (P.info? E).map (fun i => (i.size, i.bytes, i.zero.map (·.cells.size))) = some (sz, bytes, some sz) := by kernel_rfl)
    (hsz : cs.length = sz := by rfl) (hone : cs.all (·.oneCell') = true := by rfl) (hp : Nat.blt 0 sz = true := by rfl) (hbp : Nat.blt 0 bytes = true := by rfl) : wpList P ops Q (o :: rest) a w := by
  obtain ⟨css, hl, h⟩ := hF.rowN_op
  have hp' : 0 < sz := Nat.le_of_ble_eq_true hp
  let c0 : CellN sz := ⟨cs, hsz, by simpa using hone⟩
  have hlen : (css ++ [c0]).length = (xs ++ [y]).length := by rw [List.length_append, List.length_append, hl]; rfl
  refine op_append (m := 1) (c := c) (bytes := bytes) hw hd hn hr ho hs hx (encN_ok hp') (E := E) (xs := css) hty hinfo h (news := [c0]) rfl (by simpa using hnews) (by rw [hl]; exact hb) hbp fun ca cc w1 a h hr' => ?_
  rw [hlen] at h hr'
  refine k ca cc w1 a (Fit.rowH_sh (css := css ++ [c0]) hlen (by rw [← hl, List.getElem?_append_right (Nat.le_refl _)]; simp [c0]) ?_) hr'
  rw [List.zipWith_append (by rw [hl])]
  simp only [List.zipWith_cons_cons, List.zipWith_nil_right]
  rw [List.eraseIdx_append_of_length_le (by rw [List.length_zipWith]; omega)]
  have e0 : xs.length - (List.zipWith (fun x c => own x c.cs) xs css).length = 0 := by rw [List.length_zipWith]; omega
  rw [e0]
  simp only [List.eraseIdx_cons_zero, List.append_nil]
  exact h
end
end Go.Proofs.Ytacgigkonoegiaa.GX
