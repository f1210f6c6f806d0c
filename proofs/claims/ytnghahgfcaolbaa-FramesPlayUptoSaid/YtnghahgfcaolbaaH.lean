/- Rows of which one element is out: append, the cut xs[:i], the rest xs[i+1:], and the two joined. No program is named here. -/
import Derived.Test.YtnghahgfcaolbaaN
namespace Go.Proofs.Ytnghahgfcaolbaa.SL
open Go Go.RowKit
set_option linter.unusedVariables false
section
variable {w0 w : World} {L : List HProp} {α : Type} {e : TypeId} {sz n cc i : Nat} {enc : α → List Value} {l : List α} {ca : Option Addr}
theorem Fit.slc_cut {g cap : Nat} (he : Enc enc sz) (hi : i ≤ l.length) (h : Fit w0 (sepL (slc e sz enc g cap l :: L)) w) : Fit w0 (sepL (slc e sz enc g cap (l.take i) :: L)) w := by
  refine h.head fun z ⟨h1, h2, cur, h3, h4, h5⟩ => ⟨by rw [List.length_take]; omega, h2, cur, h3, ?_, h5⟩
  have hf : (l.take i).flatMap enc = (l.flatMap enc).take (i * sz) := by
    have h6 : (l.take i).flatMap enc ++ (l.drop i).flatMap enc = l.flatMap enc := by rw [← List.flatMap_append, List.take_append_drop]
    have h7 : ((l.take i).flatMap enc).length = i * sz := by rw [he.flat, List.length_take, Nat.min_eq_left hi]
    rw [← h6, ← h7]; simp
  rw [hf, ← h4, List.take_take, List.length_take, Nat.min_eq_left hi, Nat.min_eq_left (Nat.mul_le_mul_right sz hi)]
end
end Go.Proofs.Ytnghahgfcaolbaa.SL
namespace Go.Proofs.Ytnghahgfcaolbaa.GX
open Go Go.RowKit Go.Proofs.Ytnghahgfcaolbaa.SL
set_option linter.unusedVariables false
/-- xs[i:], as a value. -/
def tl (ca : Option Addr) (n cc lo sz : Nat) : Value := .slice (if cc = lo then ca else ca.map (·.add (lo * sz))) (n - lo) (cc - lo)
section
variable {P : Program} {ops : Array Oper} {Q : Exit → Act → World → Prop} {a : Act} {w w0 w1 : World} {rest : List Oper} {o : Oper} {n d t : Nat} {v : Value} {l : List (Nat × Value)} {j e : Nat → Value} {L : List HProp} {Df : List Deferred}
variable {α : Type} {E : TypeId} {sz n0 cc : Nat} {xs : List α} {ca : Option Addr} {own : α → List Value → HProp}
theorem cutH {x y : Operand} {k : IntKind} {i : Int} {i0 : Nat} {cs : List Value} {w' : World} (ho : o.op = .slice t x none (some y) none) (hx : evE e x = .slice ca n cc) (hy : evE e y = .int k i) (ht : P.underlying t = some (.slice E)) (hs : (P.info? E).map (·.size) = some sz)
    (hF : Fit w0 (sepL (rowH E sz own (.slice ca n cc) xs i0 cs :: L)) w) (hi : inr_ i xs.length) : (execOp (evE e) o).run P w' = .ok (.value (.slice ca i.toNat cc)) w' := by
  obtain ⟨css, hl, hc, h⟩ := hF.rowH_op
  obtain ⟨a', c', e1, _, hcc⟩ := h.row_val
  simp only [Value.slice.injEq] at e1
  obtain ⟨rfl, _, rfl⟩ := e1
  have h0 := hi.1
  have h1 : i ≤ (cc : Int) := by have := hi.2; omega
  unfold execOp
  have ha : ∀ a : Addr, a.add 0 = a := fun a => by unfold Addr.add; rw [if_pos rfl]
  cases hq : P.info? E with
  | none => simp [hq] at hs
  | some q =>
    simp [hq] at hs
    simp [ho, hx, hy, Instr.sliceAt, Instr.slice, Instr.sliceBounds, Instr.sliceBound, run_underlying ht, asIntOf, h0, h1, sizeOf, typeInfo, hq, ha]
theorem tailH {x y : Operand} {k : IntKind} {i : Int} {i0 : Nat} {cs : List Value} {w' : World} (ho : o.op = .slice t x (some y) none none) (hx : evE e x = .slice ca n cc) (hy : evE e y = .int k i) (ht : P.underlying t = some (.slice E)) (hs : (P.info? E).map (·.size) = some sz)
    (hF : Fit w0 (sepL (rowH E sz own (.slice ca n cc) xs i0 cs :: L)) w) (hi : 0 ≤ i ∧ i ≤ ((xs.length : Nat) : Int)) : (execOp (evE e) o).run P w' = .ok (.value (tl ca n cc i.toNat sz)) w' := by
  have hn := hF.rowH_n
  have h0 := hi.1
  have h1 : i ≤ (n : Int) := by have := hi.2; omega
  unfold execOp tl
  cases hq : P.info? E with
  | none => simp [hq] at hs
  | some q =>
    simp [hq] at hs
    simp [ho, hx, hy, Instr.sliceAt, Instr.slice, Instr.sliceBounds, Instr.sliceBound, run_underlying ht, asIntOf, h0, h1, sizeOf, typeInfo, hq, hs]
/-- append of an element with what it owns, to a row of which one is out. -/
theorem op_append_HN {bytes : Nat} {s x : Operand} {ad : Addr} {c i0 : Nat} {y : α} {cs cs0 : List Value} (hw : Region.wanted o (yielded ops a.tmps) = true) (hd : o.dst = some d) (hn : Nat.blt d n = true) (hr : RepD Df n (lk l j) a)
    (ho : o.op = .call { callee := .builtin .append, args := #[s, x], argTypes := #[t, t] }) (hs : evE (lk l j) s = .slice ca n0 cc) (hx : evE (lk l j) x = .slice (some ad) 1 c)
    (hty : P.underlying t = some (.slice E)) (hinfo : (P.info? E).map (fun i => (i.size, i.bytes, i.zero.map (·.cells.size))) = some (sz, bytes, some sz))
    (hsz : cs.length = sz) (hone : cs.all (·.oneCell') = true) (hp : Nat.blt 0 sz = true)
    (hF : Fit w0 (sepL (rowH E sz own (.slice ca n0 cc) xs i0 cs0 :: own y cs :: L)) w) (hnews : ∀ j u, cs[j]? = some u → w.cell? (ad.add j) = some u)
    (hb : (xs.length + 1) * bytes ≤ 140737488355328) (hbp : Nat.blt 0 bytes = true)
    (k : ∀ ca cc w1 a, Fit w0 (sepL (rowH E sz own (.slice ca (xs ++ [y]).length cc) (xs ++ [y]) i0 cs0 :: L)) w1 → RepD Df n (lk ((d, .slice ca (xs ++ [y]).length cc) :: l) j) a → wpList P ops Q rest a w1) : wpList P ops Q (o :: rest) a w := by
  obtain ⟨css, hl, hc, h⟩ := hF.rowH_op
  have hp' : 0 < sz := Nat.le_of_ble_eq_true hp
  have hi0 := hF.rowH_lt
  let c0 : CellN sz := ⟨cs, hsz, by simpa using hone⟩
  have hlen : (css ++ [c0]).length = (xs ++ [y]).length := by rw [List.length_append, List.length_append, hl]; rfl
  refine op_append (m := 1) (c := c) (bytes := bytes) hw hd hn hr ho hs hx (encN_ok hp') (E := E) (xs := css) hty hinfo h (news := [c0]) rfl (by simpa using hnews) (by rw [hl]; exact hb) hbp fun ca cc w1 a h hr' => ?_
  rw [hlen] at h hr'
  refine k ca cc w1 a (Fit.rowH_sh (css := css ++ [c0]) hlen (by rw [List.getElem?_append_left (by omega)]; exact hc) ?_) hr'
  rw [List.zipWith_append (by rw [hl])]
  simp only [List.zipWith_cons_cons, List.zipWith_nil_right]
  rw [List.eraseIdx_append_of_lt_length (by rw [List.length_zipWith]; omega)]
  simp only [List.append_assoc, List.cons_append, List.nil_append]
  exact h
theorem zip_erase {β γ δ : Type} (f : β → γ → δ) : ∀ (xs : List β) (ys : List γ) (i : Nat), xs.length = ys.length → (List.zipWith f xs ys).eraseIdx i = List.zipWith f (xs.eraseIdx i) (ys.eraseIdx i)
  | [], [], _, _ => by simp
  | x :: xs, y :: ys, 0, _ => by simp
  | x :: xs, y :: ys, i + 1, h => by simp only [List.zipWith_cons_cons, List.eraseIdx_cons_succ]; rw [zip_erase f xs ys i (by simpa using h)]
/-- append(xs[:i], xs[i+1:]...): the element that is out goes. -/
theorem op_remove {bytes : Nat} {s x : Operand} {i lo : Nat} {cs : List Value} (hw : Region.wanted o (yielded ops a.tmps) = true) (hd : o.dst = some d) (hn : Nat.blt d n = true) (hr : RepD Df n (lk l j) a)
    (ho : o.op = .call { callee := .builtin .append, args := #[s, x], argTypes := #[t, t] }) (hs : evE (lk l j) s = .slice ca i cc) (hx : evE (lk l j) x = tl ca n0 cc lo sz) (hlo : lo = i + 1)
    (hty : P.underlying t = some (.slice E)) (hinfo : (P.info? E).map (fun i => (i.size, i.bytes, i.zero.map (·.cells.size))) = some (sz, bytes, some sz)) (hp : Nat.blt 0 sz = true)
    (hF : Fit w0 (sepL (rowH E sz own (.slice ca n0 cc) xs i cs :: L)) w) (hb : xs.length * bytes ≤ 140737488355328) (hbp : Nat.blt 0 bytes = true)
    (k : ∀ ca cc w1 a, Fit w0 (sepL (rowN E sz own (.slice ca (xs.eraseIdx i).length cc) (xs.eraseIdx i) :: L)) w1 → RepD Df n (lk ((d, .slice ca (xs.eraseIdx i).length cc) :: l) j) a → wpList P ops Q rest a w1) : wpList P ops Q (o :: rest) a w := by
  subst hlo
  obtain ⟨css, hl, hc, h⟩ := hF.rowH_op
  have hp' : 0 < sz := Nat.le_of_ble_eq_true hp
  have hi0 := hF.rowH_lt
  have hn0 := h.row_n
  obtain ⟨hca, h2⟩ := h.row_addr (by omega)
  have hcap := h2.slc_len.1
  have hlt : (css.take i).length = i := by rw [List.length_take]; omega
  have hcut : Fit w0 (sepL (rowOf E sz CellN.cs (.slice ca i cc) (css.take i) :: ((List.zipWith (fun x c => own x c.cs) xs css).eraseIdx i ++ L))) w :=
    (h2.slc_cut (encN_ok hp') (i := i) (by omega)).row_again hca hlt.symm
  have hnews : ∀ q u, ((css.drop (i + 1)).flatMap CellN.cs)[q]? = some u → w.cell? ((if cc = i + 1 then (⟨blk ca, 0, none⟩ : Addr) else (⟨blk ca, 0, none⟩ : Addr).add ((i + 1) * sz)).add q) = some u := by
    intro q u hu
    have hq := (List.getElem?_eq_some_iff.1 hu).1
    rw [(encN_ok hp').flat, List.length_drop] at hq
    have hcc : ¬ cc = i + 1 := by
      intro hcc
      rw [show css.length - (i + 1) = 0 by omega, Nat.zero_mul] at hq
      omega
    rw [if_neg hcc, Addr.add_lit, Addr.add_lit, Nat.zero_add]
    have hdiv : q / sz < css.length - (i + 1) := (Nat.div_lt_iff_lt_mul hp').2 hq
    have hm : q % sz < sz := Nat.mod_lt _ hp'
    have hyi : (css.drop (i + 1))[q / sz]? = some (css[i + 1 + q / sz]'(by omega)) := by rw [List.getElem?_drop]; exact List.getElem?_eq_getElem (by omega)
    have hg := (encN_ok hp').get (css.drop (i + 1)) (q / sz) (q % sz) _ hyi hm
    rw [show q / sz * sz + q % sz = q by rw [Nat.mul_comm]; exact Nat.div_add_mod q sz, hu] at hg
    have := h2.slc_get (encN_ok hp') (i + 1 + q / sz) (q % sz) _ u (List.getElem?_eq_getElem (by omega)) hg.symm
    rw [show (i + 1) * sz + q = (i + 1 + q / sz) * sz + q % sz by rw [Nat.add_mul (i + 1), Nat.add_assoc, show q / sz * sz + q % sz = q by rw [Nat.mul_comm]; exact Nat.div_add_mod q sz]]
    exact this
  have hx2 : evE (lk l j) x = .slice (some (if cc = i + 1 then (⟨blk ca, 0, none⟩ : Addr) else (⟨blk ca, 0, none⟩ : Addr).add ((i + 1) * sz))) (n0 - (i + 1)) (cc - (i + 1)) := by
    rw [hx, tl]
    split
    · rw [← hca]
    · rw [hca]; rfl
  have he : css.take i ++ css.drop (i + 1) = css.eraseIdx i := (List.eraseIdx_eq_take_drop_succ css i).symm
  have hel : (css.eraseIdx i).length = (xs.eraseIdx i).length := by rw [List.length_eraseIdx, List.length_eraseIdx, hl]
  refine op_append (m := n0 - (i + 1)) (bytes := bytes) hw hd hn hr ho hs hx2 (encN_ok hp') (E := E) (xs := css.take i) hty hinfo hcut (news := css.drop (i + 1)) (by rw [List.length_drop, hn0]) hnews (by
    rw [hlt]
    refine Nat.le_trans (Nat.mul_le_mul_right bytes ?_) hb
    omega) hbp fun ca' cc' w1 a h3 hr' => ?_
  rw [he, hel] at h3 hr'
  refine k ca' cc' w1 a (Fit.rowN_sh (css := css.eraseIdx i) hel ?_) hr'
  rw [← zip_erase _ _ _ _ hl.symm]
  exact h3
end
end Go.Proofs.Ytnghahgfcaolbaa.GX
