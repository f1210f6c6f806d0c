/- A slice that is appended to while the elder one is kept. No program is named here. -/
import Derived.Test.YtnghahgfcaolbaaN
namespace Go.Proofs.Ytnghahgfcaolbaa.SL
open Go Go.RowKit Go.ChangeShapes Go.WideShapes
set_option linter.unusedVariables false
/-- The elder slice and the one that grew out of it: in one block, or apart. -/
def twoOf {α : Type} (e : TypeId) (sz : Nat) (enc : α → List Value) (v : Value) (l : List α) (v1 : Value) (l1 : List α) : HProp :=
  exs fun b : Bool => sepL (match b with
    | true => [pur (∃ ca cc more, v1 = .slice ca l1.length cc ∧ v = .slice ca l.length cc ∧ l = l1 ++ more), rowOf e sz enc v l]
    | false => [rowOf e sz enc v l, rowOf e sz enc v1 l1])
section
variable {w0 w : World} {L : List HProp} {α : Type} {e : TypeId} {sz : Nat} {enc : α → List Value} {v v1 : Value} {l l1 : List α}
theorem Fit.two_cases (h : Fit w0 (sepL (twoOf e sz enc v l v1 l1 :: L)) w) :
    ((∃ ca cc more, v1 = .slice ca l1.length cc ∧ v = .slice ca l.length cc ∧ l = l1 ++ more) ∧ Fit w0 (sepL (rowOf e sz enc v l :: L)) w) ∨ Fit w0 (sepL (rowOf e sz enc v l :: rowOf e sz enc v1 l1 :: L)) w := by
  obtain ⟨b, h⟩ := h.open_exs
  cases b with
  | true => have h := h.open_sepL; obtain ⟨h1, h⟩ := h.open_pur; exact .inl ⟨h1, h⟩
  | false => exact .inr h.open_sepL
theorem Fit.two_same (h1 : ∃ ca cc more, v1 = .slice ca l1.length cc ∧ v = .slice ca l.length cc ∧ l = l1 ++ more) (h : Fit w0 (sepL (rowOf e sz enc v l :: L)) w) : Fit w0 (sepL (twoOf e sz enc v l v1 l1 :: L)) w := by
  refine Fit.shut_exs true ?_
  refine Fit.shut_sepL [pur (∃ ca cc more, v1 = .slice ca l1.length cc ∧ v = .slice ca l.length cc ∧ l = l1 ++ more), rowOf e sz enc v l] L ?_
  exact h.shut_pur h1
theorem Fit.two_apart (h : Fit w0 (sepL (rowOf e sz enc v l :: rowOf e sz enc v1 l1 :: L)) w) : Fit w0 (sepL (twoOf e sz enc v l v1 l1 :: L)) w := by
  refine Fit.shut_exs false ?_
  exact Fit.shut_sepL [rowOf e sz enc v l, rowOf e sz enc v1 l1] L h
/-- The two are one. -/
theorem Fit.two_in (h : Fit w0 (sepL (rowOf e sz enc v l :: L)) w) : Fit w0 (sepL (twoOf e sz enc v l v l :: L)) w := by
  obtain ⟨ca, cc, e1, _, _⟩ := h.row_val
  exact h.two_same ⟨ca, cc, [], e1, e1, by simp⟩
theorem Fit.twoOf_n {ca : Option Addr} {n cc : Nat} (h : Fit w0 (sepL (twoOf e sz enc (.slice ca n cc) l v1 l1 :: L)) w) : n = l.length := by
  rcases h.two_cases with ⟨⟨a', c', more, e1, e2, e3⟩, h'⟩ | h'
  · exact h'.row_n
  · exact h'.row_n
theorem Fit.slc_pre {g cap : Nat} {more : List α} (he : Enc enc sz) (h : Fit w0 (sepL (slc e sz enc g cap (l ++ more) :: L)) w) : Fit w0 (sepL (slc e sz enc g cap l :: L)) w := by
  refine h.head ?_
  rintro x ⟨h1, h2, cur, h3, h4, h5⟩
  rw [List.length_append] at h1 h4
  refine ⟨by omega, h2, cur, h3, ?_, h5⟩
  have : cur.toList.take (l.length * sz) = (cur.toList.take ((l.length + more.length) * sz)).take (l.length * sz) := by
    rw [List.take_take, Nat.min_eq_left (Nat.mul_le_mul_right _ (by omega))]
  rw [this, h4, List.flatMap_append, ← he.flat l]
  exact List.take_left
/-- The elder one is left. -/
theorem Fit.two_out (he : Enc enc sz) (h : Fit w0 (sepL (twoOf e sz enc v l v1 l1 :: L)) w) : Fit w0 (sepL (rowOf e sz enc v1 l1 :: L)) w := by
  rcases h.two_cases with ⟨⟨ca, cc, more, rfl, rfl, rfl⟩, h'⟩ | h'
  · rcases h'.rows with ⟨e1, e2, hF⟩ | ⟨g, cap, e1, hc, hF⟩
    · simp only [Value.slice.injEq] at e1
      obtain ⟨rfl, _, rfl⟩ := e1
      have hl : l1 = [] := (List.append_eq_nil_iff.1 e2).1
      subst hl
      exact hF.row_nil
    · simp only [Value.slice.injEq] at e1
      obtain ⟨rfl, _, rfl⟩ := e1
      exact (hF.slc_pre he).unrow
  · exact h'.drop
end
section
variable {P : Program} {w0 w : World} {L : List HProp} {α : Type} {e : TypeId} {sz : Nat} {enc : α → List Value} {v v1 : Value} {l l1 : List α}
theorem run_append_two (he : Enc enc sz) (t ty : TypeId) (i : TypeInfo) (z : Value) (bytes : Nat) (ht : P.underlying t = some (.slice e)) (hi : P.info? e = some i) (hz : i.zero = some z)
    (hsize : i.size = sz) (hby : i.bytes = bytes) (hzs : z.cells.size = sz) (h : Fit w0 (sepL (twoOf e sz enc v l v1 l1 :: L)) w)
    (ad : Addr) (m c : Nat) (news : List α) (hm : news.length = m) (hm0 : 0 < m) (hnews : ∀ j u, (news.flatMap enc)[j]? = some u → w.cell? (ad.add j) = some u)
    (h63 : l.length + m ≤ maxLen) (hbytes : (l.length + m) * bytes ≤ 140737488355328) :
    ∃ v' w', (Builtin.append_ #[t, t] ty #[v, .slice (some ad) m c]).run P w = .ok v' w' ∧ (∃ ca cc, v' = .slice ca (l ++ news).length cc) ∧ Fit w0 (sepL (twoOf e sz enc v' (l ++ news) v1 l1 :: L)) w' := by
  rcases h.two_cases with ⟨⟨ca, cc, more, rfl, rfl, hl⟩, h'⟩ | h'
  · rcases h'.rows with ⟨e1, e2, hF⟩ | ⟨g, cap, e1, hc, hF⟩
    · simp only [Value.slice.injEq] at e1
      obtain ⟨rfl, _, rfl⟩ := e1
      have hl1 : l1 = [] := (List.append_eq_nil_iff.1 (hl.symm.trans e2)).1
      subst hl1
      subst e2
      obtain ⟨v', w', r1, r2⟩ := run_append_fit (P := P) he t ty i z bytes ht hi hz hsize hby hzs ((Fit.row_nil (e := e) (sz := sz) (enc := enc) h').pick 1) ad m c news hm hnews h63 hbytes
      obtain ⟨ca, cc, e3, _, _⟩ := r2.row_val
      exact ⟨v', w', r1, ⟨ca, cc, e3⟩, r2.two_apart⟩
    · simp only [Value.slice.injEq] at e1
      obtain ⟨rfl, _, rfl⟩ := e1
      subst hsize
      subst hby
      have hlen : (news.flatMap enc).length = m * i.size := by rw [he.flat, hm]
      have h63' : ((l.length + m : Nat) : Int) ≤ 9223372036854775807 := by simp only [maxLen] at h63; omega
      obtain ⟨cur, hs, htk, hP⟩ := hF.slc_cells
      obtain ⟨_, hcm⟩ := hF.slc_len
      by_cases hroom : l.length + m ≤ cc
      · have hfit : l.length * i.size + (news.flatMap enc).length ≤ cur.size := by rw [hlen, hs, ← Nat.add_mul]; exact Nat.mul_le_mul_right _ hroom
        have hr := run_append_room (P := P) w t ty e i ht hi g l.length cc cur hP.block ad m c (news.flatMap enc) hlen hnews (he.flat_one news) hroom hfit
        refine ⟨_, _, hr, ⟨_, _, by rw [List.length_append, hm]⟩, ?_⟩
        refine Fit.two_same ⟨_, _, more ++ news, rfl, by rw [List.length_append, hm], by rw [hl, List.append_assoc]⟩ ?_
        refine (hP.turn (w' := w.setRow g (cur.toList.take (l.length * i.size) ++ news.flatMap enc ++ cur.toList.drop (l.length * i.size + (news.flatMap enc).length)).toArray) (setRow_heap w g cur _ e _ hP.block) (fun k hk _ => setRow_other w g k _ hk) rfl rfl rfl (by simp)).head ?_
        intro x hx
        refine .inr ⟨g, cc, _, by rw [List.length_append, hm], by rw [List.length_append, hm]; exact hroom, hcm, ?_, ?_, hx⟩
        · simp only [List.size_toArray, List.length_append, List.length_take, List.length_drop, Array.length_toList]
          omega
        · rw [htk, List.flatMap_append, List.length_append, hm]
          rw [show (l.length + m) * i.size = ((l.flatMap enc) ++ (news.flatMap enc)).length by rw [List.length_append, hlen, he.flat, Nat.add_mul]]
          exact List.take_left
      · have holds : ∀ j u, (l.flatMap enc)[j]? = some u → w.cell? ((⟨g, 0, none⟩ : Addr).add j) = some u := by
          intro j u hu
          rw [Addr.add_lit, Nat.zero_add]
          refine hP.cell j ?_
          rw [← htk, List.getElem?_take] at hu
          split at hu
          · simpa using hu
          · cases hu
        have hr := run_append_grow (P := P) w t ty e i z ht hi hz ⟨g, 0, none⟩ l.length cc (l.flatMap enc) (he.flat _) holds ad m c (news.flatMap enc) hlen hnews (by omega) h63' (growslice_fits (by omega) hbytes)
        have hge := grownCap_ge w (l.length + m) cc e
        have hcm2 : grownCap w (l.length + m) cc e ≤ maxLen := grownCap_le_maxLen w (l.length + m) cc e h63
        refine ⟨_, _, hr, ⟨_, _, by rw [List.length_append, hm]⟩, ?_⟩
        refine Fit.two_apart ?_
        have hF1 : Fit w0 (sepL (slc e i.size enc g cc l1 :: L)) w := Fit.slc_pre he (more := more) (hl ▸ hF)
        refine (hF1.unrow.drew.alloc _).head fun x hx => .inr ⟨w.heap.size, _, _, by rw [List.length_append, hm], by rw [List.length_append, hm]; exact hge, hcm2, ?_, ?_, hx⟩
        · simp only [Array.size_append, List.size_toArray, size_zeroCells, hzs, he.flat, hm, ← Nat.add_mul]
          congr 1
          omega
        · rw [List.flatMap_append, List.length_append, hm]
          simp only [Array.toList_append]
          rw [show (l.length + m) * i.size = ((l.flatMap enc) ++ (news.flatMap enc)).length by rw [List.length_append, hlen, he.flat, Nat.add_mul]]
          exact List.take_left
  · obtain ⟨v', w', r1, r2⟩ := run_append_fit (P := P) he t ty i z bytes ht hi hz hsize hby hzs h' ad m c news hm hnews h63 hbytes
    obtain ⟨ca, cc, e3, _, _⟩ := r2.row_val
    exact ⟨v', w', r1, ⟨ca, cc, e3⟩, r2.two_apart⟩
end
end Go.Proofs.Ytnghahgfcaolbaa.SL
namespace Go.Proofs.Ytnghahgfcaolbaa.GX
open Go Go.RowKit Go.Proofs.Ytnghahgfcaolbaa.SL
section
variable {P : Program} {ops : Array Oper} {Q : Exit → Act → World → Prop} {a : Act} {w w0 w1 : World} {rest : List Oper} {o : Oper} {n d t : Nat} {v v1 : Value} {l : List (Nat × Value)} {j e : Nat → Value} {L : List HProp} {H : HProp} {Df : List Deferred}
variable {α : Type} {E : TypeId} {sz g cap : Nat} {enc : α → List Value} {xs xs1 : List α}
/-- append; the elder slice is kept. -/
theorem op_append_two {ca : Option Addr} {n0 cc bytes : Nat} {s x : Operand} {ad : Addr} {m c : Nat} (hw : Region.wanted o (yielded ops a.tmps) = true) (hd : o.dst = some d) (hn : Nat.blt d n = true) (hr : RepD Df n (lk l j) a)
    (ho : o.op = .call { callee := .builtin .append, args := #[s, x], argTypes := #[t, t] }) (hs : evE (lk l j) s = .slice ca n0 cc) (hm0 : Nat.blt 0 m = true) (hx : evE (lk l j) x = .slice (some ad) m c)
    (he : Enc enc sz) (hty : P.underlying t = some (.slice E)) (hinfo : (P.info? E).map (fun i => (i.size, i.bytes, i.zero.map (·.cells.size))) = some (sz, bytes, some sz))
    (hF : Fit w0 (sepL (twoOf E sz enc (.slice ca n0 cc) xs v1 xs1 :: L)) w) {news : List α} (hm : news.length = m) (hnews : ∀ j u, (news.flatMap enc)[j]? = some u → w.cell? (ad.add j) = some u)
    (hb : (xs.length + m) * bytes ≤ 140737488355328) (hbp : Nat.blt 0 bytes = true)
    (k : ∀ ca cc w1 a, Fit w0 (sepL (twoOf E sz enc (.slice ca (xs ++ news).length cc) (xs ++ news) v1 xs1 :: L)) w1 → RepD Df n (lk ((d, .slice ca (xs ++ news).length cc) :: l) j) a → wpList P ops Q rest a w1) : wpList P ops Q (o :: rest) a w := by
  cases hi : P.info? E with
  | none => simp [hi] at hinfo
  | some i =>
    simp only [hi, Option.map_some, Option.some.injEq, Prod.mk.injEq] at hinfo
    obtain ⟨i1, i2, i3⟩ := hinfo
    cases hz : i.zero with
    | none => simp [hz] at i3
    | some zv =>
      simp only [hz, Option.map_some, Option.some.injEq] at i3
      have hbp' : 0 < bytes := Nat.le_of_ble_eq_true hbp
      have h63 : xs.length + m ≤ maxLen := by
        have : xs.length + m ≤ (xs.length + m) * bytes := Nat.le_mul_of_pos_right _ hbp'
        simp only [maxLen]; omega
      obtain ⟨v', w', hrun, ⟨a', cap', e⟩, hF'⟩ := run_append_two (P := P) he t o.type i zv bytes hty hi hz i1 i2 i3 hF ad m c news hm (Nat.le_of_ble_eq_true hm0) hnews h63 hb
      subst e
      refine op_valw hw hd hn hr ?_ (fun a hr => k a' cap' w' a hF' hr)
      unfold execOp
      simp only [ho, resolve, invoke, builtin, Sem.run_bind, Sem.run_pure, Result.andThen_ok, List.map_toArray, List.map_cons, List.map_nil, hs, hx, hrun]
end
end Go.Proofs.Ytnghahgfcaolbaa.GX
