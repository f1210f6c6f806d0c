/- Slices of which the front is cut off: xs = xs[1:], append behind. No program is named here. -/
import Derived.Test.YtpikpffbcjpmcaaGreatDoorRn
import Derived.ArgAppend
namespace Go.Proofs.YtpikpffbcjpmcaaGreatDoor.SL
open Go Go.RowKit
set_option linter.unusedVariables false
/-- A slice somewhere in a block of its own; what lies ahead of it there is told by nobody. -/
def rowT {α : Type} (e : TypeId) (sz : Nat) (enc : α → List Value) (v : Value) (l : List α) : HProp := fun h =>
  (v = .slice none 0 0 ∧ l = [] ∧ h = Hp.none) ∨
  ∃ g off cap k cur, v = .slice (some ⟨g, off, none⟩) l.length cap ∧ l.length ≤ cap ∧ (0 < cap → off = k * sz) ∧ k + cap ≤ maxLen ∧ cur.size = (k + cap) * sz ∧ (cur.toList.drop (k * sz)).take (l.length * sz) = l.flatMap enc ∧ pts g (.cells cur e) h
section
variable {w0 w : World} {L : List HProp} {α : Type} {e : TypeId} {sz : Nat} {enc : α → List Value} {v : Value} {l : List α} {ca : Option Addr} {n cc : Nat}
theorem Fit.rowTs (h : Fit w0 (sepL (rowT e sz enc v l :: L)) w) : (v = .slice none 0 0 ∧ l = [] ∧ Fit w0 (sepL L) w) ∨
    ∃ g off cap k cur, v = .slice (some ⟨g, off, none⟩) l.length cap ∧ l.length ≤ cap ∧ (0 < cap → off = k * sz) ∧ k + cap ≤ maxLen ∧ cur.size = (k + cap) * sz ∧ (cur.toList.drop (k * sz)).take (l.length * sz) = l.flatMap enc ∧ Fit w0 (sepL (pts g (.cells cur e) :: L)) w := by
  obtain ⟨x, hx, a, c, hd, ee, hp, q⟩ := h.sat
  rcases hp with ⟨h1, h2, h3⟩ | ⟨g, off, cap, k, cur, h1, h2, h3, h4, h5, h6, h7⟩
  · left
    exact ⟨h1, h2, h.drop⟩
  · right
    exact ⟨g, off, cap, k, cur, h1, h2, h3, h4, h5, h6, ⟨x, hx, a, c, hd, ee, h7, q⟩, h.os, h.tape, h.output, h.size⟩
theorem Fit.rowT_in (h : Fit w0 (sepL (rowOf e sz enc v l :: L)) w) : Fit w0 (sepL (rowT e sz enc v l :: L)) w :=
  h.head fun _ hx => by
    rcases hx with h | ⟨g, cap, cur, h1, h2, h3, h4, h5, h6⟩
    · exact .inl h
    · exact .inr ⟨g, 0, cap, 0, cur, h1, h2, fun _ => by simp, by omega, by simpa using h4, by simpa using h5, h6⟩
theorem Fit.rowT_n (h : Fit w0 (sepL (rowT e sz enc (.slice ca n cc) l :: L)) w) : n = l.length := by
  rcases h.rowTs with ⟨h1, h2, _⟩ | ⟨g, off, cap, k, cur, h1, _⟩
  · simp only [Value.slice.injEq] at h1; rw [h2]; exact h1.2.1
  · simp only [Value.slice.injEq] at h1; exact h1.2.1
theorem Fit.rowT_addr (h : Fit w0 (sepL (rowT e sz enc (.slice ca n cc) l :: L)) w) (hl : 0 < l.length) : ca = some ⟨GX.blk ca, GX.offs ca, none⟩ := by
  rcases h.rowTs with ⟨h1, h2, _⟩ | ⟨g, off, cap, k, cur, h1, _⟩
  · rw [h2] at hl; simp at hl
  · simp only [Value.slice.injEq] at h1; rw [h1.1]; rfl
theorem Fit.rowT_get (he : Enc enc sz) (h : Fit w0 (sepL (rowT e sz enc (.slice ca n cc) l :: L)) w) {i : Nat} {f : Nat} {x : α} {u : Value} (hi : l[i]? = some x) (hf : (enc x)[f]? = some u) : w.cell? ⟨GX.blk ca, GX.offs ca + i * sz + f, none⟩ = some u := by
  have hil : i < l.length := (List.getElem?_eq_some_iff.1 hi).1
  rcases h.rowTs with ⟨h1, h2, _⟩ | ⟨g, off, cap, k, cur, h1, h2, h3, h4, h5, h6, h7⟩
  · rw [h2] at hil; simp at hil
  · simp only [Value.slice.injEq] at h1
    obtain ⟨rfl, _, rfl⟩ := h1
    have hfs : f < sz := by rw [← he.len x]; exact (List.getElem?_eq_some_iff.1 hf).1
    have h8 := he.get l i f x hi hfs
    rw [← h6, List.getElem?_take] at h8
    have hlt : i * sz + f < l.length * sz := by
      have : (i + 1) * sz ≤ l.length * sz := Nat.mul_le_mul_right _ hil
      rw [Nat.add_mul] at this
      omega
    rw [if_pos hlt, hf, List.getElem?_drop] at h8
    have ho := h3 (by omega)
    show w.cell? ⟨g, off + i * sz + f, none⟩ = some u
    rw [ho, show k * sz + i * sz + f = k * sz + (i * sz + f) by omega]
    refine h7.cell _ ?_
    simpa using h8
theorem setMany_list (vs : List Value) : ∀ (o : Nat) (cs : Array Value), o + vs.length ≤ cs.size → ∃ cs' : Array Value, cs'.toList = cs.toList.take o ++ vs ++ cs.toList.drop (o + vs.length) ∧ ∀ {w0 w : World} {L : List HProp} {b : Nat} {t : TypeId}, Fit w0 (sepL (pts b (.cells cs t) :: L)) w → Fit w0 (sepL (pts b (.cells cs' t) :: L)) (w.setCells b o vs) := by
  induction vs with
  | nil => intro o cs h; exact ⟨cs, by simp, fun h => h⟩
  | cons v vs ih =>
    intro o cs h
    simp only [List.length_cons] at h
    obtain ⟨cs', h1, h2⟩ := ih (o + 1) (cs.setIfInBounds o v) (by simp; omega)
    refine ⟨cs', ?_, fun hF => h2 (hF.set o v)⟩
    rw [h1]
    have ho : o < cs.toList.length := by simp; omega
    simp only [Array.toList_setIfInBounds, List.length_cons]
    rw [List.take_succ_eq_append_getElem (by simpa using ho), List.getElem_set_self, List.take_set_of_le (Nat.le_refl o), List.drop_set, if_pos (by omega)]
    rw [show o + 1 + vs.length = o + (vs.length + 1) by omega]
    simp
end
end Go.Proofs.YtpikpffbcjpmcaaGreatDoor.SL
namespace Go.Proofs.YtpikpffbcjpmcaaGreatDoor.GX
open Go Go.RowKit Go.Proofs.YtpikpffbcjpmcaaGreatDoor.SL
section
variable {P : Program} {w w0 w1 z : World} {ops : Array Oper} {Q : Exit → Act → World → Prop} {a : Act} {rest : List Oper} {o : Oper} {n d : Nat} {l : List (Nat × Value)} {j e : Nat → Value} {Df : List Deferred} {L : List HProp} {t E : TypeId}
variable {α : Type} {sz n0 cc : Nat} {enc : α → List Value} {xs : List α} {ca : Option Addr}
theorem ri_T {x y : Operand} {k : IntKind} {i : Int} {w' : World} (ho : o.op = .indexAddr t x y) (hx : evE e x = .slice ca n0 cc) (hy : evE e y = .int k i)
    (ht : P.underlying t = some (.slice E)) (hs : (P.info? E).map (·.size) = some sz) (hF : Fit w0 (sepL (rowT E sz enc (.slice ca n0 cc) xs :: L)) w) (hi : inr_ i xs.length) : (execOp (evE e) o).run P w' = .ok (.value (.pointer (some ⟨blk ca, offs ca + i.toNat * sz, none⟩))) w' := by
  have hn := hF.rowT_n
  have h0 := hi.1; have h1 := hi.2
  exact rie (hF.rowT_addr (by omega)) ho hx hy ht hs h0 (by omega)
/-- xs[k:], xs used up. -/
theorem op_tail {x y : Operand} {k : IntKind} {i : Int} (hw : Region.wanted o (yielded ops a.tmps) = true) (hd : o.dst = some d) (hn : Nat.blt d n = true) (hr : RepD Df n (lk l j) a) (ho : o.op = .slice t x (some y) none none) (hx : evE (lk l j) x = .slice ca n0 cc) (hy : evE (lk l j) y = .int k i)
    (ht : P.underlying t = some (.slice E)) (hs : (P.info? E).map (·.size) = some sz) (he : Enc enc sz) (hF : Fit z (sepL (rowT E sz enc (.slice ca n0 cc) xs :: L)) w) (hi : 0 ≤ i ∧ i ≤ ((xs.length : Nat) : Int)) (hne : 0 < xs.length)
    (k : ∀ ca cc a, Fit z (sepL (rowT E sz enc (.slice ca (xs.drop i.toNat).length cc) (xs.drop i.toNat) :: L)) w → RepD Df n (lk ((d, .slice ca (xs.drop i.toNat).length cc) :: l) j) a → wpList P ops Q rest a w) : wpList P ops Q (o :: rest) a w := by
  obtain ⟨h0, h1⟩ := hi
  rcases hF.rowTs with ⟨h2, h3, _⟩ | ⟨g, off, cap, q, cur, e1, e2, e3, e4, e5, e6, e7⟩
  · rw [h3] at hne; simp at hne
  · simp only [Value.slice.injEq] at e1
    obtain ⟨rfl, rfl, rfl⟩ := e1
    obtain ⟨m, rfl⟩ : ∃ m : Nat, i = m := ⟨i.toNat, by omega⟩
    simp only [Int.toNat_natCast] at k ⊢
    have hm : m ≤ xs.length := by omega
    have hlen : (xs.drop m).length = xs.length - m := by simp
    have hrun : (execOp (evE (lk l j)) o).run P w = .ok (.value (.slice (some (if cc = m then ⟨g, off, none⟩ else (⟨g, off, none⟩ : Addr).add (m * sz))) (xs.length - m) (cc - m))) w := by
      unfold execOp
      cases hq : P.info? E with
      | none => simp [hq] at hs
      | some q =>
        simp [hq] at hs
        have c : cc = m ∨ ¬cc = m := Classical.em _
        rcases c with c | c <;> simp [ho, hx, hy, Instr.sliceAt, Instr.slice, Instr.sliceBounds, Instr.sliceBound, run_underlying ht, asIntOf, sizeOf, typeInfo, hq, hs, h1, hm, c]
    refine op_valw hw hd hn hr (w1 := w) hrun fun a hr' => ?_
    rw [← hlen] at hr'
    refine k _ _ a ?_ hr'
    refine e7.head fun y hy => .inr ⟨g, if cc = m then off else off + m * sz, cc - m, q + m, cur, ?_, by rw [hlen]; omega, ?_, by omega, by rw [e5]; congr 1; omega, ?_, hy⟩
    · congr 1
      by_cases c : cc = m
      · simp [if_pos c]
      · simp [if_neg c, Addr.add_lit]
    · intro hc
      rw [if_neg (by omega), e3 (by omega)]
      simp [Nat.add_mul]
    · rw [hlen]
      have h8 : ((cur.toList.drop (q * sz)).take (xs.length * sz)).drop (m * sz) = (xs.drop m).flatMap enc := by
        rw [e6]
        have h9 : (xs.take m).flatMap enc ++ (xs.drop m).flatMap enc = xs.flatMap enc := by rw [← List.flatMap_append, List.take_append_drop]
        rw [← h9, List.drop_append_of_le_length (by rw [he.flat, List.length_take, Nat.min_eq_left hm]; exact Nat.le_refl _)]
        rw [List.drop_eq_nil_of_le (by rw [he.flat, List.length_take, Nat.min_eq_left hm]; exact Nat.le_refl _)]
        rfl
      rw [← h8, List.drop_take, List.drop_drop, Nat.add_mul, ← Nat.sub_mul]
/-- append behind such a slice. -/
theorem op_append_T {bytes : Nat} {s x : Operand} {ad : Addr} {m c : Nat} (hw : Region.wanted o (yielded ops a.tmps) = true) (hd : o.dst = some d) (hn : Nat.blt d n = true) (hr : RepD Df n (lk l j) a)
    (ho : o.op = .call { callee := .builtin .append, args := #[s, x], argTypes := #[t, t] }) (hs : evE (lk l j) s = .slice ca n0 cc) (hx : evE (lk l j) x = .slice (some ad) m c)
    (he : Enc enc sz) (hty : P.underlying t = some (.slice E)) (hinfo : (P.info? E).map (fun i => (i.size, i.bytes, i.zero.map (·.cells.size))) = some (sz, bytes, some sz))
    (hF : Fit w0 (sepL (rowT E sz enc (.slice ca n0 cc) xs :: L)) w) {news : List α} (hm : news.length = m) (hnews : ∀ j u, (news.flatMap enc)[j]? = some u → w.cell? (ad.add j) = some u)
    (hb : (xs.length + m) * bytes ≤ 140737488355328) (hbp : Nat.blt 0 bytes = true)
    (k : ∀ ca cc w1 a, Fit w0 (sepL (rowT E sz enc (.slice ca (xs ++ news).length cc) (xs ++ news) :: L)) w1 → RepD Df n (lk ((d, .slice ca (xs ++ news).length cc) :: l) j) a → wpList P ops Q rest a w1) : wpList P ops Q (o :: rest) a w := by
  rcases hF.rowTs with ⟨h2, h3, h4⟩ | ⟨g, off, cap, q, cur, e1, e2, e3, e4, e5, e6, e7⟩
  · simp only [Value.slice.injEq] at h2
    obtain ⟨rfl, rfl, rfl⟩ := h2
    subst h3
    exact op_append hw hd hn hr ho hs hx he hty hinfo (h4.row_nil (e := E) (sz := sz) (enc := enc)) hm hnews hb hbp fun ca cc w1 a h hr' => k ca cc w1 a h.rowT_in hr'
  · simp only [Value.slice.injEq] at e1
    obtain ⟨rfl, rfl, rfl⟩ := e1
    cases hi : P.info? E with
    | none => simp [hi] at hinfo
    | some i =>
      simp only [hi, Option.map_some, Option.some.injEq, Prod.mk.injEq] at hinfo
      obtain ⟨i1, i2, i3⟩ := hinfo
      cases hz : i.zero with
      | none => simp [hz] at i3
      | some zv =>
        simp only [hz, Option.map_some, Option.some.injEq] at i3
        subst i1; subst i2
        have hbp' : 0 < i.bytes := Nat.le_of_ble_eq_true hbp
        have h63 : xs.length + m ≤ maxLen := by
          have : xs.length + m ≤ (xs.length + m) * i.bytes := Nat.le_mul_of_pos_right _ hbp'
          simp only [maxLen]; omega
        have h63' : ((xs.length + m : Nat) : Int) ≤ 9223372036854775807 := by simp only [maxLen] at h63; omega
        have hlen : (news.flatMap enc).length = m * i.size := by rw [he.flat, hm]
        have fin : ∀ v' w', (Builtin.append_ #[t, t] o.type #[.slice (some ⟨g, off, none⟩) xs.length cc, .slice (some ad) m c]).run P w = .ok v' w' → (∃ ca cc, v' = .slice ca (xs ++ news).length cc ∧ Fit w0 (sepL (rowT E i.size enc v' (xs ++ news) :: L)) w') → wpList P ops Q (o :: rest) a w := by
          rintro v' w' hrun ⟨ca, cc, rfl, hF'⟩
          refine op_valw hw hd hn hr ?_ (fun a hr => k ca cc w' a hF' hr)
          unfold execOp
          simp only [ho, resolve, invoke, builtin, Sem.run_bind, Sem.run_pure, Result.andThen_ok, List.map_toArray, List.map_cons, List.map_nil, hs, hx, hrun]
        by_cases hroom : xs.length + m ≤ cc
        · by_cases hm0 : m = 0
          · subst hm0
            have hnn : news = [] := List.eq_nil_of_length_eq_zero hm
            subst hnn
            have hr2 := run_append_room_cells (P := P) (w := w) t o.type E i hty hi g off xs.length cc ad 0 c [] (by simp) (by simp) (by simp) hroom (by simp) (by simp)
            refine fin _ _ hr2 ⟨some ⟨g, off, none⟩, cc, by simp, ?_⟩
            simpa [World.setCells] using hF
          · have hoff := e3 (by omega)
            subst hoff
            have hfit : (q + xs.length) * i.size + (news.flatMap enc).length ≤ cur.size := by rw [hlen, e5, ← Nat.add_mul]; exact Nat.mul_le_mul_right _ (by omega)
            have hpos : q * i.size + xs.length * i.size = (q + xs.length) * i.size := (Nat.add_mul _ _ _).symm
            have hr2 := run_append_room_cells (P := P) (w := w) t o.type E i hty hi g (q * i.size) xs.length cc ad m c (news.flatMap enc) hlen hnews (he.flat_one news) hroom
              (fun k hk => by rw [hpos]; rw [e7.cell ((q + xs.length) * i.size + k) (v := cur[(q + xs.length) * i.size + k]'(by omega)) (by rw [Array.getElem?_eq_getElem])]; rfl) (fun k hk => e7.free _)
            rw [hpos] at hr2
            obtain ⟨cs', c1, c2⟩ := setMany_list (news.flatMap enc) ((q + xs.length) * i.size) cur hfit
            have hsz : cs'.size = cur.size := by
              have := congrArg List.length c1
              simp only [List.length_append, List.length_take, List.length_drop, Array.length_toList] at this
              omega
            refine fin _ _ hr2 ⟨_, _, by rw [List.length_append, hm], (c2 e7).head fun y hy => .inr ⟨g, _, cc, q, cs', by rw [List.length_append, hm], by rw [List.length_append, hm]; exact hroom, fun _ => rfl, e4, by rw [hsz]; exact e5, ?_, hy⟩⟩
            rw [c1, List.flatMap_append, ← e6, List.length_append, hm]
            have hA : (cur.toList.take ((q + xs.length) * i.size)).length = (q + xs.length) * i.size := by rw [List.length_take, Array.length_toList]; exact Nat.min_eq_left (Nat.le_trans (Nat.le_add_right _ _) hfit)
            rw [List.append_assoc, List.drop_append_of_le_length (by rw [hA, Nat.add_mul]; omega)]
            have hB : (cur.toList.take ((q + xs.length) * i.size)).drop (q * i.size) = (cur.toList.drop (q * i.size)).take (xs.length * i.size) := by
              rw [List.drop_take, Nat.add_mul, Nat.add_sub_cancel_left]
            rw [hB, ← List.append_assoc]
            have hC : (((cur.toList.drop (q * i.size)).take (xs.length * i.size)) ++ news.flatMap enc).length = (xs.length + m) * i.size := by
              rw [e6, List.length_append, he.flat, hlen, Nat.add_mul]
            rw [← hC]
            exact List.take_left
        · have holds : ∀ j u, (xs.flatMap enc)[j]? = some u → w.cell? ((⟨g, off, none⟩ : Addr).add j) = some u := by
            intro jj u hu
            have hj : jj < xs.length * i.size := by rw [← he.flat]; exact (List.getElem?_eq_some_iff.1 hu).1
            have hx0 : 0 < xs.length := by
              rcases Nat.eq_zero_or_pos xs.length with h0 | h0
              · rw [h0] at hj; simp at hj
              · exact h0
            rw [Addr.add_lit, e3 (by omega)]
            refine e7.cell _ ?_
            rw [← e6, List.getElem?_take, if_pos hj, List.getElem?_drop] at hu
            simpa using hu
          have hr2 := run_append_grow (P := P) w t o.type E i zv hty hi hz ⟨g, off, none⟩ xs.length cc (xs.flatMap enc) (he.flat xs) holds ad m c (news.flatMap enc) hlen hnews (by omega) h63' (growslice_fits (by omega) hb)
          have hge := grownCap_ge w (xs.length + m) cc E
          have hcm : grownCap w (xs.length + m) cc E ≤ maxLen := grownCap_le_maxLen w (xs.length + m) cc E h63
          refine fin _ _ hr2 ⟨_, _, by rw [List.length_append, hm], ?_⟩
          refine (e7.drop.drew.alloc _).head fun x hx => .inr ⟨w.heap.size, 0, grownCap w (xs.length + m) cc E, 0, _, by rw [List.length_append, hm], by rw [List.length_append, hm]; exact hge, fun _ => by simp, by omega, ?_, ?_, hx⟩
          · simp only [Array.size_append, List.size_toArray, size_zeroCells, i3, he.flat, hm, ← Nat.add_mul]
            congr 1
            omega
          · rw [List.flatMap_append, List.length_append, hm]
            simp only [Array.toList_append, Nat.zero_mul, List.drop_zero]
            rw [show (xs.length + m) * i.size = ((xs.flatMap enc) ++ (news.flatMap enc)).length by rw [List.length_append, hlen, he.flat, Nat.add_mul]]
            exact List.take_left
end
end Go.Proofs.YtpikpffbcjpmcaaGreatDoor.GX
