/- Rules for the walk: make, append of zeros, copy. No program is named here. -/
import Derived.Test.YtpikpffbcjpmcaaGreatDoorGY
namespace Go.Proofs.YtpikpffbcjpmcaaGreatDoor.GX
open Go Go.RowKit Go.Proofs.YtpikpffbcjpmcaaGreatDoor.SL

section
variable {α : Type} {sz : Nat} {enc : α → List Value}
theorem zeros_flat (he : Enc enc sz) (zc : Array Value) (z0 : α) (hz : zc.toList = enc z0) (n : Nat) :
    ((Array.range (n * sz)).map fun i => zc[i % zc.size]!).toList = (List.replicate n z0).flatMap enc := by
  have hs : zc.size = sz := by rw [← Array.length_toList, hz, he.len]
  have hpos := he.pos
  apply List.ext_getElem?
  intro i
  rw [Array.toList_map, Array.toList_range, List.getElem?_map]
  by_cases hi : i < n * sz
  · have hd : i / sz < n := (Nat.div_lt_iff_lt_mul hpos).2 hi
    have hm : i % sz < sz := Nat.mod_lt _ hpos
    have hg := he.get (List.replicate n z0) (i / sz) (i % sz) z0 (by rw [List.getElem?_replicate, if_pos hd]) hm
    rw [show i / sz * sz + i % sz = i by rw [Nat.mul_comm]; exact Nat.div_add_mod i sz] at hg
    rw [hg, List.getElem?_range hi, ← hz, hs]
    have hm' : i % sz < zc.size := by omega
    simp [hm']
  · rw [List.getElem?_eq_none (by simp; omega), List.getElem?_eq_none (by rw [he.flat, List.length_replicate]; omega)]
    rfl
end

section
variable {P : Program} {ops : Array Oper} {Q : Exit → Act → World → Prop} {a : Act} {w w0 w1 : World} {rest : List Oper} {o : Oper} {n d t : Nat} {v : Value} {l : List (Nat × Value)} {j e : Nat → Value} {L : List HProp} {H : HProp} {Df : List Deferred}
variable {α : Type} {E : TypeId} {sz g cap : Nat} {enc : α → List Value} {xs : List α}

/-- What a row takes of its element's type. -/
theorem info_of {bytes : Nat} {zc : Array Value} (h : (P.info? E).map (fun i => (i.size, i.bytes, i.zero.map (·.cells))) = some (sz, bytes, some zc)) :
    ∃ i z, P.info? E = some i ∧ i.size = sz ∧ i.bytes = bytes ∧ i.zero = some z ∧ z.cells = zc := by
  cases hi : P.info? E with
  | none => simp [hi] at h
  | some i =>
    simp only [hi, Option.map_some, Option.some.injEq, Prod.mk.injEq] at h
    obtain ⟨h1, h2, h3⟩ := h
    cases hz : i.zero with
    | none => simp [hz] at h3
    | some z => exact ⟨i, z, rfl, h1, h2, hz, by simpa [hz] using h3⟩

/-- make. -/
theorem op_make {x y : Operand} {c : Nat} {i : Int} {bytes : Nat} {zc : Array Value} (z0 : α) (hw : Region.wanted o (yielded ops a.tmps) = true) (hd : o.dst = some d) (hn : Nat.blt d n = true) (hr : RepD Df n (lk l j) a)
    (ho : o.op = .makeSlice t x y) (hx : evE (lk l j) x = .int .i64 i) (hy : evE (lk l j) y = .int .i64 i) (hi : i = c) (he : Enc enc sz) (hty : P.underlying t = some (.slice E))
    (hinfo : (P.info? E).map (fun i => (i.size, i.bytes, i.zero.map (·.cells))) = some (sz, bytes, some zc)) (hz : zc.toList = enc z0) (hb : c * bytes ≤ 140737488355328) (hbp : Nat.blt 0 bytes = true) (hF : Fit w0 (sepL L) w)
    (k : ∀ g w1 a, Fit w0 (sepL (slc E sz enc g c (List.replicate c z0) :: L)) w1 → RepD Df n (lk ((d, .slice (some ⟨g, 0, none⟩) c c) :: l) j) a → wpList P ops Q rest a w1) : wpList P ops Q (o :: rest) a w := by
  obtain ⟨q, z, hq, h1, h2, h3, h4⟩ := info_of hinfo
  have hbp' : 0 < bytes := Nat.le_of_ble_eq_true hbp
  have hc : c ≤ c * bytes := Nat.le_mul_of_pos_right _ hbp'
  subst hi
  have hcb : ((q.bytes : Nat) : Int) * (c : Int) ≤ 281474976710656 := by
    have hcb' : ((c * bytes : Nat) : Int) ≤ 140737488355328 := by omega
    rw [h2, Int.mul_comm]
    simp only [Int.natCast_mul] at hcb'
    omega
  have hrun := run_make (P := P) w t E q z hty hq h3 .i64 .i64 (c : Int) (c : Int) (by omega) (by omega) hcb (by omega)
  have hs : zc.size = sz := by rw [← Array.length_toList, hz, he.len]
  have hcells : (madeCells z.cells ((c : Int).toNat * q.size)).toList = (List.replicate c z0).flatMap enc := by
    rw [h1, h4, Int.toNat_natCast]
    exact zeros_flat he zc z0 hz c
  refine op_valw (w1 := w.alloc (.cells (madeCells z.cells ((c : Int).toNat * q.size)) E)) hw hd hn hr (v := .slice (some ⟨w.heap.size, 0, none⟩) c c) ?_ (fun a hr => k w.heap.size _ a ?_ hr)
  · unfold execOp
    simp only [ho, hx, hy, Sem.run_bind, hrun, Result.andThen_ok, Sem.run_pure, Int.toNat_natCast]
  · refine (hF.alloc _).head fun x hx => ⟨by simp, by simp only [maxLen]; omega, _, ?_, ?_, hx⟩
    · rw [← Array.length_toList, hcells, he.flat, List.length_replicate]
    · rw [hcells, List.length_replicate, List.take_of_length_le (by rw [he.flat, List.length_replicate]; exact Nat.le_refl _)]

/-- copy: the first elements of one row over those of another. -/
theorem op_copy {s x : Operand} {ca : Option Addr} {n0 n1 cc : Nat} {ys : List α} (hw : Region.wanted o (yielded ops a.tmps) = true) (hd : o.dst = some d) (hn : Nat.blt d n = true) (hr : RepD Df n (lk l j) a)
    (ho : o.op = .call { callee := .builtin .copy, args := #[s, x], argTypes := #[t, t] }) (hs : evE (lk l j) s = .slice (some ⟨g, 0, none⟩) n0 cap) (hx : evE (lk l j) x = .slice ca n1 cc) (hn0 : n0 = xs.length)
    (he : Enc enc sz) (hty : P.underlying t = some (.slice E)) (hsz : (P.info? E).map (·.size) = some sz) (hlen : ys.length = xs.length)
    (hF : Fit w0 (sepL (slc E sz enc g cap xs :: rowOf E sz enc (.slice ca n1 cc) ys :: L)) w)
    (k : ∀ w1 a, Fit w0 (sepL (slc E sz enc g cap ys :: rowOf E sz enc (.slice ca n1 cc) ys :: L)) w1 → RepD Df n (lk ((d, .int .i64 ((xs.length : Nat) : Int)) :: l) j) a → wpList P ops Q rest a w1) : wpList P ops Q (o :: rest) a w := by
  have hn1 := (hF.pick 1).row_n
  subst hn1
  subst hn0
  obtain ⟨hl1, hl2⟩ := hF.slc_len
  obtain ⟨cur, hc1, hc2, hP⟩ := hF.slc_cells
  have hcells : (Builtin.firstCells sz (Nat.min ys.length xs.length) (.slice ca ys.length cc)).run P w = .ok (ys.flatMap enc).toArray w := by
    rw [hlen, show Nat.min xs.length xs.length = xs.length from Nat.min_self _, ← hlen]
    rcases (hF.pick 1).rows with ⟨e1, e2, _⟩ | ⟨g', cap', e1, _, hF'⟩
    · simp only [Value.slice.injEq] at e1
      rw [e1.1, e2]
      exact run_firstCells_none (P := P) w sz _ _ _
    · simp only [Value.slice.injEq] at e1
      rw [e1.1]
      obtain ⟨cur', hc1', hc2', hP'⟩ := hF'.slc_cells
      refine run_firstCells_some (P := P) w sz ys.length _ _ _ (ys.flatMap enc) (he.flat ys) ?_
      intro j u hu
      rw [Addr.add_lit, Nat.zero_add]
      refine hP'.cell j ?_
      rw [← hc2', List.getElem?_take] at hu
      split at hu
      · simpa using hu
      · cases hu
  have hfl : (ys.flatMap enc).length = xs.length * sz := by rw [he.flat, hlen]
  have hle : xs.length * sz ≤ cap * sz := Nat.mul_le_mul_right _ hl1
  have hst := run_storeCells_at P g 0 E (ys.flatMap enc) 0 cur w hP.block (by rw [hfl, hc1]; omega) (he.flat_one ys)
  simp only [Nat.add_zero, Nat.zero_add, List.take_zero, List.nil_append] at hst
  refine op_valw (w1 := w.setRow g (ys.flatMap enc ++ cur.toList.drop (ys.flatMap enc).length).toArray) (v := .int .i64 ((xs.length : Nat) : Int)) hw hd hn hr ?_ (fun a hr => k _ a ?_ hr)
  · unfold execOp
    cases hinf : P.info? E with
    | none => simp [hinf] at hsz
    | some q =>
      simp [hinf] at hsz
      have hmin : Nat.min ys.length xs.length = xs.length := by rw [hlen]; exact Nat.min_self _
      have hmin2 : Nat.min xs.length xs.length = xs.length := Nat.min_self _
      simp only [ho, resolve, invoke, builtin, Sem.run_bind, Sem.run_pure, Result.andThen_ok, List.map_toArray, List.map_cons, List.map_nil, hs, hx]
      rw [hmin] at hcells
      rw [hlen] at hcells
      simp [Builtin.copy_, run_underlying hty, Builtin.lenOf, sizeOf, typeInfo, hinf, hsz, hlen, hmin2, hcells, hst, goInt]
  · refine ((hP.turn (w' := w.setRow g (ys.flatMap enc ++ cur.toList.drop (ys.flatMap enc).length).toArray) (setRow_heap w g cur _ E (0, 0) hP.block) (fun k hk _ => setRow_other w g k _ hk) rfl rfl rfl (by simp)).head fun z hz => ⟨by rw [hlen]; exact hl1, hl2, _, ?_, ?_, hz⟩)
    · simp only [List.size_toArray, List.length_append, List.length_drop, Array.length_toList, hfl]
      omega
    · rw [List.toList_toArray, ← he.flat ys]
      exact List.take_left

/-- append(xs, make([]T, m)...). -/
theorem op_extend {ca : Option Addr} {n0 cc bytes : Nat} {s x : Operand} {tx : TypeId} {m : Nat} {i : Int} {zc : Array Value} {kx : IntKind} (z0 : α) (hw : Region.wanted o (yielded ops a.tmps) = true) (hd : o.dst = some d) (hn : Nat.blt d n = true) (hr : RepD Df n (lk l j) a)
    (ho : o.op = .call { callee := .builtin .append, args := #[s, x], argTypes := #[t, tx] }) (hs : evE (lk l j) s = .slice ca n0 cc) (hx : evE (lk l j) x = .int .i64 i) (hi : i = m)
    (he : Enc enc sz) (hty : P.underlying t = some (.slice E)) (htx : P.underlying tx = some (.int kx)) (hinfo : (P.info? E).map (fun i => (i.size, i.bytes, i.zero.map (·.cells))) = some (sz, bytes, some zc)) (hz : zc.toList = enc z0)
    (hF : Fit w0 (sepL (rowOf E sz enc (.slice ca n0 cc) xs :: L)) w) (hb : (xs.length + m) * bytes ≤ 140737488355328) (hbp : Nat.blt 0 bytes = true)
    (k : ∀ ca cc w1 a, Fit w0 (sepL (rowOf E sz enc (.slice ca (xs ++ List.replicate m z0).length cc) (xs ++ List.replicate m z0) :: L)) w1 → RepD Df n (lk ((d, .slice ca (xs ++ List.replicate m z0).length cc) :: l) j) a → wpList P ops Q rest a w1) : wpList P ops Q (o :: rest) a w := by
  have hn0 := hF.row_n
  subst hn0
  obtain ⟨q, zv, hq, h1, h2, h3, h4⟩ := info_of hinfo
  have hbp' : 0 < bytes := Nat.le_of_ble_eq_true hbp
  have hmm : m ≤ m * bytes := Nat.le_mul_of_pos_right _ hbp'
  have hxx : xs.length ≤ xs.length * bytes := Nat.le_mul_of_pos_right _ hbp'
  have hadd : (xs.length + m) * bytes = xs.length * bytes + m * bytes := Nat.add_mul _ _ _
  subst hi
  have hzs : zv.cells.size = sz := by rw [h4, ← Array.length_toList, hz, he.len]
  have hzl : (Builtin.zeroCells zv.cells m).toList = (List.replicate m z0).flatMap enc := by
    have := zeros_flat he zc z0 hz m
    rw [← h4] at this
    rw [← this, ← hzs]
    rfl
  have hpos := he.pos
  have hzv : ∀ w, (zeroValue E).run P w = .ok zv w := fun w => by
    simp only [zeroValue, typeInfo, Sem.run_bind, run_program, hq, Result.andThen_ok, Sem.run_pure, h3]
  have hflz : ((List.replicate m z0).flatMap enc).length = m * sz := by rw [he.flat, List.length_replicate]
  have honez := he.flat_one (List.replicate m z0)
  have wrapm : IntKind.i64.wrap (m : Int) = m := IntWalk.i64_in _ (by omega)
  have hn1 : ¬ ((m : Int) < 0) := by omega
  have hn2 : ¬ (281474976710656 < (m : Int) * (q.bytes : Int)) := by
    have : ((m * bytes : Nat) : Int) ≤ 140737488355328 := by omega
    rw [h2]; simp only [Int.natCast_mul] at this; omega
  have main : ∃ v' w', (Builtin.append_ #[t, tx] o.type #[.slice ca xs.length cc, .int .i64 (m : Int)]).run P w = .ok v' w' ∧ Fit w0 (sepL (rowOf E sz enc v' (xs ++ List.replicate m z0) :: L)) w' := by
    by_cases hroom : xs.length + m ≤ cc
    · rcases hF.rows with ⟨e1, e2, hF'⟩ | ⟨g, cap, e1, _, hF'⟩
      · simp only [Value.slice.injEq] at e1
        obtain ⟨rfl, e3, rfl⟩ := e1
        have hm0 : m = 0 := by omega
        subst hm0
        subst e2
        refine ⟨.slice none 0 0, w, ?_, by simpa using hF'.row_nil⟩
        have hw0 : IntKind.i64.wrap 0 = 0 := by rfl
        simp [Builtin.append_, run_underlying hty, run_underlying htx, sizeOf, typeInfo, hq, asInt, asIntOf, hw0]
      · simp only [Value.slice.injEq] at e1
        obtain ⟨rfl, _, rfl⟩ := e1
        obtain ⟨cur, hs1, htk, hP⟩ := hF'.slc_cells
        obtain ⟨hl1, hl2⟩ := hF'.slc_len
        have hle : (xs.length + m) * sz ≤ cc * sz := Nat.mul_le_mul_right _ hroom
        rw [Nat.add_mul] at hle
        have hflat : (xs ++ List.replicate m z0).flatMap enc = xs.flatMap enc ++ (List.replicate m z0).flatMap enc := List.flatMap_append
        generalize hZ : (List.replicate m z0).flatMap enc = zl at *
        have hst := run_storeCells_at P g (xs.length * sz) E zl 0 cur w hP.block (by rw [hflz, hs1]; omega) honez
        simp only [Nat.add_zero] at hst
        refine ⟨.slice (some ⟨g, 0, none⟩) (xs.length + m) cc, w.setRow g (cur.toList.take (xs.length * sz) ++ zl ++ cur.toList.drop (xs.length * sz + zl.length)).toArray, ?_, ?_⟩
        · generalize w.setRow g (cur.toList.take (xs.length * sz) ++ zl ++ cur.toList.drop (xs.length * sz + zl.length)).toArray = w9 at hst
          by_cases hm0 : m * sz = 0
          · have hz0 : zl = [] := List.eq_nil_of_length_eq_zero (by omega)
            subst hz0
            simp [Builtin.append_, run_underlying hty, run_underlying htx, sizeOf, typeInfo, hq, asInt, asIntOf, wrapm, hn1, hn2, hroom, h1, Addr.add_lit, hm0, hst]
          · simp [Builtin.append_, run_underlying hty, run_underlying htx, sizeOf, typeInfo, hq, asInt, asIntOf, wrapm, hn1, hn2, hroom, h1, Addr.add_lit, hm0, hzv, hzl, hst]
        · refine (hP.turn (w' := w.setRow g (cur.toList.take (xs.length * sz) ++ zl ++ cur.toList.drop (xs.length * sz + zl.length)).toArray) (setRow_heap w g cur _ E (0, 0) hP.block) (fun k hk _ => setRow_other w g k _ hk) rfl rfl rfl (by simp)).head fun z hz' => .inr ⟨g, cc, _, by simp, by simpa using hroom, hl2, ?_, ?_, hz'⟩
          · simp only [List.size_toArray, List.length_append, List.length_take, List.length_drop, Array.length_toList, hflz]
            omega
          · rw [htk, hflat, List.length_append, List.length_replicate]
            rw [show (xs.length + m) * sz = ((xs.flatMap enc) ++ zl).length by rw [List.length_append, hflz, he.flat, Nat.add_mul]]
            exact List.take_left
    · have hge := grownCap_ge w (xs.length + m) cc E
      have h63 : xs.length + m ≤ maxLen := by simp only [maxLen]; omega
      have hcm : grownCap w (xs.length + m) cc E ≤ maxLen := grownCap_le_maxLen w (xs.length + m) cc E h63
      have hfit := growslice_fits (need := xs.length + m) (old := cc) (bytes := bytes) (by omega) hb
      have hfit' : ¬ (281474976710656 < Builtin.nextslicecap (xs.length + m) cc * q.bytes) := by rw [h2]; omega
      have hi63 : ¬ (9223372036854775807 < (xs.length : Int) + (m : Int)) := by omega
      have hold : (Builtin.firstCells sz xs.length (.slice ca xs.length cc)).run P w.drew = .ok (xs.flatMap enc).toArray w.drew := by
        rcases hF.rows with ⟨e1, e2, _⟩ | ⟨g', cap', e1, _, hF'⟩
        · simp only [Value.slice.injEq] at e1
          rw [e1.1, e2]
          exact run_firstCells_none (P := P) w.drew sz _ _ _
        · simp only [Value.slice.injEq] at e1
          rw [e1.1]
          obtain ⟨cur', hc1', hc2', hP'⟩ := hF'.slc_cells
          refine run_firstCells_some (P := P) w.drew sz xs.length _ _ _ (xs.flatMap enc) (he.flat xs) ?_
          intro j u hu
          rw [Addr.add_lit, Nat.zero_add]
          refine hP'.cell j ?_
          rw [← hc2', List.getElem?_take] at hu
          split at hu
          · simpa using hu
          · cases hu
      refine ⟨.slice (some ⟨w.heap.size, 0, none⟩) (xs.length + m) (grownCap w (xs.length + m) cc E), w.drew.alloc (.cells ((xs.flatMap enc).toArray ++ ((List.replicate m z0).flatMap enc).toArray ++ Builtin.zeroCells zv.cells (grownCap w (xs.length + m) cc E - (xs.length + m))) E), ?_, ?_⟩
      · generalize hZ : (List.replicate m z0).flatMap enc = zl at *
        by_cases hm0 : m * sz = 0
        · have hz0 : zl = [] := List.eq_nil_of_length_eq_zero (by omega)
          subst hz0
          simp [Builtin.append_, run_underlying hty, run_underlying htx, sizeOf, typeInfo, hq, asInt, asIntOf, wrapm, hn1, hn2, hroom, Question.forced, h1, hfit', hi63, hm0, hold, hzv, newRow, grownCap]
        · have hza : Builtin.zeroCells zv.cells m = zl.toArray := by rw [← hzl, Array.toArray_toList]
          simp [Builtin.append_, run_underlying hty, run_underlying htx, sizeOf, typeInfo, hq, asInt, asIntOf, wrapm, hn1, hn2, hroom, Question.forced, h1, hfit', hi63, hm0, hold, hzv, hza, newRow, grownCap]
          congr 2
          apply Array.ext'
          simp [List.append_assoc]
      · refine (hF.drop.drew.alloc _).head fun x hx => .inr ⟨w.heap.size, _, _, by simp, by simpa using hge, hcm, ?_, ?_, hx⟩
        · simp only [Array.size_append, List.size_toArray, size_zeroCells, hzs, he.flat, List.length_replicate, ← Nat.add_mul]
          congr 1
          omega
        · rw [List.flatMap_append, List.length_append, List.length_replicate]
          simp only [Array.toList_append]
          rw [show (xs.length + m) * sz = ((xs.flatMap enc) ++ ((List.replicate m z0).flatMap enc)).length by rw [List.length_append, he.flat, he.flat, List.length_replicate, Nat.add_mul]]
          exact List.take_left
  obtain ⟨v', w', hrun, hF'⟩ := main
  obtain ⟨a', cap', e, _, _⟩ := hF'.row_val
  subst e
  refine op_valw hw hd hn hr ?_ (fun a hr => k a' cap' w' a hF' hr)
  unfold execOp
  simp only [ho, resolve, invoke, builtin, Sem.run_bind, Sem.run_pure, Result.andThen_ok, List.map_toArray, List.map_cons, List.map_nil, hs, hx, hrun]
end
end Go.Proofs.YtpikpffbcjpmcaaGreatDoor.GX
