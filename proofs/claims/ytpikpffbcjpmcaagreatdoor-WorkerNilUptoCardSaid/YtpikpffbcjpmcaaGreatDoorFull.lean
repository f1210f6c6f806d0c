/- append to a slice that is full: new memory, the old as it was. No program is named here. -/
import Derived.Test.YtpikpffbcjpmcaaGreatDoorGY
namespace Go.Proofs.YtpikpffbcjpmcaaGreatDoor.SL
open Go Go.RowKit Go.ChangeShapes Go.WideShapes
section
variable {P : Program} {w0 w : World} {L : List HProp} {α : Type} {e : TypeId} {sz : Nat} {enc : α → List Value} {v : Value} {l : List α}
theorem run_append_full (he : Enc enc sz) (t ty : TypeId) (i : TypeInfo) (z : Value) (bytes : Nat) (ht : P.underlying t = some (.slice e)) (hi : P.info? e = some i) (hz : i.zero = some z)
    (hsize : i.size = sz) (hby : i.bytes = bytes) (hzs : z.cells.size = sz) {g : Nat} (h : Fit w0 (sepL (slc e sz enc g l.length l :: L)) w)
    (ad : Addr) (m c : Nat) (news : List α) (hm : news.length = m) (hm0 : 0 < m) (hnews : ∀ j u, (news.flatMap enc)[j]? = some u → w.cell? (ad.add j) = some u)
    (h63 : l.length + m ≤ maxLen) (hbytes : (l.length + m) * bytes ≤ 140737488355328) :
    ∃ v' w', (Builtin.append_ #[t, t] ty #[.slice (some ⟨g, 0, none⟩) l.length l.length, .slice (some ad) m c]).run P w = .ok v' w' ∧ Fit w0 (sepL (rowOf e sz enc v' (l ++ news) :: slc e sz enc g l.length l :: L)) w' := by
  subst hsize
  subst hby
  have hlen : (news.flatMap enc).length = m * i.size := by rw [he.flat, hm]
  have h63' : ((l.length + m : Nat) : Int) ≤ 9223372036854775807 := by simp only [maxLen] at h63; omega
  have grown : ∀ old, old < l.length + m → Fit w0 (sepL (slc e i.size enc g l.length l :: L)) w →
      Fit w0 (sepL (rowOf e i.size enc (.slice (some ⟨w.heap.size, 0, none⟩) (l.length + m) (grownCap w (l.length + m) old e)) (l ++ news) :: slc e i.size enc g l.length l :: L))
        (w.drew.alloc (.cells ((l.flatMap enc).toArray ++ (news.flatMap enc).toArray ++ Builtin.zeroCells z.cells (grownCap w (l.length + m) old e - (l.length + m))) e)) := by
    intro old ho hF
    have hge := grownCap_ge w (l.length + m) old e
    have hcm : grownCap w (l.length + m) old e ≤ maxLen := grownCap_le_maxLen w (l.length + m) old e h63
    refine (hF.drew.alloc _).head fun x hx => .inr ⟨w.heap.size, _, _, by rw [List.length_append, hm], by rw [List.length_append, hm]; exact hge, hcm, ?_, ?_, hx⟩
    · simp only [Array.size_append, List.size_toArray, size_zeroCells, hzs, he.flat, hm, ← Nat.add_mul]
      congr 1
      omega
    · rw [List.flatMap_append, List.length_append, hm]
      simp only [Array.toList_append]
      rw [show (l.length + m) * i.size = ((l.flatMap enc) ++ (news.flatMap enc)).length by rw [List.length_append, hlen, he.flat, Nat.add_mul]]
      exact List.take_left
  obtain ⟨cur, hs, htk, hP⟩ := h.slc_cells
  have holds : ∀ j u, (l.flatMap enc)[j]? = some u → w.cell? ((⟨g, 0, none⟩ : Addr).add j) = some u := by
    intro j u hu
    rw [Addr.add_lit, Nat.zero_add]
    refine hP.cell j ?_
    rw [← htk, List.getElem?_take] at hu
    split at hu
    · simpa using hu
    · cases hu
  have hr := run_append_grow (P := P) w t ty e i z ht hi hz ⟨g, 0, none⟩ l.length l.length (l.flatMap enc) (he.flat l) holds ad m c (news.flatMap enc) hlen hnews (by omega) h63' (growslice_fits (by omega) hbytes)
  exact ⟨_, _, hr, grown l.length (by omega) h⟩
end
end Go.Proofs.YtpikpffbcjpmcaaGreatDoor.SL
namespace Go.Proofs.YtpikpffbcjpmcaaGreatDoor.GX
open Go Go.RowKit Go.Proofs.YtpikpffbcjpmcaaGreatDoor.SL
section
variable {P : Program} {ops : Array Oper} {Q : Exit → Act → World → Prop} {a : Act} {w w0 w1 : World} {rest : List Oper} {o : Oper} {n d t : Nat} {v : Value} {l : List (Nat × Value)} {j e : Nat → Value} {L : List HProp} {H : HProp} {Df : List Deferred}
variable {α : Type} {E : TypeId} {sz g cap : Nat} {enc : α → List Value} {xs : List α}
theorem op_append_full {g n0 cc bytes : Nat} {s x : Operand} {ad : Addr} {m c : Nat} (hw : Region.wanted o (yielded ops a.tmps) = true) (hd : o.dst = some d) (hn : Nat.blt d n = true) (hr : RepD Df n (lk l j) a)
    (ho : o.op = .call { callee := .builtin .append, args := #[s, x], argTypes := #[t, t] }) (hs : evE (lk l j) s = .slice (some ⟨g, 0, none⟩) n0 cc) (hn0 : n0 = xs.length) (hcc : cc = xs.length) (hm0 : Nat.blt 0 m = true) (hx : evE (lk l j) x = .slice (some ad) m c)
    (he : Enc enc sz) (hty : P.underlying t = some (.slice E)) (hinfo : (P.info? E).map (fun i => (i.size, i.bytes, i.zero.map (·.cells.size))) = some (sz, bytes, some sz))
    (hF : Fit w0 (sepL (slc E sz enc g cc xs :: L)) w) {news : List α} (hm : news.length = m) (hnews : ∀ j u, (news.flatMap enc)[j]? = some u → w.cell? (ad.add j) = some u)
    (hb : (xs.length + m) * bytes ≤ 140737488355328) (hbp : Nat.blt 0 bytes = true)
    (k : ∀ ca c1 w1 a, Fit w0 (sepL (rowOf E sz enc (.slice ca (xs ++ news).length c1) (xs ++ news) :: slc E sz enc g cc xs :: L)) w1 → RepD Df n (lk ((d, .slice ca (xs ++ news).length c1) :: l) j) a → wpList P ops Q rest a w1) : wpList P ops Q (o :: rest) a w := by
  subst hn0
  subst hcc
  cases hi : P.info? E with
  | none => simp [hi] at hinfo
  | some i =>
    simp only [hi, Option.map_some, Option.some.injEq, Prod.mk.injEq] at hinfo
    obtain ⟨i1, i2, i3⟩ := hinfo
    cases hz : i.zero with
    | none => simp [hz] at i3
    | some zv =>
      simp only [hz, Option.map_some, Option.some.injEq] at i3
      have hbp' : 0 < bytes := Nat.le_of_ble_eq_true hbp
      have h63 : xs.length + m ≤ maxLen := by
        have : xs.length + m ≤ (xs.length + m) * bytes := Nat.le_mul_of_pos_right _ hbp'
        simp only [maxLen]; omega
      obtain ⟨v', w', hrun, hF'⟩ := run_append_full (P := P) he t o.type i zv bytes hty hi hz i1 i2 i3 hF ad m c news hm (Nat.le_of_ble_eq_true hm0) hnews h63 hb
      obtain ⟨a', cap', e, _, _⟩ := hF'.row_val
      subst e
      refine op_valw hw hd hn hr ?_ (fun a hr => k a' cap' w' a hF' hr)
      unfold execOp
      simp only [ho, resolve, invoke, builtin, Sem.run_bind, Sem.run_pure, Result.andThen_ok, List.map_toArray, List.map_cons, List.map_nil, hs, hx, hrun]
theorem op_append_full_len {g n0 cc bytes : Nat} {s x : Operand} {ad : Addr} {m c : Nat} (hw : Region.wanted o (yielded ops a.tmps) = true) (hd : o.dst = some d) (hn : Nat.blt d n = true) (hr : RepD Df n (lk l j) a)
    (ho : o.op = .call { callee := .builtin .append, args := #[s, x], argTypes := #[t, t] }) (hs : evE (lk l j) s = .slice (some ⟨g, 0, none⟩) n0 cc) (hn0 : n0 = xs.length) (hcc : cc = xs.length) (hm0 : Nat.blt 0 m = true) (hx : evE (lk l j) x = .slice (some ad) m c)
    (he : Enc enc sz) (hty : P.underlying t = some (.slice E)) (hinfo : (P.info? E).map (fun i => (i.size, i.bytes, i.zero.map (·.cells.size))) = some (sz, bytes, some sz))
    (hF : Fit w0 (sepL (slc E sz enc g cc xs :: L)) w) {news : List α} (hm : news.length = m) (hnews : ∀ j u, (news.flatMap enc)[j]? = some u → w.cell? (ad.add j) = some u)
    (hb : (xs.length + m) * bytes ≤ 140737488355328) (hbp : Nat.blt 0 bytes = true)
    (k : ∀ ca c1 w1 a (lx : List α), lx.length = xs.length + m → Fit w0 (sepL (rowOf E sz enc (.slice ca lx.length c1) lx :: slc E sz enc g cc xs :: L)) w1 → RepD Df n (lk ((d, .slice ca lx.length c1) :: l) j) a → wpList P ops Q rest a w1) : wpList P ops Q (o :: rest) a w :=
  op_append_full hw hd hn hr ho hs hn0 hcc hm0 hx he hty hinfo hF hm hnews hb hbp fun ca c w1 a h h2 => k ca c w1 a _ (by rw [List.length_append, hm]) h h2
theorem op_append_len {ca : Option Addr} {n0 cc bytes : Nat} {s x : Operand} {ad : Addr} {m c : Nat} (hw : Region.wanted o (yielded ops a.tmps) = true) (hd : o.dst = some d) (hn : Nat.blt d n = true) (hr : RepD Df n (lk l j) a)
    (ho : o.op = .call { callee := .builtin .append, args := #[s, x], argTypes := #[t, t] }) (hs : evE (lk l j) s = .slice ca n0 cc) (hx : evE (lk l j) x = .slice (some ad) m c)
    (he : Enc enc sz) (hty : P.underlying t = some (.slice E)) (hinfo : (P.info? E).map (fun i => (i.size, i.bytes, i.zero.map (·.cells.size))) = some (sz, bytes, some sz))
    (hF : Fit w0 (sepL (rowOf E sz enc (.slice ca n0 cc) xs :: L)) w) {news : List α} (hm : news.length = m) (hnews : ∀ j u, (news.flatMap enc)[j]? = some u → w.cell? (ad.add j) = some u)
    (hb : (xs.length + m) * bytes ≤ 140737488355328) (hbp : Nat.blt 0 bytes = true)
    (k : ∀ ca cc w1 a (lx : List α), lx.length = xs.length + m → Fit w0 (sepL (rowOf E sz enc (.slice ca lx.length cc) lx :: L)) w1 → RepD Df n (lk ((d, .slice ca lx.length cc) :: l) j) a → wpList P ops Q rest a w1) : wpList P ops Q (o :: rest) a w :=
  op_append hw hd hn hr ho hs hx he hty hinfo hF hm hnews hb hbp fun ca c w1 a h h2 => k ca c w1 a _ (by rw [List.length_append, hm]) h h2
end
end Go.Proofs.YtpikpffbcjpmcaaGreatDoor.GX
