/- Slices that a call owns, as parts of the heap: reading, writing, appending. No program is named here. -/
import Derived.Test.YtpikpffbcjpmcaaGreatDoorSL
import Derived.Laws.AppendOwn
import Derived.Laws.OwnMore
import Derived.Laws.MakeOwn
import Derived.Laws.CopyRow
namespace Go.Proofs.YtpikpffbcjpmcaaGreatDoor.SL
open Go Go.RowKit

/-- How an element lies in cells. -/
structure Enc {α : Type} (enc : α → List Value) (sz : Nat) : Prop where
  len : ∀ x, (enc x).length = sz
  one : ∀ x, ∀ u ∈ enc x, u.oneCell' = true
  pos : 0 < sz

theorem Enc.flat {α : Type} {enc : α → List Value} {sz : Nat} (he : Enc enc sz) (l : List α) : (l.flatMap enc).length = l.length * sz := by
  induction l with
  | nil => simp
  | cons x l ih => rw [List.flatMap_cons, List.length_append, he.len, ih, List.length_cons, Nat.add_mul, Nat.one_mul, Nat.add_comm]
theorem Enc.flat_one {α : Type} {enc : α → List Value} {sz : Nat} (he : Enc enc sz) (l : List α) : ∀ u ∈ l.flatMap enc, u.oneCell' = true := by
  intro u hu
  obtain ⟨x, _, hx⟩ := List.mem_flatMap.1 hu
  exact he.one x u hx
theorem Enc.get {α : Type} {enc : α → List Value} {sz : Nat} (he : Enc enc sz) (l : List α) (i f : Nat) (x : α) (hi : l[i]? = some x) (hf : f < sz) : (l.flatMap enc)[i * sz + f]? = (enc x)[f]? := by
  induction l generalizing i with
  | nil => simp at hi
  | cons y l ih =>
    rw [List.flatMap_cons]
    cases i with
    | zero =>
      simp at hi
      subst hi
      rw [Nat.zero_mul, Nat.zero_add, List.getElem?_append_left (by rw [he.len]; exact hf)]
    | succ i =>
      rw [List.getElem?_append_right (by rw [he.len, Nat.add_mul]; omega), he.len, show (i + 1) * sz + f - sz = i * sz + f by rw [Nat.add_mul]; omega]
      exact ih i (by simpa using hi)
theorem Enc.set {α : Type} {enc : α → List Value} {sz : Nat} (he : Enc enc sz) (l : List α) (i : Nat) (x : α) (hi : i < l.length) :
    (l.set i x).flatMap enc = (l.flatMap enc).take (i * sz) ++ enc x ++ (l.flatMap enc).drop (i * sz + sz) := by
  induction l generalizing i with
  | nil => simp at hi
  | cons y l ih =>
    cases i with
    | zero =>
      simp only [List.set_cons_zero, List.flatMap_cons, Nat.zero_mul, List.take_zero, List.nil_append, Nat.zero_add]
      congr 1
      rw [List.drop_append_of_le_length (by rw [he.len]; exact Nat.le_refl _), List.drop_of_length_le (by rw [he.len]; exact Nat.le_refl _), List.nil_append]
    | succ i =>
      simp only [List.set_cons_succ, List.flatMap_cons]
      rw [ih i (by simpa using hi)]
      have h1 : (i + 1) * sz = sz + i * sz := by rw [Nat.add_mul]; omega
      have t1 : (enc y).take (sz + i * sz) = enc y := List.take_of_length_le (by rw [he.len]; omega)
      have d1 : (enc y).drop (sz + i * sz + sz) = [] := List.drop_of_length_le (by rw [he.len]; omega)
      rw [h1, List.take_append, t1, he.len, show sz + i * sz - sz = i * sz by omega, List.drop_append, d1, he.len, show sz + i * sz + sz - sz = i * sz + sz by omega]
      simp only [List.nil_append, List.append_assoc]

/-- The slice v owns a block in which the elements l lie, from its begin on; or it is nil, and l is empty. -/
def rowOf {α : Type} (e : TypeId) (sz : Nat) (enc : α → List Value) (v : Value) (l : List α) : HProp := fun h =>
  (v = .slice none 0 0 ∧ l = [] ∧ h = Hp.none) ∨
  ∃ g cap cur, v = .slice (some ⟨g, 0, none⟩) l.length cap ∧ l.length ≤ cap ∧ cap ≤ maxLen ∧ cur.size = cap * sz ∧ cur.toList.take (l.length * sz) = l.flatMap enc ∧ pts g (.cells cur e) h

/-- The same, the block named. -/
def slc {α : Type} (e : TypeId) (sz : Nat) (enc : α → List Value) (g cap : Nat) (l : List α) : HProp := fun h =>
  l.length ≤ cap ∧ cap ≤ maxLen ∧ ∃ cur : Array Value, cur.size = cap * sz ∧ cur.toList.take (l.length * sz) = l.flatMap enc ∧ pts g (.cells cur e) h

section
variable {w0 w : World} {L : List HProp} {α : Type} {e : TypeId} {sz : Nat} {enc : α → List Value} {v : Value} {l : List α} {g cap : Nat}

theorem Fit.rows (h : Fit w0 (sepL (rowOf e sz enc v l :: L)) w) : (v = .slice none 0 0 ∧ l = [] ∧ Fit w0 (sepL L) w) ∨ ∃ g cap, v = .slice (some ⟨g, 0, none⟩) l.length cap ∧ l.length ≤ cap ∧ Fit w0 (sepL (slc e sz enc g cap l :: L)) w := by
  obtain ⟨x, hx, a, c, hd, ee, hp, q⟩ := h.sat
  rcases hp with ⟨h1, h2, h3⟩ | ⟨g, cap, cur, h1, h2, h3, h4, h5, h6⟩
  · left
    exact ⟨h1, h2, h.drop⟩
  · right
    exact ⟨g, cap, h1, h2, ⟨x, hx, a, c, hd, ee, ⟨h2, h3, cur, h4, h5, h6⟩, q⟩, h.os, h.tape, h.output, h.size⟩
theorem Fit.rows_pos (h : Fit w0 (sepL (rowOf e sz enc v l :: L)) w) (hl : 0 < l.length) : ∃ g cap, v = .slice (some ⟨g, 0, none⟩) l.length cap ∧ l.length ≤ cap ∧ Fit w0 (sepL (slc e sz enc g cap l :: L)) w := by
  rcases h.rows with ⟨_, h2, _⟩ | h
  · rw [h2] at hl; simp at hl
  · exact h
theorem Fit.row_blk {ca : Option Addr} {m cc : Nat} (h : Fit w0 (sepL (rowOf e sz enc (.slice ca m cc) l :: L)) w) (hl : 0 < l.length) :
    ∃ g, ca = some ⟨g, 0, none⟩ ∧ Fit w0 (sepL (slc e sz enc g cc l :: L)) w := by
  obtain ⟨g, cap, e, _, h⟩ := h.rows_pos hl
  simp only [Value.slice.injEq] at e
  obtain ⟨rfl, _, rfl⟩ := e
  exact ⟨g, rfl, h⟩
theorem Fit.unrow (h : Fit w0 (sepL (slc e sz enc g cap l :: L)) w) : Fit w0 (sepL (rowOf e sz enc (.slice (some ⟨g, 0, none⟩) l.length cap) l :: L)) w :=
  h.head fun _ ⟨h1, h2, cur, h3, h4, h5⟩ => .inr ⟨g, cap, cur, rfl, h1, h2, h3, h4, h5⟩
theorem Fit.unrow_n {m : Nat} (hm : m = l.length) (h : Fit w0 (sepL (slc e sz enc g cap l :: L)) w) : Fit w0 (sepL (rowOf e sz enc (.slice (some ⟨g, 0, none⟩) m cap) l :: L)) w := hm ▸ h.unrow
theorem Fit.unrow_e {ca : Option Addr} {m : Nat} (hca : ca = some ⟨g, 0, none⟩) (hm : m = l.length) (h : Fit w0 (sepL (slc e sz enc g cap l :: L)) w) : Fit w0 (sepL (rowOf e sz enc (.slice ca m cap) l :: L)) w := by
  subst hca; subst hm; exact h.unrow
theorem Fit.row_nil (h : Fit w0 (sepL L) w) : Fit w0 (sepL (rowOf e sz enc (.slice none 0 0) ([] : List α) :: L)) w :=
  h.imp fun x hx => ⟨Hp.none, x, Hp.none_disj x, (Hp.none_add x).symm, .inl ⟨rfl, rfl, rfl⟩, hx⟩
theorem Fit.row_val (h : Fit w0 (sepL (rowOf e sz enc v l :: L)) w) : ∃ a cap, v = .slice a l.length cap ∧ (a = none → l = [] ∧ cap = 0) ∧ l.length ≤ cap := by
  rcases h.rows with ⟨rfl, rfl, _⟩ | ⟨g, cap, rfl, hc, _⟩
  · exact ⟨none, 0, rfl, fun _ => ⟨rfl, rfl⟩, Nat.le_refl _⟩
  · exact ⟨_, cap, rfl, (fun h => by cases h), hc⟩
theorem Fit.row_n {ca : Option Addr} {m cc : Nat} (h : Fit w0 (sepL (rowOf e sz enc (.slice ca m cc) l :: L)) w) : m = l.length := by
  obtain ⟨a, cap, e, _, _⟩ := h.row_val
  simp only [Value.slice.injEq] at e
  exact e.2.1
theorem Fit.row_len (h : Fit w0 (sepL (rowOf e sz enc v l :: L)) w) : l.length ≤ maxLen := by
  obtain ⟨x, hx, a, c, hd, ee, hp, q⟩ := h.sat
  rcases hp with ⟨h1, h2, h3⟩ | ⟨g, cap, cur, h1, h2, h3, h4, h5, h6⟩
  · rw [h2]; simp
  · exact Nat.le_trans h2 h3
theorem Fit.slc_len (h : Fit w0 (sepL (slc e sz enc g cap l :: L)) w) : l.length ≤ cap ∧ cap ≤ maxLen := by
  obtain ⟨x, hx, a, c, hd, ee, ⟨h1, h2, _⟩, q⟩ := h.sat
  exact ⟨h1, h2⟩
theorem Fit.slc_cells (h : Fit w0 (sepL (slc e sz enc g cap l :: L)) w) : ∃ cur : Array Value, cur.size = cap * sz ∧ cur.toList.take (l.length * sz) = l.flatMap enc ∧ Fit w0 (sepL (pts g (.cells cur e) :: L)) w := by
  obtain ⟨x, hx, a, c, hd, ee, ⟨h1, h2, cur, h3, h4, h5⟩, q⟩ := h.sat
  exact ⟨cur, h3, h4, ⟨x, hx, a, c, hd, ee, h5, q⟩, h.os, h.tape, h.output, h.size⟩
theorem Fit.slc_get (he : Enc enc sz) (h : Fit w0 (sepL (slc e sz enc g cap l :: L)) w) (i f : Nat) (x : α) (u : Value) (hi : l[i]? = some x) (hf : (enc x)[f]? = some u) : w.cell? ⟨g, i * sz + f, none⟩ = some u := by
  obtain ⟨cur, h1, h2, h3⟩ := h.slc_cells
  have hfs : f < sz := by rw [← he.len x]; exact (List.getElem?_eq_some_iff.1 hf).1
  have hil : i < l.length := (List.getElem?_eq_some_iff.1 hi).1
  refine h3.cell _ ?_
  have h4 := he.get l i f x hi hfs
  rw [← h2, List.getElem?_take] at h4
  have : i * sz + f < l.length * sz := by
    have : (i + 1) * sz ≤ l.length * sz := Nat.mul_le_mul_right _ hil
    rw [Nat.add_mul] at this
    omega
  rw [if_pos this, hf] at h4
  simpa using h4
theorem Fit.slc_free (h : Fit w0 (sepL (slc e sz enc g cap l :: L)) w) (j : Nat) : w.frozen? ⟨g, j, none⟩ = false := by
  obtain ⟨cur, h1, h2, h3⟩ := h.slc_cells
  exact h3.free j

theorem take_set_list {β : Type} (cur xs : List β) (n i : Nat) (v : β) (h : cur.take n = xs) (_hi : i < n) : (cur.set i v).take n = xs.set i v := by
  subst h
  rw [List.take_set]

theorem set_mid {β : Type} (A B C : List β) (k f : Nat) (u : β) (hk : k = A.length) (hf : f < B.length) : (A ++ B ++ C).set (k + f) u = A ++ B.set f u ++ C := by
  subst hk
  rw [List.append_assoc, List.set_append_right _ _ (by omega), show A.length + f - A.length = f by omega, List.set_append_left _ _ hf, List.append_assoc]

/-- A cell of an element is written; what lies there now is to be told again as elements. -/
theorem Fit.slc_set (he : Enc enc sz) (h : Fit w0 (sepL (slc e sz enc g cap l :: L)) w) (i f : Nat) (x y : α) (u : Value) (hi : l[i]? = some x) (hf : f < sz) (hy : enc y = (enc x).set f u) :
    Fit w0 (sepL (slc e sz enc g cap (l.set i y) :: L)) (w.setCell ⟨g, i * sz + f, none⟩ u) := by
  obtain ⟨h1', h2'⟩ := h.slc_len
  obtain ⟨cur, h1, h2, h3⟩ := h.slc_cells
  have hil : i < l.length := (List.getElem?_eq_some_iff.1 hi).1
  refine (h3.set (i * sz + f) u).head fun z hz => ⟨by simpa using h1', h2', cur.setIfInBounds (i * sz + f) u, by simpa using h1, ?_, hz⟩
  have hlt : i * sz + f < l.length * sz := by
    have : (i + 1) * sz ≤ l.length * sz := Nat.mul_le_mul_right _ hil
    rw [Nat.add_mul] at this
    omega
  have hself : l.set i x = l := by
    apply List.ext_getElem?
    intro j
    by_cases hj : i = j
    · subst hj; rw [List.getElem?_set_self hil, hi]
    · rw [List.getElem?_set_ne hj]
  have hA : ((l.flatMap enc).take (i * sz)).length = i * sz := by
    have hle : i * sz ≤ l.length * sz := Nat.mul_le_mul_right _ (Nat.le_of_lt hil)
    rw [List.length_take, he.flat]; exact Nat.min_eq_left hle
  have e1 := he.set l i x hil
  rw [hself] at e1
  rw [Array.toList_setIfInBounds, List.length_set, take_set_list _ _ _ _ _ h2 hlt, he.set l i y hil, hy]
  conv => lhs; rw [e1]
  exact set_mid _ _ _ _ _ _ hA.symm (by rw [he.len]; exact hf)
end

section
variable {P : Program} {w0 w : World} {L : List HProp} {α : Type} {e : TypeId} {sz : Nat} {enc : α → List Value} {v : Value} {l : List α}

/-- append of elements that lie in cells: the slice has them behind the others. -/
theorem run_append_fit (he : Enc enc sz) (t ty : TypeId) (i : TypeInfo) (z : Value) (bytes : Nat) (ht : P.underlying t = some (.slice e)) (hi : P.info? e = some i) (hz : i.zero = some z)
    (hsize : i.size = sz) (hby : i.bytes = bytes) (hzs : z.cells.size = sz) (h : Fit w0 (sepL (rowOf e sz enc v l :: L)) w)
    (ad : Addr) (m c : Nat) (news : List α) (hm : news.length = m) (hnews : ∀ j u, (news.flatMap enc)[j]? = some u → w.cell? (ad.add j) = some u)
    (h63 : l.length + m ≤ maxLen) (hbytes : (l.length + m) * bytes ≤ 140737488355328) :
    ∃ v' w', (Builtin.append_ #[t, t] ty #[v, .slice (some ad) m c]).run P w = .ok v' w' ∧ Fit w0 (sepL (rowOf e sz enc v' (l ++ news) :: L)) w' := by
  subst hsize
  subst hby
  have hlen : (news.flatMap enc).length = m * i.size := by rw [he.flat, hm]
  have h63' : ((l.length + m : Nat) : Int) ≤ 9223372036854775807 := by simp only [maxLen] at h63; omega
  have grown : ∀ old, old < l.length + m → Fit w0 (sepL L) w →
      Fit w0 (sepL (rowOf e i.size enc (.slice (some ⟨w.heap.size, 0, none⟩) (l.length + m) (grownCap w (l.length + m) old e)) (l ++ news) :: L))
        (w.drew.alloc (.cells ((l.flatMap enc).toArray ++ (news.flatMap enc).toArray ++ Builtin.zeroCells z.cells (grownCap w (l.length + m) old e - (l.length + m))) e)) := by
    intro old ho hF
    have hge := grownCap_ge w (l.length + m) old e
    have hcm : grownCap w (l.length + m) old e ≤ maxLen := grownCap_le_maxLen w (l.length + m) old e h63
    refine (hF.drew.alloc _).head fun x hx => .inr ⟨w.heap.size, _, _, by rw [List.length_append, hm], by rw [List.length_append, hm]; exact hge, hcm, ?_, ?_, hx⟩
    · simp only [Array.size_append, List.size_toArray, size_zeroCells, hzs, he.flat, hm, ← Nat.add_mul]
      congr 1
      omega
    · rw [List.flatMap_append, List.length_append, hm]
      simp only [Array.toList_append]
      rw [show (l.length + m) * i.size = ((l.flatMap enc) ++ (news.flatMap enc)).length by rw [List.length_append, hlen, he.flat, Nat.add_mul]]
      exact List.take_left
  rcases h.rows with ⟨rfl, rfl, hF⟩ | ⟨g, cap, rfl, hc, hF⟩
  · by_cases hm0 : m = 0
    · subst hm0
      have hn : news = [] := List.eq_nil_of_length_eq_zero hm
      subst hn
      refine ⟨.slice none 0 0, w, ?_, hF.row_nil⟩
      simp [Builtin.append_, run_underlying ht, sizeOf, typeInfo, hi, Builtin.lenOf, Builtin.firstCells, loadCells, loadCellsFrom]
    · have hr := run_append_nil (P := P) w t ty e i z ht hi hz ad m c (news.flatMap enc) hlen hnews (by omega) (by simp at h63'; omega) (by have hb := hbytes; simp only [List.length_nil, Nat.zero_add] at hb; omega)
      have hg := grown 0 (by omega) hF
      simp only [List.length_nil, Nat.zero_add, List.nil_append, List.flatMap_nil, Array.empty_append] at hg
      exact ⟨_, _, hr, by simpa using hg⟩
  · obtain ⟨cur, hs, htk, hP⟩ := hF.slc_cells
    obtain ⟨_, hcm⟩ := hF.slc_len
    by_cases hroom : l.length + m ≤ cap
    · have hfit : l.length * i.size + (news.flatMap enc).length ≤ cur.size := by rw [hlen, hs, ← Nat.add_mul]; exact Nat.mul_le_mul_right _ hroom
      have hr := run_append_room (P := P) w t ty e i ht hi g l.length cap cur hP.block ad m c (news.flatMap enc) hlen hnews (he.flat_one news) hroom hfit
      refine ⟨_, _, hr, ?_⟩
      refine (hP.turn (w' := w.setRow g (cur.toList.take (l.length * i.size) ++ news.flatMap enc ++ cur.toList.drop (l.length * i.size + (news.flatMap enc).length)).toArray) (setRow_heap w g cur _ e _ hP.block) (fun k hk _ => setRow_other w g k _ hk) rfl rfl rfl (by simp)).head ?_
      intro x hx
      refine .inr ⟨g, cap, _, by rw [List.length_append, hm], by rw [List.length_append, hm]; exact hroom, hcm, ?_, ?_, hx⟩
      · simp only [List.size_toArray, List.length_append, List.length_take, List.length_drop, Array.length_toList]
        omega
      · rw [htk, List.flatMap_append, List.length_append, hm]
        rw [show (l.length + m) * i.size = ((l.flatMap enc) ++ (news.flatMap enc)).length by rw [List.length_append, hlen, he.flat, Nat.add_mul]]
        exact List.take_left
    · have holds : ∀ j u, (l.flatMap enc)[j]? = some u → w.cell? ((⟨g, 0, none⟩ : Addr).add j) = some u := by
        intro j u hu
        rw [Addr.add_lit, Nat.zero_add]
        refine hP.cell j ?_
        rw [← htk, List.getElem?_take] at hu
        split at hu
        · simpa using hu
        · cases hu
      have hr := run_append_grow (P := P) w t ty e i z ht hi hz ⟨g, 0, none⟩ l.length cap (l.flatMap enc) (he.flat l) holds ad m c (news.flatMap enc) hlen hnews (by omega) h63' (growslice_fits (by omega) hbytes)
      exact ⟨_, _, hr, grown cap (by omega) hP.drop⟩
end
end Go.Proofs.YtpikpffbcjpmcaaGreatDoor.SL
