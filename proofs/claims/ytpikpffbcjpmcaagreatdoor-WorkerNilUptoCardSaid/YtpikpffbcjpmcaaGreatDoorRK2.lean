/- A law's arguments, opened as rows that are only read; what the bulk's bound gives. -/
import Derived.Test.YtpikpffbcjpmcaaGreatDoorN
import Derived.Test.YtpikpffbcjpmcaaGreatDoorRK
import Derived.Test.YtpikpffbcjpmcaaGreatDoorRows
namespace Go.Proofs.YtpikpffbcjpmcaaGreatDoor.RK
open Go Go.RowKit Go.ChangeShapes Go.WideShapes Go.Deep Go.Proofs.YtpikpffbcjpmcaaGreatDoor.SL Go.Proofs.YtpikpffbcjpmcaaGreatDoor.GX
set_option linter.unusedVariables false
theorem bulk_one {H : Type} (d : DataW H) : 1 ≤ Rows.uptoBulk d := by
  cases d with
  | lit l => cases l <;> simp [Rows.uptoBulk]
  | nil => simp [Rows.uptoBulk]
  | ptr d => simp [Rows.uptoBulk]
  | slice elems spare => simp [Rows.uptoBulk]
  | agg parts => simp [Rows.uptoBulk]
  | iface t d => simp [Rows.uptoBulk]
  | map entries => simp [Rows.uptoBulk]
  | held h => simp [Rows.uptoBulk]
theorem bulk_part {H : Type} {d : DataW H} {l : List (DataW H)} (h : d ∈ l) : Rows.uptoBulk d ≤ Rows.uptoBulkAll l := by
  induction l with
  | nil => cases h
  | cons x r ih =>
    simp only [Rows.uptoBulkAll]
    cases List.mem_cons.1 h with
    | inl e => subst e; omega
    | inr e => have := ih e; omega
theorem bulk_len {H : Type} (l : List (DataW H)) : l.length ≤ Rows.uptoBulkAll l := by
  induction l with
  | nil => simp
  | cons x r ih => have := bulk_one x; simp only [Rows.uptoBulkAll, List.length_cons]; omega
section
variable {H : Type} {encH : TypeId × Value → H} {P : Program} {W : World} {base : Nat} {spare : Nat → Bool} {held : Bool} {r : Reach} {b0 : Nat} {t e : TypeId} {v : Value} {d : DataW H} {ps : List MemPlace}
/-- A slice whose elements are flat. -/
theorem open_row {α : Type} {enc : α → List Value} {sz : Nat} (he : Enc enc sz) (ht : P.underlying t = some (.slice e)) (hC : P.cellsOf e = sz)
    (hdec : ∀ n cs y, DataW.trod encH P W base spare held n e cs = some y → cs.length = sz → ∃ x : α, cs = enc x) (hv : Value.okWide P W r b0 t v) (h : DataW.Trod encH P W base spare held t v d ps) :
    ∃ (va : Option Addr) (l : List α) (cap : Nat), v = .slice va l.length cap ∧ RdRow [old W] sz enc va l ∧ l.length + 1 ≤ Rows.uptoBulk d ∧ l.length ≤ 9223372036854775807 := by
  obtain ⟨a, len, cap, rfl⟩ := okWide_slice ht hv
  obtain ⟨fuel, hf⟩ := h
  rcases open_slice ht hf with ⟨h0, _⟩ | ⟨a', len', cap', m, n, D, Pl, hcs, _, hl, hm, hmm, hx, hi⟩
  · simp only [Value.cells, List.cons.injEq, and_true, Value.slice.injEq] at h0
    obtain ⟨rfl, rfl, rfl⟩ := h0
    exact ⟨none, [], 0, rfl, RdRow.nil, by simpa using bulk_one d, by simp⟩
  · simp only [Value.cells, List.cons.injEq, and_true, Value.slice.injEq] at hcs
    obtain ⟨rfl, rfl, rfl⟩ := hcs
    have hlm : len ≤ m := by rw [hmm]; split <;> omega
    rw [hC] at hi
    have hex : ∀ i, i < m → ∃ x : α, W.cells? base (a'.add (i * sz)) sz = some (enc x) := fun i him => by
      obtain ⟨cs', h1, h2⟩ := hi i him
      obtain ⟨_, h3, _⟩ := World.cells?_some h1
      obtain ⟨x, hx⟩ := hdec n cs' _ h2 h3
      exact ⟨x, by rw [h1, hx]⟩
    have hlen : ∀ k, k ≤ m → ∃ l : List α, l.length = k ∧ ∀ i x, l[i]? = some x → W.cells? base (a'.add (i * sz)) sz = some (enc x) := by
      intro k
      induction k with
      | zero => intro _; exact ⟨[], rfl, fun i x h => by simp at h⟩
      | succ k ih =>
        intro hk
        obtain ⟨l, h1, h2⟩ := ih (by omega)
        obtain ⟨x, hx⟩ := hex k (by omega)
        refine ⟨l ++ [x], by simp [h1], fun i y hy => ?_⟩
        by_cases hik : i < l.length
        · rw [List.getElem?_append_left hik] at hy; exact h2 i y hy
        · rw [List.getElem?_append_right (by omega)] at hy
          have hi0 : i = k := by
            have := (List.getElem?_eq_some_iff.1 hy).1
            simp at this; omega
          subst hi0
          rw [h1, Nat.sub_self] at hy
          simp at hy; subst hy; exact hx
    obtain ⟨l, hl1, hl2⟩ := hlen len hlm
    refine ⟨some a', l, cap, by rw [hl1], fun i x hx => ?_, ?_, by rw [hl1]; unfold maxLen at hm; omega⟩
    · have hc := hl2 i x hx
      obtain ⟨_, _, hat⟩ := World.cells?_some hc
      have hcell : ∀ f u, (enc x)[f]? = some u → W.cell? ((a'.add (i * sz)).add f) = some u := fun f u hu => by
        have hf : f < sz := by rw [← he.len x]; exact (List.getElem?_eq_some_iff.1 hu).1
        rw [hat f hf, hu]
      have hsp : a'.spot = none := by
        have hp := he.pos
        have hil : i < l.length := (List.getElem?_eq_some_iff.1 hx).1
        have hx0 : l[0]? = some (l[0]'(by omega)) := List.getElem?_eq_getElem (by omega)
        obtain ⟨_, _, hat0⟩ := World.cells?_some (hl2 0 _ hx0)
        have h0 : 0 < (enc (l[0]'(by omega))).length := by rw [he.len]; exact hp
        have h1 : W.cell? ((a'.add (0 * sz)).add 0) = some _ := (hat0 0 hp).trans (List.getElem?_eq_getElem h0)
        have h2 := World.cell?_spot h1
        rw [Nat.zero_mul, Addr.add, if_pos rfl, Addr.add, if_pos rfl] at h2
        exact h2
      obtain ⟨ab, ao, asp⟩ := a'
      simp only at hsp
      subst hsp
      refine ⟨rfl, fun f u hu z w hw => ?_⟩
      refine hw.old_cell ?_
      have := hcell f u hu
      rw [Addr.add_lit, Addr.add_lit] at this
      exact this
    · have hd : d = .slice ((List.range len).map D) ((List.range (m - len)).map fun j => D (len + j)) := congrArg Prod.fst hx
      rw [hd, hl1]
      simp only [Rows.uptoBulk]
      have := bulk_len ((List.range len).map D)
      simp only [List.length_map, List.length_range] at this
      omega
theorem cap_of {va : Option Addr} {len cap : Nat} (ht : P.underlying t = some (.slice e)) (h : DataW.Trod encH P W base spare held t (.slice va len cap) d ps) : len ≤ cap := by
  obtain ⟨fuel, hf⟩ := h
  rcases open_slice ht hf with ⟨h0, _⟩ | ⟨a', len', cap', m, n, D, Pl, hcs, _, hl, hm, hmm, hx, hi⟩
  · simp only [Value.cells, List.cons.injEq, and_true, Value.slice.injEq] at h0
    omega
  · simp only [Value.cells, List.cons.injEq, and_true, Value.slice.injEq] at hcs
    omega
/-- The cells of a struct of 64-bit integers. -/
theorem dec_ints {fs : Array Field} (hs : P.underlying e = some (.struct fs)) (hone : oneCellFields P fs = true) (hi : i64Fields P fs = true) (hC : P.cellsOf e = fs.size) {n : Nat} {cs : List Value} {y : DataW H × List MemPlace}
    (h : DataW.trod encH P W base spare held n e cs = some y) (hl : cs.length = fs.size) : ∃ xs : List Int, xs.length = fs.size ∧ cs = xs.map (Value.int .i64) := by
  obtain ⟨ys, n', _, _, _, hyl, hg⟩ := DataW.trod_struct hs h
  have each : ∀ j, (hj : j < cs.length) → ∃ x : Int, cs[j] = .int .i64 x := by
    intro j hj
    have hjf : j < fs.size := by omega
    have hfj : fs[j]? = some fs[j] := Array.getElem?_eq_getElem hjf
    obtain ⟨ho, hk⟩ := hone_of hone j _ hfj
    have hg := hg j _ hfj
    rw [ho, hk] at hg
    have hc : (cs.drop j).take 1 = [cs[j]] := by rw [List.drop_eq_getElem_cons hj]; rfl
    rw [hc, List.getElem?_eq_getElem (by omega)] at hg
    have hty : P.underlying fs[j].type = some (.int .i64) := by
      have := Array.all_eq_true.1 hi j hjf
      revert this
      cases hu : P.underlying fs[j].type with
      | none => simp
      | some q => cases q with
        | int k => cases k <;> simp
        | _ => simp
    obtain ⟨x, hx, _, _⟩ := DataW.trod_int hty hg
    exact ⟨x, by simpa using hx⟩
  refine ⟨cs.map (fun v => match v with | .int _ x => x | _ => 0), by simpa using hl, ?_⟩
  rw [List.map_map]
  apply List.ext_getElem
  · simp
  · intro j h1 h2
    obtain ⟨x, hx⟩ := each j h1
    simp [hx]
end
end Go.Proofs.YtpikpffbcjpmcaaGreatDoor.RK
