/- A law's arguments, opened by their cells: slices of slices, structs within structs; a package variable that the row lists. No program is named here. -/
import Derived.Test.YtpikpffbcjpmcaaGreatDoorRK3
import Derived.Test.YtpikpffbcjpmcaaGreatDoorRn
import Derived.FnData
namespace Go.Proofs.YtpikpffbcjpmcaaGreatDoor.RK
open Go Go.RowKit Go.ChangeShapes Go.WideShapes Go.Deep Go.Proofs.YtpikpffbcjpmcaaGreatDoor.SL Go.Proofs.YtpikpffbcjpmcaaGreatDoor.GX
set_option linter.unusedVariables false
section
variable {H : Type} {encH : TypeId × Value → H} {P : Program} {W : World} {base : Nat} {spare : Nat → Bool} {held : Bool} {t e : TypeId} {n : Nat} {cs : List Value} {y : DataW H × List MemPlace}
theorem bulk_le {l : List (DataW H)} {d : DataW H} (h : d ∈ l) : Rows.uptoBulk d ≤ Rows.uptoBulkAll l := bulk_part h
/-- A field of a struct: its cells; its bulk. -/
theorem tr_fld {fs : Array Field} (hs : P.underlying t = some (.struct fs)) (h : DataW.trod encH P W base spare held n t cs = some y) (i : Nat) {f : Field} (hf : fs[i]? = some f) :
    ∃ m z, DataW.trod encH P W base spare held m f.type ((cs.drop f.offset).take (P.cellsOf f.type)) = some z ∧ Rows.uptoBulk z.1 ≤ Rows.uptoBulk y.1 := by
  obtain ⟨xs, m, _, hx, _, hl, hg⟩ := DataW.trod_struct hs h
  have hi : i < fs.size := (Array.getElem?_eq_some_iff.1 hf).1
  have hg := hg i f hf
  rw [List.getElem?_eq_getElem (by omega)] at hg
  refine ⟨m, _, hg, ?_⟩
  rw [hx]
  simp only [Rows.uptoBulk]
  have := bulk_le (l := xs.map (·.1)) (List.mem_map.2 ⟨_, List.getElem_mem (show i < xs.length by omega), rfl⟩)
  omega
theorem tr_len {fs : Array Field} (hs : P.underlying t = some (.struct fs)) (h : DataW.trod encH P W base spare held n t cs = some y) : cs.length = P.cellsOf t := by
  obtain ⟨xs, m, _, hx, hl, _⟩ := DataW.trod_struct hs h
  exact hl
theorem tr_int (ht : P.underlying t = some (.int .i64)) (h : DataW.trod encH P W base spare held n t cs = some y) : ∃ x : Int, cs = [.int .i64 x] ∧ In64 x := by
  obtain ⟨x, hx, _, hw⟩ := DataW.trod_int ht h
  exact ⟨x, hx, wf_i64 hw⟩
/-- A slice whose elements are told by x and by what is kept beside it. -/
theorem tr_row {α : Type} {Q : α → DataW H → Prop} {enc : α → List Value} {sz : Nat} (he : Enc enc sz) (ht : P.underlying t = some (.slice e)) (hC : P.cellsOf e = sz)
    (hdec : ∀ n cs y, DataW.trod encH P W base spare held n e cs = some y → cs.length = sz → ∃ x : α, cs = enc x ∧ Q x y.1) (h : DataW.trod encH P W base spare held n t cs = some y) :
    ∃ (va : Option Addr) (l : List α) (cap : Nat), cs = [.slice va l.length cap] ∧ RdRow [old W] sz enc va l ∧ (∀ x ∈ l, ∃ d, Q x d ∧ Rows.uptoBulk d ≤ Rows.uptoBulk y.1) ∧ l.length + 1 ≤ Rows.uptoBulk y.1 ∧ l.length ≤ cap := by
  rcases open_slice ht h with ⟨h0, _⟩ | ⟨a', len, cap, m, n, D, Pl, hcs, _, hl, hm, hmm, hx, hi⟩
  · exact ⟨none, [], 0, h0, RdRow.nil, fun x h => by simp at h, by simpa using bulk_one y.1, by simp⟩
  · have hlm : len ≤ m := by rw [hmm]; split <;> omega
    rw [hC] at hi
    have hex : ∀ i, i < m → ∃ x : α, W.cells? base (a'.add (i * sz)) sz = some (enc x) ∧ Q x (D i) := fun i him => by
      obtain ⟨cs', h1, h2⟩ := hi i him
      obtain ⟨_, h3, _⟩ := World.cells?_some h1
      obtain ⟨x, hx, hq⟩ := hdec n cs' _ h2 h3
      exact ⟨x, by rw [h1, hx], hq⟩
    have hlen : ∀ k, k ≤ m → ∃ l : List α, l.length = k ∧ ∀ i x, l[i]? = some x → W.cells? base (a'.add (i * sz)) sz = some (enc x) ∧ Q x (D i) := by
      intro k
      induction k with
      | zero => intro _; exact ⟨[], rfl, fun i x h => by simp at h⟩
      | succ k ih =>
        intro hk
        obtain ⟨l, h1, h2⟩ := ih (by omega)
        obtain ⟨x, hx⟩ := hex k (by omega)
        refine ⟨l ++ [x], by simp [h1], fun i y hy => ?_⟩
        by_cases hik : i < l.length
        · rw [List.getElem?_append_left hik] at hy; exact h2 i y hy
        · rw [List.getElem?_append_right (by omega)] at hy
          have hi0 : i = k := by
            have := (List.getElem?_eq_some_iff.1 hy).1
            simp at this; omega
          subst hi0
          rw [h1, Nat.sub_self] at hy
          simp at hy; subst hy; exact hx
    obtain ⟨l, hl1, hl2⟩ := hlen len hlm
    have hd : y.1 = .slice ((List.range len).map D) ((List.range (m - len)).map fun j => D (len + j)) := congrArg Prod.fst hx
    refine ⟨some a', l, cap, by rw [hl1]; exact hcs, fun i x hx => ?_, fun x hx => ?_, ?_, by omega⟩
    · have hc := (hl2 i x hx).1
      obtain ⟨_, _, hat⟩ := World.cells?_some hc
      have hcell : ∀ f u, (enc x)[f]? = some u → W.cell? ((a'.add (i * sz)).add f) = some u := fun f u hu => by
        have hf : f < sz := by rw [← he.len x]; exact (List.getElem?_eq_some_iff.1 hu).1
        rw [hat f hf, hu]
      have hsp : a'.spot = none := by
        have hp := he.pos
        have hil : i < l.length := (List.getElem?_eq_some_iff.1 hx).1
        have hx0 : l[0]? = some (l[0]'(by omega)) := List.getElem?_eq_getElem (by omega)
        obtain ⟨_, _, hat0⟩ := World.cells?_some (hl2 0 _ hx0).1
        have h0 : 0 < (enc (l[0]'(by omega))).length := by rw [he.len]; exact hp
        have h1 : W.cell? ((a'.add (0 * sz)).add 0) = some _ := (hat0 0 hp).trans (List.getElem?_eq_getElem h0)
        have h2 := World.cell?_spot h1
        rw [Nat.zero_mul, Addr.add, if_pos rfl, Addr.add, if_pos rfl] at h2
        exact h2
      obtain ⟨ab, ao, asp⟩ := a'
      simp only at hsp
      subst hsp
      refine ⟨rfl, fun f u hu z w hw => ?_⟩
      refine hw.old_cell ?_
      have := hcell f u hu
      rw [Addr.add_lit, Addr.add_lit] at this
      exact this
    · obtain ⟨i, hi, rfl⟩ := List.getElem_of_mem hx
      obtain ⟨_, hq⟩ := hl2 i _ (List.getElem?_eq_getElem hi)
      refine ⟨D i, hq, ?_⟩
      rw [hd]
      simp only [Rows.uptoBulk]
      have := bulk_le (l := (List.range len).map D) (List.mem_map.2 ⟨i, List.mem_range.2 (by omega), rfl⟩)
      omega
    · rw [hd, hl1]
      simp only [Rows.uptoBulk]
      have := bulk_len ((List.range len).map D)
      simp only [List.length_map, List.length_range] at this
      omega
theorem tr_ints (ht : P.underlying t = some (.slice e)) (he : P.underlying e = some (.int .i64)) (hC : P.cellsOf e = 1) (h : DataW.trod encH P W base spare held n t cs = some y) :
    ∃ (va : Option Addr) (l : List Int) (cap : Nat), cs = [.slice va l.length cap] ∧ RdRow [old W] 1 encZ_i64 va l ∧ (∀ x ∈ l, In64 x) ∧ l.length + 1 ≤ Rows.uptoBulk y.1 ∧ l.length ≤ cap := by
  obtain ⟨va, l, cap, h1, h2, h3, h4, h5⟩ := tr_row (Q := fun x _ => In64 x) encZ_i64_ok ht hC (fun n cs y h hl => by
    obtain ⟨x, hx, hi⟩ := tr_int he h
    exact ⟨x, by rw [hx]; rfl, hi⟩) h
  exact ⟨va, l, cap, h1, h2, fun x hx => by obtain ⟨_, h, _⟩ := h3 x hx; exact h, h4, h5⟩
/-- A slice of structs that hold, beside numbers, one slice each. -/
theorem tr_rown {α β : Type} {Q : α → DataW H → Prop} {enc : Option Addr → Nat → α → List Value} {encI : β → List Value} {fld : α → List β} {sz szI : Nat} (he : ∀ a c, Enc (enc a c) sz) (ht : P.underlying t = some (.slice e)) (hC : P.cellsOf e = sz)
    (hdec : ∀ n cs y, DataW.trod encH P W base spare held n e cs = some y → cs.length = sz → ∃ (a : Option Addr) (c : Nat) (x : α), cs = enc a c x ∧ RdRow [old W] szI encI a (fld x) ∧ Q x y.1) (h : DataW.trod encH P W base spare held n t cs = some y) :
    ∃ (va : Option Addr) (hs : Nat → Option Addr × Nat) (l : List α) (cap : Nat), cs = [.slice va l.length cap] ∧ RdN [old W] sz szI enc encI fld va hs l ∧ (∀ x ∈ l, ∃ d, Q x d ∧ Rows.uptoBulk d ≤ Rows.uptoBulk y.1) ∧ l.length + 1 ≤ Rows.uptoBulk y.1 ∧ l.length ≤ cap := by
  obtain ⟨va, l, cap, h1, h2, h3, h4, h5⟩ := tr_row (α := (Option Addr × Nat) × α) (Q := fun p d => RdRow [old W] szI encI p.1.1 (fld p.2) ∧ Q p.2 d) (enc := fun p => enc p.1.1 p.1.2 p.2)
    ⟨fun p => (he _ _).len _, fun p u h => (he _ _).one _ u h, (he none 0).pos⟩ ht hC (fun n cs y h hl => by
      obtain ⟨a, c, x, e1, e2, e3⟩ := hdec n cs y h hl
      exact ⟨((a, c), x), e1, e2, e3⟩) h
  refine ⟨va, fun i => (l[i]?.map (·.1)).getD (none, 0), l.map (·.2), cap, by rw [List.length_map]; exact h1, fun i x hx => ?_, fun x hx => ?_, by rw [List.length_map]; exact h4, by rw [List.length_map]; exact h5⟩
  · rw [List.getElem?_map] at hx
    cases hq : l[i]? with
    | none => rw [hq] at hx; cases hx
    | some p =>
      rw [hq] at hx
      simp only [Option.map_some, Option.some.injEq] at hx
      subst hx
      obtain ⟨a1, a2⟩ := h2 i p hq
      obtain ⟨_, a3, _⟩ := h3 p (List.mem_of_getElem? hq)
      simp only [hq, Option.map_some, Option.getD_some]
      exact ⟨a1, a2, a3.1⟩
  · obtain ⟨p, hp, rfl⟩ := List.mem_map.1 hx
    obtain ⟨d, a, b⟩ := h3 p hp
    exact ⟨d, a.2, b⟩
end
/-- A package variable, an array, that the row lists. -/
theorem laid_row {P : Program} {W : World} {α : Type} {enc : α → List Value} {dE : α → DataW Unit} {sz : Nat} {name : String} {g : Nat} {t e : TypeId} {N : Nat} {l : List α} {rest : List (String × DataW Unit)} {ps : List MemPlace} (hsz : 0 < sz)
    (hg : P.globalNamed name = some g) (hty : (P.globals[g]?).map (·.type) = some t) (ht : P.underlying t = some (.array N e)) (hC : P.cellsOf e = sz) (hCt : P.cellsOf t = N * sz) (hN : N = l.length)
    (hlen : ∀ x, (enc x).length = sz) (hdec : ∀ m cs y x, DataW.trod (fun _ => ()) P W 0 (fun _ => true) false m e cs = some y → cs.length = sz → y.1 = dE x → cs = enc x)
    (h : DataW.LaidVars P W ((name, .agg (l.map dE)) :: rest) ps) : RdRow [old W] sz enc (some ⟨g, 0, none⟩) l ∧ ∃ qs, DataW.LaidVars P W rest qs := by
  obtain ⟨g', t', cs, fuel, p, q, hg', ht', hvar, hd, hr, _⟩ := h
  obtain rfl := Option.some.inj (hg.symm.trans hg')
  obtain rfl := Option.some.inj (hty.symm.trans ht')
  refine ⟨fun i x hx => ?_, _, hr⟩
  have hi : i < l.length := (List.getElem?_eq_some_iff.1 hx).1
  refine ⟨rfl, fun f u hu z w hw => hw.old_cell ?_⟩
  obtain ⟨xs, m, _, ex, hlc, hl, hel⟩ := DataW.trod_array ht hd
  have hf : f < sz := by rw [← hlen x]; exact (List.getElem?_eq_some_iff.1 hu).1
  have h1 := hel i (by omega)
  rw [hC, List.getElem?_eq_getElem (by omega)] at h1
  have h2 : (xs[i]'(by omega)).1 = dE x := by
    simp only [Prod.mk.injEq, DataW.agg.injEq] at ex
    have := congrArg (·[i]?) ex.1
    simp only [List.getElem?_map, hx, Option.map_some, List.getElem?_eq_getElem (show i < xs.length by omega), Option.some.injEq] at this
    exact this.symm
  have hlt : cs.toList.length = N * sz := by rw [hlc, hCt]
  have h4 : i * sz + sz ≤ N * sz := by
    have := Nat.mul_le_mul_right sz (show i + 1 ≤ N by omega)
    rw [Nat.succ_mul] at this; exact this
  have h3 := hdec m _ _ x h1 (by rw [List.length_take, List.length_drop, hlt]; omega) h2
  have := World.var?_cell hg hvar (i * sz + f)
  rw [show (offs (some ⟨g, 0, none⟩ : Option Addr)) = 0 from rfl, Nat.zero_add]
  show W.cell? ⟨g, i * sz + f, none⟩ = some u
  rw [this, ← Array.getElem?_toList]
  rw [← h3, List.getElem?_take, if_pos hf, List.getElem?_drop] at hu
  exact hu
end Go.Proofs.YtpikpffbcjpmcaaGreatDoor.RK
