/- A law's rows of 64-bit numbers, opened with what their numbers are bound by. -/
import Derived.Test.YtpikpffbcjpmcaaGreatDoorRK2
import Derived.OpenShut
namespace Go.Proofs.YtpikpffbcjpmcaaGreatDoor.RK
open Go Go.RowKit Go.ChangeShapes Go.WideShapes Go.Deep Go.Proofs.YtpikpffbcjpmcaaGreatDoor.SL Go.Proofs.YtpikpffbcjpmcaaGreatDoor.GX
set_option linter.unusedVariables false
/-- A 64-bit number. -/
def In64 (x : Int) : Prop := -9223372036854775808 ≤ x ∧ x ≤ 9223372036854775807
section
variable {H : Type} {encH : TypeId × Value → H} {P : Program} {W : World} {base : Nat} {spare : Nat → Bool} {held : Bool} {r : Reach} {b0 : Nat} {t e : TypeId} {v : Value} {d : DataW H} {ps : List MemPlace}
/-- A slice whose elements are flat, with what is known of each. -/
theorem open_rowQ {α : Type} {Q : α → Prop} {enc : α → List Value} {sz : Nat} (he : Enc enc sz) (ht : P.underlying t = some (.slice e)) (hC : P.cellsOf e = sz)
    (hdec : ∀ n cs y, DataW.trod encH P W base spare held n e cs = some y → cs.length = sz → ∃ x : α, cs = enc x ∧ Q x) (hv : Value.okWide P W r b0 t v) (h : DataW.Trod encH P W base spare held t v d ps) :
    ∃ (va : Option Addr) (l : List α) (cap : Nat), v = .slice va l.length cap ∧ RdRow [old W] sz enc va l ∧ (∀ x ∈ l, Q x) ∧ l.length + 1 ≤ Rows.uptoBulk d ∧ l.length ≤ 9223372036854775807 := by
  have he2 : Enc (fun x : { x : α // Q x } => enc x.1) sz := ⟨fun x => he.len x.1, fun x u h => he.one x.1 u h, he.pos⟩
  obtain ⟨va, l, cap, h1, h2, h3, h4⟩ := open_row (α := { x : α // Q x }) (enc := fun x => enc x.1) he2 ht hC (fun n cs y h hl => by
    obtain ⟨x, hx, hq⟩ := hdec n cs y h hl
    exact ⟨⟨x, hq⟩, hx⟩) hv h
  refine ⟨va, l.map Subtype.val, cap, by rw [List.length_map]; exact h1, ?_, fun x hx => ?_, by rw [List.length_map]; exact h3, by rw [List.length_map]; exact h4⟩
  · intro i x hx
    rw [List.getElem?_map] at hx
    cases hq : l[i]? with
    | none => rw [hq] at hx; cases hx
    | some y =>
      rw [hq] at hx
      simp only [Option.map_some, Option.some.injEq] at hx
      subst hx
      exact h2 i y hq
  · obtain ⟨y, _, rfl⟩ := List.mem_map.1 hx
    exact y.2
/-- The cells of a struct of 64-bit integers. -/
theorem dec_intsQ {fs : Array Field} (hs : P.underlying e = some (.struct fs)) (hone : oneCellFields P fs = true) (hi : i64Fields P fs = true) (hC : P.cellsOf e = fs.size) {n : Nat} {cs : List Value} {y : DataW H × List MemPlace}
    (h : DataW.trod encH P W base spare held n e cs = some y) (hl : cs.length = fs.size) : ∃ xs : List Int, xs.length = fs.size ∧ cs = xs.map (Value.int .i64) ∧ ∀ x ∈ xs, In64 x := by
  obtain ⟨ys, n', _, _, _, hyl, hg⟩ := DataW.trod_struct hs h
  have each : ∀ j, (hj : j < cs.length) → ∃ x : Int, cs[j] = .int .i64 x ∧ In64 x := by
    intro j hj
    have hjf : j < fs.size := by omega
    have hfj : fs[j]? = some fs[j] := Array.getElem?_eq_getElem hjf
    obtain ⟨ho, hk⟩ := hone_of hone j _ hfj
    have hg := hg j _ hfj
    rw [ho, hk] at hg
    have hc : (cs.drop j).take 1 = [cs[j]] := by rw [List.drop_eq_getElem_cons hj]; rfl
    rw [hc, List.getElem?_eq_getElem (by omega)] at hg
    have hty : P.underlying fs[j].type = some (.int .i64) := by
      have := Array.all_eq_true.1 hi j hjf
      revert this
      cases hu : P.underlying fs[j].type with
      | none => simp
      | some q => cases q with
        | int k => cases k <;> simp
        | _ => simp
    obtain ⟨x, hx, _, hw⟩ := DataW.trod_int hty hg
    exact ⟨x, by simpa using hx, wf_i64 hw⟩
  refine ⟨cs.map (fun v => match v with | .int _ x => x | _ => 0), by simpa using hl, ?_, fun x hx => ?_⟩
  · rw [List.map_map]
    apply List.ext_getElem
    · simp
    · intro j h1 h2
      obtain ⟨x, hx, _⟩ := each j h1
      simp [hx]
  · obtain ⟨v, hv, rfl⟩ := List.mem_map.1 hx
    obtain ⟨j, hj, hv⟩ := List.getElem_of_mem hv
    obtain ⟨x, hx, hq⟩ := each j hj
    rw [← hv, hx]
    exact hq
/-- A field of a struct whose fields are one cell each. -/
theorem dec_field {fs : Array Field} (hs : P.underlying e = some (.struct fs)) (hone : oneCellFields P fs = true) {n : Nat} {cs : List Value} {y : DataW H × List MemPlace}
    (h : DataW.trod encH P W base spare held n e cs = some y) (hl : cs.length = fs.size) (j : Nat) {f : Field} (hf : fs[j]? = some f) {c : Value} (hc0 : cs[j]? = some c) : ∃ m z, DataW.trod encH P W base spare held m f.type [c] = some z := by
  obtain ⟨ys, n', _, _, _, hyl, hg⟩ := DataW.trod_struct hs h
  have hj : j < cs.length := (List.getElem?_eq_some_iff.1 hc0).1
  obtain ⟨ho, hk⟩ := hone_of hone j _ hf
  have hg := hg j _ hf
  rw [ho, hk] at hg
  have hc : (cs.drop j).take 1 = [c] := by rw [List.drop_eq_getElem_cons hj, (List.getElem?_eq_some_iff.1 hc0).2]; rfl
  rw [hc, List.getElem?_eq_getElem (by omega)] at hg
  exact ⟨_, _, hg⟩
/-- An array of 64-bit integers, by value. -/
theorem open_i64_arr {N : Nat} (hs : P.underlying t = some (.array N e)) (he : P.underlying e = some (.int .i64)) (hCe : P.cellsOf e = 1) (hC : P.cellsOf t = N) (hv : Value.okWide P W r b0 t v) (h : DataW.Trod encH P W base spare held t v d ps) :
    ∃ xs : List Int, xs.length = N ∧ v = .agg (xs.map (Value.int .i64)).toArray := by
  obtain ⟨cs, rfl, hsz⟩ : ∃ cs, v = .agg cs ∧ cs.size = P.cellsOf t := by
    simp only [Value.okWide, hs] at hv
    obtain ⟨cs, h1, h2, _⟩ := hv
    exact ⟨cs, h1, h2⟩
  obtain ⟨fuel, hf⟩ := h
  obtain ⟨ys, n, _, _, hlen, hyl, hg⟩ := DataW.trod_array hs hf
  have each : ∀ j, (hj : j < cs.size) → ∃ x : Int, cs[j] = .int .i64 x := by
    intro j hj
    have hg := hg j (by omega)
    rw [hCe, Nat.mul_one] at hg
    have hc : ((Value.agg cs).cells.toList.drop j).take 1 = [cs[j]] := by
      simp only [Value.cells]
      rw [List.drop_eq_getElem_cons (by simpa using hj)]
      simp
    rw [hc, List.getElem?_eq_getElem (by omega)] at hg
    obtain ⟨x, hx, _, hw⟩ := DataW.trod_int he hg
    exact ⟨x, by simpa using hx⟩
  refine ⟨cs.toList.map (fun v => match v with | .int _ x => x | _ => 0), by simp; omega, ?_⟩
  congr 1
  apply Array.ext
  · simp
  · intro j h1 h2
    obtain ⟨x, hx⟩ := each j h1
    simp [hx]
end
end Go.Proofs.YtpikpffbcjpmcaaGreatDoor.RK
