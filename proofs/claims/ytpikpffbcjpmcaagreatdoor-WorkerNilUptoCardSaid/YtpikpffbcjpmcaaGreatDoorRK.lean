/- The arguments of a law: opened to what the walks ask for, and read again behind the call. No program is named here. -/
import Derived.Test.YtpikpffbcjpmcaaGreatDoorAr
import Derived.Carry
import Derived.ChangeSlices
import Derived.ChangeOld
import Derived.Deep.Fields
import Derived.Deep.Slices
import Derived.DataReads
import Derived.OpenShut
namespace Go.Proofs.YtpikpffbcjpmcaaGreatDoor.RK
open Go Go.RowKit Go.ChangeShapes Go.WideShapes Go.Deep Go.Proofs.YtpikpffbcjpmcaaGreatDoor.SL Go.Proofs.YtpikpffbcjpmcaaGreatDoor.GX Go.Proofs.YtpikpffbcjpmcaaGreatDoor.Ar
section
variable {H : Type} {enc : TypeId × Value → H} {P : Program} {w W : World} {base : Nat} {spare : Nat → Bool} {held : Bool} {r : Reach} {b0 : Nat} {t e : TypeId} {v : Value} {d : DataW H} {ps : List MemPlace}

/-- What lies below the old heap's end reads as it did. -/
theorem trodAll_below (hl : laidOutB P = true) {W' : World} (hb : Below W.heap.size W W') : ∀ {ts : List TypeId} {vs : List Value} {ds : List (DataW H)} {ps : List MemPlace},
    ts.all (fun t => P.readableRec t && decide (t < P.types.size)) = true → DataW.TrodAll enc P W 0 (fun _ => true) true ts vs ds ps → DataW.TrodAll enc P W' 0 (fun b => decide (b < W.heap.size)) true ts vs ds ps
  | [], [], [], _, _, h => h
  | t :: ts, v :: vs, d :: ds, _, hts, ⟨p, q, h1, h2, e⟩ => by
    simp only [List.all_cons, Bool.and_eq_true, decide_eq_true_eq] at hts
    refine ⟨p, q, Below.trod hl hts.1.1 hts.1.2 h1 hb ?_, trodAll_below hl hb hts.2 h2, e⟩
    obtain ⟨n, hn⟩ := h1
    exact DataW.trod_lt n _ _ _ hn

theorem wf_i64 {x : Int} (h : (Lit.int .i64 x).wf = true) : -9223372036854775808 ≤ x ∧ x ≤ 9223372036854775807 := by
  simp only [Lit.wf, Bool.and_eq_true, decide_eq_true_eq] at h
  exact ⟨h.1, h.2⟩

/-- A slice of 64-bit integers. -/
theorem open_i64s (ht : P.underlying t = some (.slice e)) (he : P.underlying e = some (.int .i64)) (hc : P.cellsOf e = 1) (hv : Value.okWide P W r b0 t v) (h : DataW.Trod enc P W base spare held t v d ps) :
    ∃ (va : Option Addr) (zs : List Int) (cap : Nat), v = .slice va zs.length cap ∧ ArgV W encI 1 va zs ∧ zs.length ≤ 9223372036854775807 ∧ (∀ z ∈ zs, -9223372036854775808 ≤ z ∧ z ≤ 9223372036854775807) := by
  obtain ⟨a, len, cap, rfl⟩ := okWide_slice ht hv
  obtain ⟨fuel, hf⟩ := h
  rcases open_ints ht he hc hf with ⟨h0, _⟩ | ⟨a', len', cap', zs, hcs, _, hl, hm, hz, _, hcell, hwz⟩
  · simp only [Value.cells, List.cons.injEq, and_true, Value.slice.injEq] at h0
    obtain ⟨rfl, rfl, rfl⟩ := h0
    exact ⟨none, [], 0, rfl, fun h => absurd h (by simp), by simp, by simp⟩
  · simp only [Value.cells, List.cons.injEq, and_true, Value.slice.injEq] at hcs
    obtain ⟨rfl, rfl, rfl⟩ := hcs
    have hlz : len ≤ zs.length := by rw [hz]; split <;> omega
    refine ⟨some a', zs.take len, cap, by rw [List.length_take, Nat.min_eq_left hlz], fun h0 => ?_, by rw [List.length_take]; unfold maxLen at hm; omega, fun z hzm => wf_i64 (hwz z (List.mem_of_mem_take hzm))⟩
    rw [List.length_take] at h0
    have hsp : a'.spot = none := by
      have := hcell 0 (by omega)
      rw [Addr.add, if_pos rfl] at this
      exact World.cell?_spot this
    refine ⟨a'.block, a'.off, by cases a'; simp at hsp; subst hsp; rfl, fun i x f u hi hu => ?_⟩
    have hix : i < len := by have := (List.getElem?_eq_some_iff.1 hi).1; rw [List.length_take] at this; omega
    have hcell := hcell i (by omega)
    have hf0 : f = 0 := by
      have := (List.getElem?_eq_some_iff.1 hu).1
      simp [encI] at this; omega
    subst hf0
    have hxe : zs.getD i 0 = x := by
      rw [List.getElem?_take, if_pos hix] at hi
      rw [List.getD_eq_getElem?_getD, hi]; rfl
    rw [hxe] at hcell
    have hu' : u = .int .i64 x := by simpa [encI] using hu.symm
    rw [hu', ← hcell, Nat.mul_one, Nat.add_zero]
    refine congrArg _ ?_
    unfold Addr.add
    split
    · rename_i h0; subst h0; cases a'; simp at hsp; subst hsp; rfl
    · rfl

def i64Fields (P : Program) (fs : Array Field) : Bool := fs.all fun f => match P.underlying f.type with | some (.int .i64) => true | _ => false
/-- A struct of 64-bit integers, by value. -/
theorem open_i64_struct {fs : Array Field} (hs : P.underlying t = some (.struct fs)) (hone : oneCellFields P fs = true) (hi : i64Fields P fs = true) (hC : P.cellsOf t = fs.size) (hv : Value.okWide P W r b0 t v) (h : DataW.Trod enc P W base spare held t v d ps) :
    ∃ xs : List Int, xs.length = fs.size ∧ v = .agg (xs.map (Value.int .i64)).toArray ∧ ∀ x ∈ xs, -9223372036854775808 ≤ x ∧ x ≤ 9223372036854775807 := by
  obtain ⟨cs, rfl, hsz⟩ := okWide_struct hs hv
  obtain ⟨fuel, hf⟩ := h
  obtain ⟨ys, n, _, _, hlen, hyl, hg⟩ := DataW.trod_struct hs hf
  have each : ∀ j, (hj : j < cs.size) → ∃ x : Int, cs[j] = .int .i64 x ∧ -9223372036854775808 ≤ x ∧ x ≤ 9223372036854775807 := by
    intro j hj
    have hjf : j < fs.size := by omega
    have hfj : fs[j]? = some fs[j] := Array.getElem?_eq_getElem hjf
    obtain ⟨ho, hk⟩ := hone_of hone j _ hfj
    have hg := hg j _ hfj
    rw [ho, hk] at hg
    have hc : ((Value.agg cs).cells.toList.drop j).take 1 = [cs[j]] := by
      simp only [Value.cells]
      rw [List.drop_eq_getElem_cons (by simpa using hj)]
      simp
    rw [hc, List.getElem?_eq_getElem (by omega)] at hg
    have hty : P.underlying fs[j].type = some (.int .i64) := by
      have := Array.all_eq_true.1 hi j hjf
      revert this
      cases hu : P.underlying fs[j].type with
      | none => simp
      | some q => cases q with
        | int k => cases k <;> simp
        | _ => simp
    obtain ⟨x, hx, _, hw⟩ := DataW.trod_int hty hg
    refine ⟨x, by simpa using hx, wf_i64 hw⟩
  refine ⟨cs.toList.map (fun v => match v with | .int _ x => x | _ => 0), by simp; omega, ?_, ?_⟩
  · congr 1
    apply Array.ext
    · simp
    · intro j h1 h2
      obtain ⟨x, hx, _⟩ := each j h1
      simp [hx]
  · intro x hx
    obtain ⟨u, hu, rfl⟩ := List.mem_map.1 hx
    obtain ⟨j, hj, rfl⟩ := List.getElem_of_mem hu
    obtain ⟨x, hx, hb⟩ := each j (by simpa using hj)
    simp only [Array.getElem_toList, hx]
    exact hb
theorem list3 {α : Type} {xs : List α} (h : xs.length = 3) : ∃ a b c, xs = [a, b, c] := by
  match xs, h with
  | [a, b, c], _ => exact ⟨a, b, c, rfl⟩
theorem list5 {α : Type} {xs : List α} (h : xs.length = 5) : ∃ a b c d e, xs = [a, b, c, d, e] := by
  match xs, h with
  | [a, b, c, d, e], _ => exact ⟨a, b, c, d, e, rfl⟩
end
end Go.Proofs.YtpikpffbcjpmcaaGreatDoor.RK
