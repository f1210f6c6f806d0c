/- The arguments of a law: opened to what the walks ask for, and read again behind the call. No program is named here. -/
import Derived.Test.YtpikpffbcjpmcaaDoorAr
import Derived.Carry
import Derived.ChangeSlices
import Derived.ChangeOld
import Derived.Deep.Fields
import Derived.Deep.Slices
import Derived.DataReads
import Derived.OpenShut
namespace Go.Proofs.YtpikpffbcjpmcaaDoor.RK
open Go Go.RowKit Go.ChangeShapes Go.WideShapes Go.Deep Go.Proofs.YtpikpffbcjpmcaaDoor.SL Go.Proofs.YtpikpffbcjpmcaaDoor.GX Go.Proofs.YtpikpffbcjpmcaaDoor.Ar
section
variable {H : Type} {enc : TypeId × Value → H} {P : Program} {w W : World} {base : Nat} {spare : Nat → Bool} {held : Bool} {r : Reach} {b0 : Nat} {t e : TypeId} {v : Value} {d : DataW H} {ps : List MemPlace}

/-- What lies below the old heap's end reads as it did. -/
theorem trodAll_below (hl : laidOutB P = true) {W' : World} (hb : Below W.heap.size W W') : ∀ {ts : List TypeId} {vs : List Value} {ds : List (DataW H)} {ps : List MemPlace},
    ts.all (fun t => P.readableRec t && decide (t < P.types.size)) = true → DataW.TrodAll enc P W 0 (fun _ => true) true ts vs ds ps → DataW.TrodAll enc P W' 0 (fun b => decide (b < W.heap.size)) true ts vs ds ps
  | [], [], [], _, _, h => h
  | t :: ts, v :: vs, d :: ds, _, hts, ⟨p, q, h1, h2, e⟩ => by
    simp only [List.all_cons, Bool.and_eq_true, decide_eq_true_eq] at hts
    refine ⟨p, q, Below.trod hl hts.1.1 hts.1.2 h1 hb ?_, trodAll_below hl hb hts.2 h2, e⟩
    obtain ⟨n, hn⟩ := h1
    exact DataW.trod_lt n _ _ _ hn

theorem wf_i64 {x : Int} (h : (Lit.int .i64 x).wf = true) : -9223372036854775808 ≤ x ∧ x ≤ 9223372036854775807 := by
  simp only [Lit.wf, Bool.and_eq_true, decide_eq_true_eq] at h
  exact ⟨h.1, h.2⟩

end
end Go.Proofs.YtpikpffbcjpmcaaDoor.RK
