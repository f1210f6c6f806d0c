/- Regions that draw their order: a window of reads and quiet calls ahead of an effect. No program is named here. -/
import Derived.Test.YtpikpffbcjpmcaaDoorAny
namespace Go.Proofs.YtpikpffbcjpmcaaDoor.GX
open Go Go.RowKit Go.Proofs.YtpikpffbcjpmcaaDoor.SL
set_option linter.unusedVariables false

section
variable {P : Program} {ops : Array Oper} {Q : Exit → Act → World → Prop} {a : Act} {w w0 w1 : World} {o : Oper} {n d t : Nat} {v : Value} {l : List (Nat × Value)} {j e : Nat → Value} {H : HProp} {md : Region.Mode} {C : World → Prop} {W : List Nat} {Lk : Array Bool → Act → Prop} {Df : List Deferred}
/-! ### the rules -/
theorem wg_undef {i : Nat} {b : Bool} (hr : RepD Df n e a) (hg : o.guard = some (i, b)) (hi : (ops[i]?).bind (·.dst) = some t) (ht : Nat.blt t n = true) (he : e t = undef) :
    Region.wanted o (yielded ops a.tmps) = false := by
  have ht' : t < a.tmps.size := by rw [hr.size]; exact Nat.le_of_ble_eq_true ht
  have hg2 : a.tmps[t]? = some undef := by
    have := hr.get t
    rw [he, Array.getD_eq_getD_getElem?, Array.getElem?_eq_getElem ht'] at this
    rw [Array.getElem?_eq_getElem ht']
    simpa using this
  simp only [Region.wanted, hg, yielded, hi, Option.bind_some, hg2]
  cases b <;> rfl
end
end Go.Proofs.YtpikpffbcjpmcaaDoor.GX
