/- Regions that draw their order: reads and quiet calls ahead of an effect, beside allocations that float. No program is named here. -/
import Derived.Test.YtpikpffbcjpmcaaDoorWin
namespace Go.Proofs.YtpikpffbcjpmcaaDoor.GX
open Go Go.RowKit Go.Proofs.YtpikpffbcjpmcaaDoor.SL
set_option linter.unusedVariables false

section
variable {P : Program} {ops : Array Oper} {Q : Exit → Act → World → Prop} {a : Act} {w w0 w1 : World} {o : Oper} {n d t : Nat} {v : Value} {l : List (Nat × Value)} {j e : Nat → Value} {md : Region.Mode} {W A : List Nat} {pre : List HProp → List HProp} {Ls : List HProp} {Df : List Deferred}
/-! ### the rules -/
/-- What is ready now, one by one. -/
def VAll (X : Nat → Prop) : List Nat → Prop
  | [] => True
  | i :: r => X i ∧ VAll X r
theorem VAll.mem {X : Nat → Prop} : ∀ {r : List Nat}, VAll X r → ∀ i ∈ r, X i
  | _ :: _, h, _, .head _ => h.1
  | _ :: _, h, _, .tail _ hm => VAll.mem h.2 _ hm
theorem vall_nil {X : Nat → Prop} : VAll X [] := trivial
theorem vall_cons {X : Nat → Prop} {i : Nat} {r : List Nat} (h : X i) (k : VAll X r) : VAll X (i :: r) := ⟨h, k⟩
end
end Go.Proofs.YtpikpffbcjpmcaaDoor.GX
