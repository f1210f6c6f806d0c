/- A law's rows of 64-bit numbers, opened with what their numbers are bound by. -/
import Derived.Test.YtpikpffbcjpmcaaDoorRK2
import Derived.OpenShut
namespace Go.Proofs.YtpikpffbcjpmcaaDoor.RK
open Go Go.RowKit Go.ChangeShapes Go.WideShapes Go.Deep Go.Proofs.YtpikpffbcjpmcaaDoor.SL Go.Proofs.YtpikpffbcjpmcaaDoor.GX
set_option linter.unusedVariables false
/-- A 64-bit number. -/
def In64 (x : Int) : Prop := -9223372036854775808 ≤ x ∧ x ≤ 9223372036854775807
section
variable {H : Type} {encH : TypeId × Value → H} {P : Program} {W : World} {base : Nat} {spare : Nat → Bool} {held : Bool} {r : Reach} {b0 : Nat} {t e : TypeId} {v : Value} {d : DataW H} {ps : List MemPlace}
end
end Go.Proofs.YtpikpffbcjpmcaaDoor.RK
