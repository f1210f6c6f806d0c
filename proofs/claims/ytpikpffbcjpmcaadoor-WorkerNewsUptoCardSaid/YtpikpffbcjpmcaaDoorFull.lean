/- append to a slice that is full: new memory, the old as it was. No program is named here. -/
import Derived.Test.YtpikpffbcjpmcaaDoorGY
namespace Go.Proofs.YtpikpffbcjpmcaaDoor.SL
open Go Go.RowKit Go.ChangeShapes Go.WideShapes
section
variable {P : Program} {w0 w : World} {L : List HProp} {α : Type} {e : TypeId} {sz : Nat} {enc : α → List Value} {v : Value} {l : List α}
end
end Go.Proofs.YtpikpffbcjpmcaaDoor.SL
namespace Go.Proofs.YtpikpffbcjpmcaaDoor.GX
open Go Go.RowKit Go.Proofs.YtpikpffbcjpmcaaDoor.SL
section
variable {P : Program} {ops : Array Oper} {Q : Exit → Act → World → Prop} {a : Act} {w w0 w1 : World} {rest : List Oper} {o : Oper} {n d t : Nat} {v : Value} {l : List (Nat × Value)} {j e : Nat → Value} {L : List HProp} {H : HProp} {Df : List Deferred}
variable {α : Type} {E : TypeId} {sz g cap : Nat} {enc : α → List Value} {xs : List α}
end
end Go.Proofs.YtpikpffbcjpmcaaDoor.GX
