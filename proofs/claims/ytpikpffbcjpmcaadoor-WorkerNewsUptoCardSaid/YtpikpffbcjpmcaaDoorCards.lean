/-
  DERIVED. GIVEN WITH THE SEED: THE CARDS: each row of YtpikpffbcjpmcaaDoorRows.lean that lists a variable, with what it lists TIED to the program's text (the seventh form; the later family's looks); each row that meets fmt, with fmt's text TOLD by the authors' own Lean function (tested against real Go, not proved from fmt's source: count such statements apart). THE CARD IS WHAT COUNTS. Prove the row's statement (the work); the ties are given (YtpikpffbcjpmcaaDoorTie.lean); close each card by the builder's one call (the guide's Derived/Test/ToyasCard.lean, 'card_holds'). Laid BY PROGRAM, IN A SANDBOX (cutbox-door.mjs). By AI agents, Wed Nov 11 2026. No macro, syntax, notation, axiom, sorry.
-/
import Derived.Test.YtpikpffbcjpmcaaDoorRows
import GoSem.ClaimSeven
namespace Go.Proofs.YtpikpffbcjpmcaaDoor
namespace Rows

/-- THE TIED CARD OF 'plunderlaw11.WorkerNews'. -/
def workerNewsCard : Claim7 := { stood := { row := workerNewsRow, standIns := [], harness := (true, "54f9dde62ba57bd69d9179f91c3b464f8aed2fd6aa4b38e226a8c92324b61157"), looks := true }, kinds := [], alts := [], laidByText := true, laidKinds := [.data], laidTests := true, laidLooks := .later }
def WorkerNewsCardSaid : Prop := Claim7.holds Tryd.pinned (.plain (OpenSpec.ofChange workerNewsSpec)) workerNewsCard

/-- THE SECOND FORM's CARD OF 'plunderlaw11.WorkerNews'. -/
def workerNewsUptoCard : Claim7 := { stood := { row := workerNewsUptoRow, standIns := [], harness := (true, "54f9dde62ba57bd69d9179f91c3b464f8aed2fd6aa4b38e226a8c92324b61157"), looks := true }, kinds := [], alts := [], laidByText := true, laidKinds := [.data], laidTests := true, laidLooks := .later }
def WorkerNewsUptoCardSaid : Prop := Claim7.holds Tryd.pinned (.plain (OpenSpec.upto workerNewsSpec)) workerNewsUptoCard
end Rows
end Go.Proofs.YtpikpffbcjpmcaaDoor
