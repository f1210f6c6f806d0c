/-
  DERIVED. GIVEN WITH THE SEED: THE CARDS: each row of YtaiffafelihaaaaGreatDoorRows.lean that lists a variable, with what it lists TIED to the program's text (the seventh form; the later family's looks); each row that meets fmt, with fmt's text TOLD by the authors' own Lean function (tested against real Go, not proved from fmt's source: count such statements apart). THE CARD IS WHAT COUNTS. Prove the row's statement (the work); the ties are given (YtaiffafelihaaaaGreatDoorTie.lean); close each card by the builder's one call (the guide's Derived/Test/ToyasCard.lean, 'card_holds'). Laid BY PROGRAM, IN A SANDBOX (cutbox-door.mjs). By AI agents, Wed Nov 11 2026. No macro, syntax, notation, axiom, sorry.
-/
import Derived.Test.YtaiffafelihaaaaGreatDoorRows
import GoSem.ClaimSeven
namespace Go.Proofs.YtaiffafelihaaaaGreatDoor
namespace Rows

/-- THE TIED CARD OF 'plunderlaw11.WorkerHolds'. -/
def workerHoldsCard : Claim7 := { stood := { row := workerHoldsRow, standIns := [], harness := (true, "612a662913eeae5e49a051dcced47213fd6f6dd049df437a50c0681a04133dd5"), looks := true }, kinds := [], alts := [], laidByText := true, laidKinds := [.data, .data], laidTests := true, laidLooks := .later }
def WorkerHoldsCardSaid : Prop := Claim7.holds Tryz.pinned (.plain (OpenSpec.ofChange workerHoldsSpec)) workerHoldsCard

/-- THE TIED CARD OF 'plunderlaw11.WorkerAccesses'. -/
def workerAccessesCard : Claim7 := { stood := { row := workerAccessesRow, standIns := [], harness := (true, "612a662913eeae5e49a051dcced47213fd6f6dd049df437a50c0681a04133dd5"), looks := true }, kinds := [], alts := [], laidByText := true, laidKinds := [.data, .data], laidTests := true, laidLooks := .later }
def WorkerAccessesCardSaid : Prop := Claim7.holds Tryz.pinned (.plain (OpenSpec.ofChange workerAccessesSpec)) workerAccessesCard

/-- THE TIED CARD OF 'plunderlaw11.WorkerOnce'. -/
def workerOnceCard : Claim7 := { stood := { row := workerOnceRow, standIns := [], harness := (true, "612a662913eeae5e49a051dcced47213fd6f6dd049df437a50c0681a04133dd5"), looks := true }, kinds := [], alts := [], laidByText := true, laidKinds := [.data, .data], laidTests := true, laidLooks := .later }
def WorkerOnceCardSaid : Prop := Claim7.holds Tryz.pinned (.plain (OpenSpec.ofChange workerOnceSpec)) workerOnceCard

/-- THE TIED CARD OF 'plunderlaw11.WorkerJoins'. -/
def workerJoinsCard : Claim7 := { stood := { row := workerJoinsRow, standIns := [], harness := (true, "612a662913eeae5e49a051dcced47213fd6f6dd049df437a50c0681a04133dd5"), looks := true }, kinds := [], alts := [], laidByText := true, laidKinds := [.data, .data], laidTests := true, laidLooks := .later }
def WorkerJoinsCardSaid : Prop := Claim7.holds Tryz.pinned (.plain (OpenSpec.ofChange workerJoinsSpec)) workerJoinsCard

/-- THE TIED CARD OF 'plunderlaw11.WorkerSerial'. -/
def workerSerialCard : Claim7 := { stood := { row := workerSerialRow, standIns := [], harness := (true, "612a662913eeae5e49a051dcced47213fd6f6dd049df437a50c0681a04133dd5"), looks := true }, kinds := [], alts := [], laidByText := true, laidKinds := [.data, .data], laidTests := true, laidLooks := .later }
def WorkerSerialCardSaid : Prop := Claim7.holds Tryz.pinned (.plain (OpenSpec.ofChange workerSerialSpec)) workerSerialCard

/-- THE TIED CARD OF 'plunderlaw11.WorkerLone'. -/
def workerLoneCard : Claim7 := { stood := { row := workerLoneRow, standIns := [], harness := (true, "612a662913eeae5e49a051dcced47213fd6f6dd049df437a50c0681a04133dd5"), looks := true }, kinds := [], alts := [], laidByText := true, laidKinds := [.data, .data], laidTests := true, laidLooks := .later }
def WorkerLoneCardSaid : Prop := Claim7.holds Tryz.pinned (.plain (OpenSpec.ofChange workerLoneSpec)) workerLoneCard

/-- THE TIED CARD OF 'plunderlaw11.WorkerCounts'. -/
def workerCountsCard : Claim7 := { stood := { row := workerCountsRow, standIns := [], harness := (true, "612a662913eeae5e49a051dcced47213fd6f6dd049df437a50c0681a04133dd5"), looks := true }, kinds := [], alts := [], laidByText := true, laidKinds := [.data, .data], laidTests := true, laidLooks := .later }
def WorkerCountsCardSaid : Prop := Claim7.holds Tryz.pinned (.plain (OpenSpec.ofChange workerCountsSpec)) workerCountsCard

/-- THE TIED CARD OF 'plunderlaw11.WorkerOrder'. -/
def workerOrderCard : Claim7 := { stood := { row := workerOrderRow, standIns := [], harness := (true, "612a662913eeae5e49a051dcced47213fd6f6dd049df437a50c0681a04133dd5"), looks := true }, kinds := [], alts := [], laidByText := true, laidKinds := [.data, .data], laidTests := true, laidLooks := .later }
def WorkerOrderCardSaid : Prop := Claim7.holds Tryz.pinned (.plain (OpenSpec.ofChange workerOrderSpec)) workerOrderCard

/-- THE TIED CARD OF 'plunderlaw11.WorkerKeeps'. -/
def workerKeepsCard : Claim7 := { stood := { row := workerKeepsRow, standIns := [], harness := (true, "612a662913eeae5e49a051dcced47213fd6f6dd049df437a50c0681a04133dd5"), looks := true }, kinds := [], alts := [], laidByText := true, laidKinds := [.data, .data], laidTests := true, laidLooks := .later }
def WorkerKeepsCardSaid : Prop := Claim7.holds Tryz.pinned (.plain (OpenSpec.ofChange workerKeepsSpec)) workerKeepsCard

/-- THE SECOND FORM's CARD OF 'plunderlaw11.WorkerHolds'. -/
def workerHoldsUptoCard : Claim7 := { stood := { row := workerHoldsUptoRow, standIns := [], harness := (true, "612a662913eeae5e49a051dcced47213fd6f6dd049df437a50c0681a04133dd5"), looks := true }, kinds := [], alts := [], laidByText := true, laidKinds := [.data, .data], laidTests := true, laidLooks := .later }
def WorkerHoldsUptoCardSaid : Prop := Claim7.holds Tryz.pinned (.plain (OpenSpec.upto workerHoldsSpec)) workerHoldsUptoCard

/-- THE SECOND FORM's CARD OF 'plunderlaw11.WorkerAccesses'. -/
def workerAccessesUptoCard : Claim7 := { stood := { row := workerAccessesUptoRow, standIns := [], harness := (true, "612a662913eeae5e49a051dcced47213fd6f6dd049df437a50c0681a04133dd5"), looks := true }, kinds := [], alts := [], laidByText := true, laidKinds := [.data, .data], laidTests := true, laidLooks := .later }
def WorkerAccessesUptoCardSaid : Prop := Claim7.holds Tryz.pinned (.plain (OpenSpec.upto workerAccessesSpec)) workerAccessesUptoCard

/-- THE SECOND FORM's CARD OF 'plunderlaw11.WorkerOnce'. -/
def workerOnceUptoCard : Claim7 := { stood := { row := workerOnceUptoRow, standIns := [], harness := (true, "612a662913eeae5e49a051dcced47213fd6f6dd049df437a50c0681a04133dd5"), looks := true }, kinds := [], alts := [], laidByText := true, laidKinds := [.data, .data], laidTests := true, laidLooks := .later }
def WorkerOnceUptoCardSaid : Prop := Claim7.holds Tryz.pinned (.plain (OpenSpec.upto workerOnceSpec)) workerOnceUptoCard

/-- THE SECOND FORM's CARD OF 'plunderlaw11.WorkerJoins'. -/
def workerJoinsUptoCard : Claim7 := { stood := { row := workerJoinsUptoRow, standIns := [], harness := (true, "612a662913eeae5e49a051dcced47213fd6f6dd049df437a50c0681a04133dd5"), looks := true }, kinds := [], alts := [], laidByText := true, laidKinds := [.data, .data], laidTests := true, laidLooks := .later }
def WorkerJoinsUptoCardSaid : Prop := Claim7.holds Tryz.pinned (.plain (OpenSpec.upto workerJoinsSpec)) workerJoinsUptoCard

/-- THE SECOND FORM's CARD OF 'plunderlaw11.WorkerSerial'. -/
def workerSerialUptoCard : Claim7 := { stood := { row := workerSerialUptoRow, standIns := [], harness := (true, "612a662913eeae5e49a051dcced47213fd6f6dd049df437a50c0681a04133dd5"), looks := true }, kinds := [], alts := [], laidByText := true, laidKinds := [.data, .data], laidTests := true, laidLooks := .later }
def WorkerSerialUptoCardSaid : Prop := Claim7.holds Tryz.pinned (.plain (OpenSpec.upto workerSerialSpec)) workerSerialUptoCard

/-- THE SECOND FORM's CARD OF 'plunderlaw11.WorkerLone'. -/
def workerLoneUptoCard : Claim7 := { stood := { row := workerLoneUptoRow, standIns := [], harness := (true, "612a662913eeae5e49a051dcced47213fd6f6dd049df437a50c0681a04133dd5"), looks := true }, kinds := [], alts := [], laidByText := true, laidKinds := [.data, .data], laidTests := true, laidLooks := .later }
def WorkerLoneUptoCardSaid : Prop := Claim7.holds Tryz.pinned (.plain (OpenSpec.upto workerLoneSpec)) workerLoneUptoCard

/-- THE SECOND FORM's CARD OF 'plunderlaw11.WorkerCounts'. -/
def workerCountsUptoCard : Claim7 := { stood := { row := workerCountsUptoRow, standIns := [], harness := (true, "612a662913eeae5e49a051dcced47213fd6f6dd049df437a50c0681a04133dd5"), looks := true }, kinds := [], alts := [], laidByText := true, laidKinds := [.data, .data], laidTests := true, laidLooks := .later }
def WorkerCountsUptoCardSaid : Prop := Claim7.holds Tryz.pinned (.plain (OpenSpec.upto workerCountsSpec)) workerCountsUptoCard

/-- THE SECOND FORM's CARD OF 'plunderlaw11.WorkerOrder'. -/
def workerOrderUptoCard : Claim7 := { stood := { row := workerOrderUptoRow, standIns := [], harness := (true, "612a662913eeae5e49a051dcced47213fd6f6dd049df437a50c0681a04133dd5"), looks := true }, kinds := [], alts := [], laidByText := true, laidKinds := [.data, .data], laidTests := true, laidLooks := .later }
def WorkerOrderUptoCardSaid : Prop := Claim7.holds Tryz.pinned (.plain (OpenSpec.upto workerOrderSpec)) workerOrderUptoCard

/-- THE SECOND FORM's CARD OF 'plunderlaw11.WorkerKeeps'. -/
def workerKeepsUptoCard : Claim7 := { stood := { row := workerKeepsUptoRow, standIns := [], harness := (true, "612a662913eeae5e49a051dcced47213fd6f6dd049df437a50c0681a04133dd5"), looks := true }, kinds := [], alts := [], laidByText := true, laidKinds := [.data, .data], laidTests := true, laidLooks := .later }
def WorkerKeepsUptoCardSaid : Prop := Claim7.holds Tryz.pinned (.plain (OpenSpec.upto workerKeepsSpec)) workerKeepsUptoCard
end Rows
end Go.Proofs.YtaiffafelihaaaaGreatDoor
