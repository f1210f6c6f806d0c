/-
  DERIVED. GIVEN WITH THE SEED: THE CARDS: each row of YtpikpffbcjpmcaaGreatDoorRows.lean that lists a variable, with what it lists TIED to the program's text (the seventh form; the later family's looks); each row that meets fmt, with fmt's text TOLD by the authors' own Lean function (tested against real Go, not proved from fmt's source: count such statements apart). THE CARD IS WHAT COUNTS. Prove the row's statement (the work); the ties are given (YtpikpffbcjpmcaaGreatDoorTie.lean); close each card by the builder's one call (the guide's Derived/Test/ToyasCard.lean, 'card_holds'). Laid BY PROGRAM, IN A SANDBOX (cutbox-door.mjs). By AI agents, Wed Nov 11 2026. No macro, syntax, notation, axiom, sorry.
-/
import Derived.Test.YtpikpffbcjpmcaaGreatDoorRows
import GoSem.ClaimSeven
namespace Go.Proofs.YtpikpffbcjpmcaaGreatDoor
namespace Rows

/-- THE TIED CARD OF 'plunderlaw11.WorkerHolds'. -/
def workerHoldsCard : Claim7 := { stood := { row := workerHoldsRow, standIns := [], harness := (true, "eaa0677d44833d98100742369d47608cd55eefca8d6d8f69dd0039716e43b451"), looks := true }, kinds := [], alts := [], laidByText := true, laidKinds := [.data, .data], laidTests := true, laidLooks := .later }
def WorkerHoldsCardSaid : Prop := Claim7.holds Tryz.pinned (.plain (OpenSpec.ofChange workerHoldsSpec)) workerHoldsCard

/-- THE TIED CARD OF 'plunderlaw11.WorkerTwo'. -/
def workerTwoCard : Claim7 := { stood := { row := workerTwoRow, standIns := [], harness := (true, "eaa0677d44833d98100742369d47608cd55eefca8d6d8f69dd0039716e43b451"), looks := true }, kinds := [], alts := [], laidByText := true, laidKinds := [.data, .data], laidTests := true, laidLooks := .later }
def WorkerTwoCardSaid : Prop := Claim7.holds Tryz.pinned (.plain (OpenSpec.ofChange workerTwoSpec)) workerTwoCard

/-- THE TIED CARD OF 'plunderlaw11.WorkerCounts'. -/
def workerCountsCard : Claim7 := { stood := { row := workerCountsRow, standIns := [], harness := (true, "eaa0677d44833d98100742369d47608cd55eefca8d6d8f69dd0039716e43b451"), looks := true }, kinds := [], alts := [], laidByText := true, laidKinds := [.data, .data], laidTests := true, laidLooks := .later }
def WorkerCountsCardSaid : Prop := Claim7.holds Tryz.pinned (.plain (OpenSpec.ofChange workerCountsSpec)) workerCountsCard

/-- THE TIED CARD OF 'plunderlaw11.WorkerAccesses'. -/
def workerAccessesCard : Claim7 := { stood := { row := workerAccessesRow, standIns := [], harness := (true, "eaa0677d44833d98100742369d47608cd55eefca8d6d8f69dd0039716e43b451"), looks := true }, kinds := [], alts := [], laidByText := true, laidKinds := [.data, .data], laidTests := true, laidLooks := .later }
def WorkerAccessesCardSaid : Prop := Claim7.holds Tryz.pinned (.plain (OpenSpec.ofChange workerAccessesSpec)) workerAccessesCard

/-- THE TIED CARD OF 'plunderlaw11.WorkerSteps'. -/
def workerStepsCard : Claim7 := { stood := { row := workerStepsRow, standIns := [], harness := (true, "eaa0677d44833d98100742369d47608cd55eefca8d6d8f69dd0039716e43b451"), looks := true }, kinds := [], alts := [], laidByText := true, laidKinds := [.data, .data], laidTests := true, laidLooks := .later }
def WorkerStepsCardSaid : Prop := Claim7.holds Tryz.pinned (.plain (OpenSpec.ofChange workerStepsSpec)) workerStepsCard

/-- THE TIED CARD OF 'plunderlaw11.WorkerNil'. -/
def workerNilCard : Claim7 := { stood := { row := workerNilRow, standIns := [], harness := (true, "eaa0677d44833d98100742369d47608cd55eefca8d6d8f69dd0039716e43b451"), looks := true }, kinds := [], alts := [], laidByText := true, laidKinds := [.data, .data], laidTests := true, laidLooks := .later }
def WorkerNilCardSaid : Prop := Claim7.holds Tryz.pinned (.plain (OpenSpec.ofChange workerNilSpec)) workerNilCard

/-- THE TIED CARD OF 'plunderlaw11.WorkerPlays'. -/
def workerPlaysCard : Claim7 := { stood := { row := workerPlaysRow, standIns := [], harness := (true, "eaa0677d44833d98100742369d47608cd55eefca8d6d8f69dd0039716e43b451"), looks := true }, kinds := [], alts := [], laidByText := true, laidKinds := [.data, .data], laidTests := true, laidLooks := .later }
def WorkerPlaysCardSaid : Prop := Claim7.holds Tryz.pinned (.plain (OpenSpec.ofChange workerPlaysSpec)) workerPlaysCard

/-- THE TIED CARD OF 'plunderlaw11.WorkerSerial'. -/
def workerSerialCard : Claim7 := { stood := { row := workerSerialRow, standIns := [], harness := (true, "eaa0677d44833d98100742369d47608cd55eefca8d6d8f69dd0039716e43b451"), looks := true }, kinds := [], alts := [], laidByText := true, laidKinds := [.data, .data], laidTests := true, laidLooks := .later }
def WorkerSerialCardSaid : Prop := Claim7.holds Tryz.pinned (.plain (OpenSpec.ofChange workerSerialSpec)) workerSerialCard

/-- THE TIED CARD OF 'plunderlaw11.WorkerLone'. -/
def workerLoneCard : Claim7 := { stood := { row := workerLoneRow, standIns := [], harness := (true, "eaa0677d44833d98100742369d47608cd55eefca8d6d8f69dd0039716e43b451"), looks := true }, kinds := [], alts := [], laidByText := true, laidKinds := [.data, .data], laidTests := true, laidLooks := .later }
def WorkerLoneCardSaid : Prop := Claim7.holds Tryz.pinned (.plain (OpenSpec.ofChange workerLoneSpec)) workerLoneCard

/-- THE TIED CARD OF 'plunderlaw11.WorkerOnce'. -/
def workerOnceCard : Claim7 := { stood := { row := workerOnceRow, standIns := [], harness := (true, "eaa0677d44833d98100742369d47608cd55eefca8d6d8f69dd0039716e43b451"), looks := true }, kinds := [], alts := [], laidByText := true, laidKinds := [.data, .data], laidTests := true, laidLooks := .later }
def WorkerOnceCardSaid : Prop := Claim7.holds Tryz.pinned (.plain (OpenSpec.ofChange workerOnceSpec)) workerOnceCard

/-- THE TIED CARD OF 'plunderlaw11.WorkerJoins'. -/
def workerJoinsCard : Claim7 := { stood := { row := workerJoinsRow, standIns := [], harness := (true, "eaa0677d44833d98100742369d47608cd55eefca8d6d8f69dd0039716e43b451"), looks := true }, kinds := [], alts := [], laidByText := true, laidKinds := [.data, .data], laidTests := true, laidLooks := .later }
def WorkerJoinsCardSaid : Prop := Claim7.holds Tryz.pinned (.plain (OpenSpec.ofChange workerJoinsSpec)) workerJoinsCard

/-- THE SECOND FORM's CARD OF 'plunderlaw11.WorkerHolds'. -/
def workerHoldsUptoCard : Claim7 := { stood := { row := workerHoldsUptoRow, standIns := [], harness := (true, "eaa0677d44833d98100742369d47608cd55eefca8d6d8f69dd0039716e43b451"), looks := true }, kinds := [], alts := [], laidByText := true, laidKinds := [.data, .data], laidTests := true, laidLooks := .later }
def WorkerHoldsUptoCardSaid : Prop := Claim7.holds Tryz.pinned (.plain (OpenSpec.upto workerHoldsSpec)) workerHoldsUptoCard

/-- THE SECOND FORM's CARD OF 'plunderlaw11.WorkerTwo'. -/
def workerTwoUptoCard : Claim7 := { stood := { row := workerTwoUptoRow, standIns := [], harness := (true, "eaa0677d44833d98100742369d47608cd55eefca8d6d8f69dd0039716e43b451"), looks := true }, kinds := [], alts := [], laidByText := true, laidKinds := [.data, .data], laidTests := true, laidLooks := .later }
def WorkerTwoUptoCardSaid : Prop := Claim7.holds Tryz.pinned (.plain (OpenSpec.upto workerTwoSpec)) workerTwoUptoCard

/-- THE SECOND FORM's CARD OF 'plunderlaw11.WorkerCounts'. -/
def workerCountsUptoCard : Claim7 := { stood := { row := workerCountsUptoRow, standIns := [], harness := (true, "eaa0677d44833d98100742369d47608cd55eefca8d6d8f69dd0039716e43b451"), looks := true }, kinds := [], alts := [], laidByText := true, laidKinds := [.data, .data], laidTests := true, laidLooks := .later }
def WorkerCountsUptoCardSaid : Prop := Claim7.holds Tryz.pinned (.plain (OpenSpec.upto workerCountsSpec)) workerCountsUptoCard

/-- THE SECOND FORM's CARD OF 'plunderlaw11.WorkerAccesses'. -/
def workerAccessesUptoCard : Claim7 := { stood := { row := workerAccessesUptoRow, standIns := [], harness := (true, "eaa0677d44833d98100742369d47608cd55eefca8d6d8f69dd0039716e43b451"), looks := true }, kinds := [], alts := [], laidByText := true, laidKinds := [.data, .data], laidTests := true, laidLooks := .later }
def WorkerAccessesUptoCardSaid : Prop := Claim7.holds Tryz.pinned (.plain (OpenSpec.upto workerAccessesSpec)) workerAccessesUptoCard

/-- THE SECOND FORM's CARD OF 'plunderlaw11.WorkerSteps'. -/
def workerStepsUptoCard : Claim7 := { stood := { row := workerStepsUptoRow, standIns := [], harness := (true, "eaa0677d44833d98100742369d47608cd55eefca8d6d8f69dd0039716e43b451"), looks := true }, kinds := [], alts := [], laidByText := true, laidKinds := [.data, .data], laidTests := true, laidLooks := .later }
def WorkerStepsUptoCardSaid : Prop := Claim7.holds Tryz.pinned (.plain (OpenSpec.upto workerStepsSpec)) workerStepsUptoCard

/-- THE SECOND FORM's CARD OF 'plunderlaw11.WorkerNil'. -/
def workerNilUptoCard : Claim7 := { stood := { row := workerNilUptoRow, standIns := [], harness := (true, "eaa0677d44833d98100742369d47608cd55eefca8d6d8f69dd0039716e43b451"), looks := true }, kinds := [], alts := [], laidByText := true, laidKinds := [.data, .data], laidTests := true, laidLooks := .later }
def WorkerNilUptoCardSaid : Prop := Claim7.holds Tryz.pinned (.plain (OpenSpec.upto workerNilSpec)) workerNilUptoCard

/-- THE SECOND FORM's CARD OF 'plunderlaw11.WorkerPlays'. -/
def workerPlaysUptoCard : Claim7 := { stood := { row := workerPlaysUptoRow, standIns := [], harness := (true, "eaa0677d44833d98100742369d47608cd55eefca8d6d8f69dd0039716e43b451"), looks := true }, kinds := [], alts := [], laidByText := true, laidKinds := [.data, .data], laidTests := true, laidLooks := .later }
def WorkerPlaysUptoCardSaid : Prop := Claim7.holds Tryz.pinned (.plain (OpenSpec.upto workerPlaysSpec)) workerPlaysUptoCard

/-- THE SECOND FORM's CARD OF 'plunderlaw11.WorkerSerial'. -/
def workerSerialUptoCard : Claim7 := { stood := { row := workerSerialUptoRow, standIns := [], harness := (true, "eaa0677d44833d98100742369d47608cd55eefca8d6d8f69dd0039716e43b451"), looks := true }, kinds := [], alts := [], laidByText := true, laidKinds := [.data, .data], laidTests := true, laidLooks := .later }
def WorkerSerialUptoCardSaid : Prop := Claim7.holds Tryz.pinned (.plain (OpenSpec.upto workerSerialSpec)) workerSerialUptoCard

/-- THE SECOND FORM's CARD OF 'plunderlaw11.WorkerLone'. -/
def workerLoneUptoCard : Claim7 := { stood := { row := workerLoneUptoRow, standIns := [], harness := (true, "eaa0677d44833d98100742369d47608cd55eefca8d6d8f69dd0039716e43b451"), looks := true }, kinds := [], alts := [], laidByText := true, laidKinds := [.data, .data], laidTests := true, laidLooks := .later }
def WorkerLoneUptoCardSaid : Prop := Claim7.holds Tryz.pinned (.plain (OpenSpec.upto workerLoneSpec)) workerLoneUptoCard

/-- THE SECOND FORM's CARD OF 'plunderlaw11.WorkerOnce'. -/
def workerOnceUptoCard : Claim7 := { stood := { row := workerOnceUptoRow, standIns := [], harness := (true, "eaa0677d44833d98100742369d47608cd55eefca8d6d8f69dd0039716e43b451"), looks := true }, kinds := [], alts := [], laidByText := true, laidKinds := [.data, .data], laidTests := true, laidLooks := .later }
def WorkerOnceUptoCardSaid : Prop := Claim7.holds Tryz.pinned (.plain (OpenSpec.upto workerOnceSpec)) workerOnceUptoCard

/-- THE SECOND FORM's CARD OF 'plunderlaw11.WorkerJoins'. -/
def workerJoinsUptoCard : Claim7 := { stood := { row := workerJoinsUptoRow, standIns := [], harness := (true, "eaa0677d44833d98100742369d47608cd55eefca8d6d8f69dd0039716e43b451"), looks := true }, kinds := [], alts := [], laidByText := true, laidKinds := [.data, .data], laidTests := true, laidLooks := .later }
def WorkerJoinsUptoCardSaid : Prop := Claim7.holds Tryz.pinned (.plain (OpenSpec.upto workerJoinsSpec)) workerJoinsUptoCard
end Rows
end Go.Proofs.YtpikpffbcjpmcaaGreatDoor
