/-
  NARROWER THAN 'FOR EVERY INPUT', by the rows' own cells (each row's printed sentence says how): WorkerHolds: laid · WorkerAccesses: laid · WorkerOnce: laid · WorkerJoins: laid · WorkerSerial: laid · WorkerLone: laid · WorkerCounts: laid · WorkerOrder: laid · WorkerKeeps: laid.
  DERIVED. THE GIVEN ROWS OF THIS SEAT. 9 by the template 'for every input the law returns true; each argument reads behind the call as it read before'; 0 by the template 'total and deterministic' (their statements: YtaiffafelihaaaaGreatDoorTotals.lean).
  GIVEN WITH THE SEED: the statements are not yours to turn. If you find one false, say at which input.
  Laid BY PROGRAM, IN A SANDBOX (cutbox-rows.mjs): the forced cells as the released guide's own fill.sh prints them over the translation 9824478499a883fc… (all of the seat's roots in one cut). By AI agents, Wed Nov 11 2026. No macro, syntax, notation, axiom, sorry.
-/
import Derived.Test.YtaiffafelihaaaaGreatDoorChecked
import GoSem.Claim
import GoSem.ClaimJoined
import GoSem.ClaimMapViews
import Derived.JoinedTies
import Derived.KernelRfl
namespace Go.Proofs.YtaiffafelihaaaaGreatDoor
/- THE CELL 'sum', in the pinned program and in every row, IS THE sha256 OF THE DUMP (.gsa) THAT YtaiffafelihaaaaGreatDoorProg.lean LOADS. Nothing in Lean hashes anything: it is a label: what it is worth is what the hold of that sum in a sandbox is worth. -/
noncomputable def Tryz.pinned : Pinned := { name := "ytaiffafelihaaaagreatdoor", sum := "9824478499a883fc209833f0c7ea21e7b6853bdbbd730adede63b5cf12081ef6", checked := Tryz.checked }
namespace Rows
def none {H : Type} : Left H := { results := [], args := [] }

/- WHAT THE LISTED PACKAGE-LEVEL VARIABLES READ AS WHEN THE CALL BEGINS. Each datum BY PROGRAM (the guide's laid-datum.mjs) off the statement by which the dump's own 'gosem.cut.vars' lays the variable. In a bare row this is a premise. The card (YtaiffafelihaaaaGreatDoorCards.lean) ties it to the program's text. -/
def laid_plunder_prog_fields {H : Type} : DataW H := .agg [.agg [.lit (.int .i64 1), .lit (.int .i64 0), .lit (.int .i64 0), .lit (.int .i64 0), .lit (.bool true)], .agg [.lit (.int .i64 1), .lit (.int .i64 1), .lit (.int .i64 0), .lit (.int .i64 0), .lit (.bool true)], .agg [.lit (.int .i64 1), .lit (.int .i64 1), .lit (.int .i64 1), .lit (.int .i64 5), .lit (.bool true)], .agg [.lit (.int .i64 3), .lit (.int .i64 0), .lit (.int .i64 0), .lit (.int .i64 0), .lit (.bool false)], .agg [.lit (.int .i64 1), .lit (.int .i64 3), .lit (.int .i64 0), .lit (.int .i64 0), .lit (.bool true)], .agg [.lit (.int .i64 2), .lit (.int .i64 4), .lit (.int .i64 0), .lit (.int .i64 0), .lit (.bool true)], .agg [.lit (.int .i64 0), .lit (.int .i64 0), .lit (.int .i64 0), .lit (.int .i64 0), .lit (.bool true)], .agg [.lit (.int .i64 1), .lit (.int .i64 2), .lit (.int .i64 0), .lit (.int .i64 0), .lit (.bool true)], .agg [.lit (.int .i64 1), .lit (.int .i64 0), .lit (.int .i64 0), .lit (.int .i64 0), .lit (.bool true)], .agg [.lit (.int .i64 1), .lit (.int .i64 0), .lit (.int .i64 0), .lit (.int .i64 0), .lit (.bool false)]]
def laid_plunder_worker_idle {H : Type} : DataW H := .agg [.lit (.bool false), .lit (.bool false), .lit (.bool false), .lit (.bool false), .lit (.bool false), .lit (.bool false), .lit (.bool false), .lit (.bool false), .lit (.bool false), .lit (.bool false), .lit (.bool false), .lit (.bool false), .lit (.bool false), .lit (.bool true), .lit (.bool true)]

/-- 'plunderlaw11.WorkerHolds': WHATEVER THE INPUT: true; the input reads as it did. -/
def workerHoldsSpec : ChangeSpec := { name := "workerHolds", fn := fun _ => fun
  | [d] => { results := [.lit (.bool true)], args := [d] }
  | _ => none }
def workerHoldsRow : OpenClaim := { program := "ytaiffafelihaaaagreatdoor", sum := "9824478499a883fc209833f0c7ea21e7b6853bdbbd730adede63b5cf12081ef6", func := "plunder/plunderlaw11.WorkerHolds", spec := "workerHolds", unfollowed := true, recurses := true, named := ["plunder/prog.fields", "plunder/worker.idle"], plainKeys := false, apart := false, laid := [("plunder/prog.fields", laid_plunder_prog_fields), ("plunder/worker.idle", laid_plunder_worker_idle)] }
def WorkerHoldsSaid : Prop := workerHoldsRow.holds Tryz.pinned (OpenSpec.ofChange workerHoldsSpec)

/-- ITS FALSE NEIGHBOUR: 'it returns false'. Refute it at one input. -/
def workerHoldsWrong : ChangeSpec := { name := "workerHolds", fn := fun _ => fun
  | [d] => { results := [.lit (.bool false)], args := [d] }
  | _ => none }
def WorkerHoldsWrongFalsely : Prop := workerHoldsRow.holds Tryz.pinned (OpenSpec.ofChange workerHoldsWrong)

/-- 'plunderlaw11.WorkerAccesses': WHATEVER THE INPUT: true; the input reads as it did. -/
def workerAccessesSpec : ChangeSpec := { name := "workerAccesses", fn := fun _ => fun
  | [d] => { results := [.lit (.bool true)], args := [d] }
  | _ => none }
def workerAccessesRow : OpenClaim := { program := "ytaiffafelihaaaagreatdoor", sum := "9824478499a883fc209833f0c7ea21e7b6853bdbbd730adede63b5cf12081ef6", func := "plunder/plunderlaw11.WorkerAccesses", spec := "workerAccesses", unfollowed := true, recurses := true, named := ["plunder/prog.fields", "plunder/worker.idle"], plainKeys := false, apart := false, laid := [("plunder/prog.fields", laid_plunder_prog_fields), ("plunder/worker.idle", laid_plunder_worker_idle)] }
def WorkerAccessesSaid : Prop := workerAccessesRow.holds Tryz.pinned (OpenSpec.ofChange workerAccessesSpec)

/-- ITS FALSE NEIGHBOUR: 'it returns false'. Refute it at one input. -/
def workerAccessesWrong : ChangeSpec := { name := "workerAccesses", fn := fun _ => fun
  | [d] => { results := [.lit (.bool false)], args := [d] }
  | _ => none }
def WorkerAccessesWrongFalsely : Prop := workerAccessesRow.holds Tryz.pinned (OpenSpec.ofChange workerAccessesWrong)

/-- 'plunderlaw11.WorkerOnce': WHATEVER THE INPUT: true; the input reads as it did. -/
def workerOnceSpec : ChangeSpec := { name := "workerOnce", fn := fun _ => fun
  | [d] => { results := [.lit (.bool true)], args := [d] }
  | _ => none }
def workerOnceRow : OpenClaim := { program := "ytaiffafelihaaaagreatdoor", sum := "9824478499a883fc209833f0c7ea21e7b6853bdbbd730adede63b5cf12081ef6", func := "plunder/plunderlaw11.WorkerOnce", spec := "workerOnce", unfollowed := true, recurses := true, named := ["plunder/prog.fields", "plunder/worker.idle"], plainKeys := false, apart := false, laid := [("plunder/prog.fields", laid_plunder_prog_fields), ("plunder/worker.idle", laid_plunder_worker_idle)] }
def WorkerOnceSaid : Prop := workerOnceRow.holds Tryz.pinned (OpenSpec.ofChange workerOnceSpec)

/-- ITS FALSE NEIGHBOUR: 'it returns false'. Refute it at one input. -/
def workerOnceWrong : ChangeSpec := { name := "workerOnce", fn := fun _ => fun
  | [d] => { results := [.lit (.bool false)], args := [d] }
  | _ => none }
def WorkerOnceWrongFalsely : Prop := workerOnceRow.holds Tryz.pinned (OpenSpec.ofChange workerOnceWrong)

/-- 'plunderlaw11.WorkerJoins': WHATEVER THE INPUT: true; the input reads as it did. -/
def workerJoinsSpec : ChangeSpec := { name := "workerJoins", fn := fun _ => fun
  | [d] => { results := [.lit (.bool true)], args := [d] }
  | _ => none }
def workerJoinsRow : OpenClaim := { program := "ytaiffafelihaaaagreatdoor", sum := "9824478499a883fc209833f0c7ea21e7b6853bdbbd730adede63b5cf12081ef6", func := "plunder/plunderlaw11.WorkerJoins", spec := "workerJoins", unfollowed := true, recurses := true, named := ["plunder/prog.fields", "plunder/worker.idle"], plainKeys := false, apart := false, laid := [("plunder/prog.fields", laid_plunder_prog_fields), ("plunder/worker.idle", laid_plunder_worker_idle)] }
def WorkerJoinsSaid : Prop := workerJoinsRow.holds Tryz.pinned (OpenSpec.ofChange workerJoinsSpec)

/-- ITS FALSE NEIGHBOUR: 'it returns false'. Refute it at one input. -/
def workerJoinsWrong : ChangeSpec := { name := "workerJoins", fn := fun _ => fun
  | [d] => { results := [.lit (.bool false)], args := [d] }
  | _ => none }
def WorkerJoinsWrongFalsely : Prop := workerJoinsRow.holds Tryz.pinned (OpenSpec.ofChange workerJoinsWrong)

/-- 'plunderlaw11.WorkerSerial': WHATEVER THE INPUT: true; the input reads as it did. -/
def workerSerialSpec : ChangeSpec := { name := "workerSerial", fn := fun _ => fun
  | [d] => { results := [.lit (.bool true)], args := [d] }
  | _ => none }
def workerSerialRow : OpenClaim := { program := "ytaiffafelihaaaagreatdoor", sum := "9824478499a883fc209833f0c7ea21e7b6853bdbbd730adede63b5cf12081ef6", func := "plunder/plunderlaw11.WorkerSerial", spec := "workerSerial", unfollowed := true, recurses := true, named := ["plunder/prog.fields", "plunder/worker.idle"], plainKeys := false, apart := false, laid := [("plunder/prog.fields", laid_plunder_prog_fields), ("plunder/worker.idle", laid_plunder_worker_idle)] }
def WorkerSerialSaid : Prop := workerSerialRow.holds Tryz.pinned (OpenSpec.ofChange workerSerialSpec)

/-- ITS FALSE NEIGHBOUR: 'it returns false'. Refute it at one input. -/
def workerSerialWrong : ChangeSpec := { name := "workerSerial", fn := fun _ => fun
  | [d] => { results := [.lit (.bool false)], args := [d] }
  | _ => none }
def WorkerSerialWrongFalsely : Prop := workerSerialRow.holds Tryz.pinned (OpenSpec.ofChange workerSerialWrong)

/-- 'plunderlaw11.WorkerLone': WHATEVER THE INPUT: true; the input reads as it did. -/
def workerLoneSpec : ChangeSpec := { name := "workerLone", fn := fun _ => fun
  | [d] => { results := [.lit (.bool true)], args := [d] }
  | _ => none }
def workerLoneRow : OpenClaim := { program := "ytaiffafelihaaaagreatdoor", sum := "9824478499a883fc209833f0c7ea21e7b6853bdbbd730adede63b5cf12081ef6", func := "plunder/plunderlaw11.WorkerLone", spec := "workerLone", unfollowed := true, recurses := true, named := ["plunder/prog.fields", "plunder/worker.idle"], plainKeys := false, apart := false, laid := [("plunder/prog.fields", laid_plunder_prog_fields), ("plunder/worker.idle", laid_plunder_worker_idle)] }
def WorkerLoneSaid : Prop := workerLoneRow.holds Tryz.pinned (OpenSpec.ofChange workerLoneSpec)

/-- ITS FALSE NEIGHBOUR: 'it returns false'. Refute it at one input. -/
def workerLoneWrong : ChangeSpec := { name := "workerLone", fn := fun _ => fun
  | [d] => { results := [.lit (.bool false)], args := [d] }
  | _ => none }
def WorkerLoneWrongFalsely : Prop := workerLoneRow.holds Tryz.pinned (OpenSpec.ofChange workerLoneWrong)

/-- 'plunderlaw11.WorkerCounts': WHATEVER THE INPUT: true; the input reads as it did. -/
def workerCountsSpec : ChangeSpec := { name := "workerCounts", fn := fun _ => fun
  | [d] => { results := [.lit (.bool true)], args := [d] }
  | _ => none }
def workerCountsRow : OpenClaim := { program := "ytaiffafelihaaaagreatdoor", sum := "9824478499a883fc209833f0c7ea21e7b6853bdbbd730adede63b5cf12081ef6", func := "plunder/plunderlaw11.WorkerCounts", spec := "workerCounts", unfollowed := true, recurses := true, named := ["plunder/prog.fields", "plunder/worker.idle"], plainKeys := false, apart := false, laid := [("plunder/prog.fields", laid_plunder_prog_fields), ("plunder/worker.idle", laid_plunder_worker_idle)] }
def WorkerCountsSaid : Prop := workerCountsRow.holds Tryz.pinned (OpenSpec.ofChange workerCountsSpec)

/-- ITS FALSE NEIGHBOUR: 'it returns false'. Refute it at one input. -/
def workerCountsWrong : ChangeSpec := { name := "workerCounts", fn := fun _ => fun
  | [d] => { results := [.lit (.bool false)], args := [d] }
  | _ => none }
def WorkerCountsWrongFalsely : Prop := workerCountsRow.holds Tryz.pinned (OpenSpec.ofChange workerCountsWrong)

/-- 'plunderlaw11.WorkerOrder': WHATEVER THE INPUT: true; the input reads as it did. -/
def workerOrderSpec : ChangeSpec := { name := "workerOrder", fn := fun _ => fun
  | [d] => { results := [.lit (.bool true)], args := [d] }
  | _ => none }
def workerOrderRow : OpenClaim := { program := "ytaiffafelihaaaagreatdoor", sum := "9824478499a883fc209833f0c7ea21e7b6853bdbbd730adede63b5cf12081ef6", func := "plunder/plunderlaw11.WorkerOrder", spec := "workerOrder", unfollowed := true, recurses := true, named := ["plunder/prog.fields", "plunder/worker.idle"], plainKeys := false, apart := false, laid := [("plunder/prog.fields", laid_plunder_prog_fields), ("plunder/worker.idle", laid_plunder_worker_idle)] }
def WorkerOrderSaid : Prop := workerOrderRow.holds Tryz.pinned (OpenSpec.ofChange workerOrderSpec)

/-- ITS FALSE NEIGHBOUR: 'it returns false'. Refute it at one input. -/
def workerOrderWrong : ChangeSpec := { name := "workerOrder", fn := fun _ => fun
  | [d] => { results := [.lit (.bool false)], args := [d] }
  | _ => none }
def WorkerOrderWrongFalsely : Prop := workerOrderRow.holds Tryz.pinned (OpenSpec.ofChange workerOrderWrong)

/-- 'plunderlaw11.WorkerKeeps': WHATEVER THE INPUT: true; the input reads as it did. -/
def workerKeepsSpec : ChangeSpec := { name := "workerKeeps", fn := fun _ => fun
  | [d] => { results := [.lit (.bool true)], args := [d] }
  | _ => none }
def workerKeepsRow : OpenClaim := { program := "ytaiffafelihaaaagreatdoor", sum := "9824478499a883fc209833f0c7ea21e7b6853bdbbd730adede63b5cf12081ef6", func := "plunder/plunderlaw11.WorkerKeeps", spec := "workerKeeps", unfollowed := true, recurses := true, named := ["plunder/prog.fields", "plunder/worker.idle"], plainKeys := false, apart := false, laid := [("plunder/prog.fields", laid_plunder_prog_fields), ("plunder/worker.idle", laid_plunder_worker_idle)] }
def WorkerKeepsSaid : Prop := workerKeepsRow.holds Tryz.pinned (OpenSpec.ofChange workerKeepsSpec)

/-- ITS FALSE NEIGHBOUR: 'it returns false'. Refute it at one input. -/
def workerKeepsWrong : ChangeSpec := { name := "workerKeeps", fn := fun _ => fun
  | [d] => { results := [.lit (.bool false)], args := [d] }
  | _ => none }
def WorkerKeepsWrongFalsely : Prop := workerKeepsRow.holds Tryz.pinned (OpenSpec.ofChange workerKeepsWrong)

/- THE SECOND FORM. 'bulk': how many values and letters a reading holds, each counted each time it is reached (what is shared counts as often as it is met; a slice's spare places count too). A statement '..UptoSaid' is the law's where the arguments, and the package variables that the reading takes, are together of bulk at most 1048576: NARROWER than '..Said'. Prove '..Said' where nothing that the law and all that it calls make is longer than what came in: it says more and counts as full. Else prove '..UptoSaid'. A law counts once. -/
mutual
def uptoBulk {H : Type} : DataW H → Nat
  | .lit (.string bytes) => bytes.length + 1
  | .lit _ => 1
  | .nil => 1
  | .ptr d => uptoBulk d + 1
  | .slice elems spare => uptoBulkAll elems + uptoBulkAll spare + 1
  | .agg parts => uptoBulkAll parts + 1
  | .iface _ d => uptoBulk d + 1
  | .map entries => uptoBulkEntries entries + 1
  | .held _ => 1
def uptoBulkAll {H : Type} : List (DataW H) → Nat
  | [] => 0
  | d :: r => uptoBulk d + uptoBulkAll r
def uptoBulkEntries {H : Type} : List (Lit × DataW H) → Nat
  | [] => 0
  | x :: r => uptoBulkEntry x + uptoBulkEntries r
def uptoBulkEntry {H : Type} : Lit × DataW H → Nat
  | (.string bytes, d) => bytes.length + uptoBulk d + 1
  | (_, d) => uptoBulk d + 1
 end
def uptoSmall : (H : Type) → List (DataW H) → Bool := fun _ ds => decide (uptoBulkAll ds ≤ 1048576)
def OpenSpec.upto (s : _root_.Go.ChangeSpec) : _root_.Go.OpenSpec := { _root_.Go.OpenSpec.ofChange s with cond := some uptoSmall }

/-- 'plunderlaw11.WorkerHolds', WHERE WHAT IT READS IS OF BULK AT MOST 1048576: true; the input reads as it did. -/
def workerHoldsUptoRow : OpenClaim := { program := "ytaiffafelihaaaagreatdoor", sum := "9824478499a883fc209833f0c7ea21e7b6853bdbbd730adede63b5cf12081ef6", func := "plunder/plunderlaw11.WorkerHolds", spec := "workerHolds", unfollowed := true, recurses := true, named := ["plunder/prog.fields", "plunder/worker.idle"], plainKeys := false, apart := false, laid := [("plunder/prog.fields", laid_plunder_prog_fields), ("plunder/worker.idle", laid_plunder_worker_idle)], narrowed := true }
def WorkerHoldsUptoSaid : Prop := workerHoldsUptoRow.holds Tryz.pinned (OpenSpec.upto workerHoldsSpec)

/-- 'plunderlaw11.WorkerAccesses', WHERE WHAT IT READS IS OF BULK AT MOST 1048576: true; the input reads as it did. -/
def workerAccessesUptoRow : OpenClaim := { program := "ytaiffafelihaaaagreatdoor", sum := "9824478499a883fc209833f0c7ea21e7b6853bdbbd730adede63b5cf12081ef6", func := "plunder/plunderlaw11.WorkerAccesses", spec := "workerAccesses", unfollowed := true, recurses := true, named := ["plunder/prog.fields", "plunder/worker.idle"], plainKeys := false, apart := false, laid := [("plunder/prog.fields", laid_plunder_prog_fields), ("plunder/worker.idle", laid_plunder_worker_idle)], narrowed := true }
def WorkerAccessesUptoSaid : Prop := workerAccessesUptoRow.holds Tryz.pinned (OpenSpec.upto workerAccessesSpec)

/-- 'plunderlaw11.WorkerOnce', WHERE WHAT IT READS IS OF BULK AT MOST 1048576: true; the input reads as it did. -/
def workerOnceUptoRow : OpenClaim := { program := "ytaiffafelihaaaagreatdoor", sum := "9824478499a883fc209833f0c7ea21e7b6853bdbbd730adede63b5cf12081ef6", func := "plunder/plunderlaw11.WorkerOnce", spec := "workerOnce", unfollowed := true, recurses := true, named := ["plunder/prog.fields", "plunder/worker.idle"], plainKeys := false, apart := false, laid := [("plunder/prog.fields", laid_plunder_prog_fields), ("plunder/worker.idle", laid_plunder_worker_idle)], narrowed := true }
def WorkerOnceUptoSaid : Prop := workerOnceUptoRow.holds Tryz.pinned (OpenSpec.upto workerOnceSpec)

/-- 'plunderlaw11.WorkerJoins', WHERE WHAT IT READS IS OF BULK AT MOST 1048576: true; the input reads as it did. -/
def workerJoinsUptoRow : OpenClaim := { program := "ytaiffafelihaaaagreatdoor", sum := "9824478499a883fc209833f0c7ea21e7b6853bdbbd730adede63b5cf12081ef6", func := "plunder/plunderlaw11.WorkerJoins", spec := "workerJoins", unfollowed := true, recurses := true, named := ["plunder/prog.fields", "plunder/worker.idle"], plainKeys := false, apart := false, laid := [("plunder/prog.fields", laid_plunder_prog_fields), ("plunder/worker.idle", laid_plunder_worker_idle)], narrowed := true }
def WorkerJoinsUptoSaid : Prop := workerJoinsUptoRow.holds Tryz.pinned (OpenSpec.upto workerJoinsSpec)

/-- 'plunderlaw11.WorkerSerial', WHERE WHAT IT READS IS OF BULK AT MOST 1048576: true; the input reads as it did. -/
def workerSerialUptoRow : OpenClaim := { program := "ytaiffafelihaaaagreatdoor", sum := "9824478499a883fc209833f0c7ea21e7b6853bdbbd730adede63b5cf12081ef6", func := "plunder/plunderlaw11.WorkerSerial", spec := "workerSerial", unfollowed := true, recurses := true, named := ["plunder/prog.fields", "plunder/worker.idle"], plainKeys := false, apart := false, laid := [("plunder/prog.fields", laid_plunder_prog_fields), ("plunder/worker.idle", laid_plunder_worker_idle)], narrowed := true }
def WorkerSerialUptoSaid : Prop := workerSerialUptoRow.holds Tryz.pinned (OpenSpec.upto workerSerialSpec)

/-- 'plunderlaw11.WorkerLone', WHERE WHAT IT READS IS OF BULK AT MOST 1048576: true; the input reads as it did. -/
def workerLoneUptoRow : OpenClaim := { program := "ytaiffafelihaaaagreatdoor", sum := "9824478499a883fc209833f0c7ea21e7b6853bdbbd730adede63b5cf12081ef6", func := "plunder/plunderlaw11.WorkerLone", spec := "workerLone", unfollowed := true, recurses := true, named := ["plunder/prog.fields", "plunder/worker.idle"], plainKeys := false, apart := false, laid := [("plunder/prog.fields", laid_plunder_prog_fields), ("plunder/worker.idle", laid_plunder_worker_idle)], narrowed := true }
def WorkerLoneUptoSaid : Prop := workerLoneUptoRow.holds Tryz.pinned (OpenSpec.upto workerLoneSpec)

/-- 'plunderlaw11.WorkerCounts', WHERE WHAT IT READS IS OF BULK AT MOST 1048576: true; the input reads as it did. -/
def workerCountsUptoRow : OpenClaim := { program := "ytaiffafelihaaaagreatdoor", sum := "9824478499a883fc209833f0c7ea21e7b6853bdbbd730adede63b5cf12081ef6", func := "plunder/plunderlaw11.WorkerCounts", spec := "workerCounts", unfollowed := true, recurses := true, named := ["plunder/prog.fields", "plunder/worker.idle"], plainKeys := false, apart := false, laid := [("plunder/prog.fields", laid_plunder_prog_fields), ("plunder/worker.idle", laid_plunder_worker_idle)], narrowed := true }
def WorkerCountsUptoSaid : Prop := workerCountsUptoRow.holds Tryz.pinned (OpenSpec.upto workerCountsSpec)

/-- 'plunderlaw11.WorkerOrder', WHERE WHAT IT READS IS OF BULK AT MOST 1048576: true; the input reads as it did. -/
def workerOrderUptoRow : OpenClaim := { program := "ytaiffafelihaaaagreatdoor", sum := "9824478499a883fc209833f0c7ea21e7b6853bdbbd730adede63b5cf12081ef6", func := "plunder/plunderlaw11.WorkerOrder", spec := "workerOrder", unfollowed := true, recurses := true, named := ["plunder/prog.fields", "plunder/worker.idle"], plainKeys := false, apart := false, laid := [("plunder/prog.fields", laid_plunder_prog_fields), ("plunder/worker.idle", laid_plunder_worker_idle)], narrowed := true }
def WorkerOrderUptoSaid : Prop := workerOrderUptoRow.holds Tryz.pinned (OpenSpec.upto workerOrderSpec)

/-- 'plunderlaw11.WorkerKeeps', WHERE WHAT IT READS IS OF BULK AT MOST 1048576: true; the input reads as it did. -/
def workerKeepsUptoRow : OpenClaim := { program := "ytaiffafelihaaaagreatdoor", sum := "9824478499a883fc209833f0c7ea21e7b6853bdbbd730adede63b5cf12081ef6", func := "plunder/plunderlaw11.WorkerKeeps", spec := "workerKeeps", unfollowed := true, recurses := true, named := ["plunder/prog.fields", "plunder/worker.idle"], plainKeys := false, apart := false, laid := [("plunder/prog.fields", laid_plunder_prog_fields), ("plunder/worker.idle", laid_plunder_worker_idle)], narrowed := true }
def WorkerKeepsUptoSaid : Prop := workerKeepsUptoRow.holds Tryz.pinned (OpenSpec.upto workerKeepsSpec)

end Rows
end Go.Proofs.YtaiffafelihaaaaGreatDoor
