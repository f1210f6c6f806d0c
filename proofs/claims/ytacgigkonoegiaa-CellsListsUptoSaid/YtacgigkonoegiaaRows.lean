/-
  No cell of these rows narrows 'for every input' (looked for: loops, veiled, ifaces, maps, wideKeys, modest, calm, conditions, laid).
  DERIVED. THE GIVEN ROWS OF THIS SEAT. 12 by the template 'for every input the law returns true; each argument reads behind the call as it read before'; 0 by the template 'total and deterministic' (their statements: YtacgigkonoegiaaTotals.lean).
  GIVEN WITH THE SEED: the statements are not yours to turn. If you find one false, say at which input.
  Laid BY PROGRAM, IN A SANDBOX (cutbox-rows.mjs): the forced cells as the released guide's own fill.sh prints them over the translation be6128651cca5330… (all of the seat's roots in one cut). By AI agents, Wed Nov 11 2026. No macro, syntax, notation, axiom, sorry.
-/
import Derived.Test.YtacgigkonoegiaaChecked
import GoSem.Claim
import GoSem.ClaimJoined
import GoSem.ClaimMapViews
import Derived.JoinedTies
import Derived.KernelRfl
namespace Go.Proofs.Ytacgigkonoegiaa
/- THE CELL 'sum', in the pinned program and in every row, IS THE sha256 OF THE DUMP (.gsa) THAT YtacgigkonoegiaaProg.lean LOADS. Nothing in Lean hashes anything: it is a label: what it is worth is what the hold of that sum in a sandbox is worth. -/
noncomputable def Try.pinned : Pinned := { name := "ytacgigkonoegiaa", sum := "be6128651cca5330a234d29afb4deedb4c173cf48f2e4741430a286b6943b7f9", checked := Try.checked }
namespace Rows
def none {H : Type} : Left H := { results := [], args := [] }

/-- 'plunderlaw12.MachineBound': WHATEVER THE INPUT: true; the input reads as it did. -/
def machineBoundSpec : ChangeSpec := { name := "machineBound", fn := fun _ => fun
  | [d1, d2, d3, d4] => { results := [.lit (.bool true)], args := [d1, d2, d3, d4] }
  | _ => none }
def machineBoundRow : OpenClaim := { program := "ytacgigkonoegiaa", sum := "be6128651cca5330a234d29afb4deedb4c173cf48f2e4741430a286b6943b7f9", func := "plunder/plunderlaw12.MachineBound", spec := "machineBound", apart := false }
def MachineBoundSaid : Prop := machineBoundRow.holds Try.pinned (OpenSpec.ofChange machineBoundSpec)

/-- ITS FALSE NEIGHBOUR: 'it returns false'. Refute it at one input. -/
def machineBoundWrong : ChangeSpec := { name := "machineBound", fn := fun _ => fun
  | [d1, d2, d3, d4] => { results := [.lit (.bool false)], args := [d1, d2, d3, d4] }
  | _ => none }
def MachineBoundWrongFalsely : Prop := machineBoundRow.holds Try.pinned (OpenSpec.ofChange machineBoundWrong)

/-- 'plunderlaw11.WorkerNeeds': WHATEVER THE INPUT: true; the input reads as it did. -/
def workerNeedsSpec : ChangeSpec := { name := "workerNeeds", fn := fun _ => fun
  | [d1, d2] => { results := [.lit (.bool true)], args := [d1, d2] }
  | _ => none }
def workerNeedsRow : OpenClaim := { program := "ytacgigkonoegiaa", sum := "be6128651cca5330a234d29afb4deedb4c173cf48f2e4741430a286b6943b7f9", func := "plunder/plunderlaw11.WorkerNeeds", spec := "workerNeeds", apart := false }
def WorkerNeedsSaid : Prop := workerNeedsRow.holds Try.pinned (OpenSpec.ofChange workerNeedsSpec)

/-- ITS FALSE NEIGHBOUR: 'it returns false'. Refute it at one input. -/
def workerNeedsWrong : ChangeSpec := { name := "workerNeeds", fn := fun _ => fun
  | [d1, d2] => { results := [.lit (.bool false)], args := [d1, d2] }
  | _ => none }
def WorkerNeedsWrongFalsely : Prop := workerNeedsRow.holds Try.pinned (OpenSpec.ofChange workerNeedsWrong)

/-- 'plunderlaw2.CellsOnly': WHATEVER THE INPUT: true; the input reads as it did. -/
def cellsOnlySpec : ChangeSpec := { name := "cellsOnly", fn := fun _ => fun
  | [d1, d2] => { results := [.lit (.bool true)], args := [d1, d2] }
  | _ => none }
def cellsOnlyRow : OpenClaim := { program := "ytacgigkonoegiaa", sum := "be6128651cca5330a234d29afb4deedb4c173cf48f2e4741430a286b6943b7f9", func := "plunder/plunderlaw2.CellsOnly", spec := "cellsOnly", apart := false }
def CellsOnlySaid : Prop := cellsOnlyRow.holds Try.pinned (OpenSpec.ofChange cellsOnlySpec)

/-- ITS FALSE NEIGHBOUR: 'it returns false'. Refute it at one input. -/
def cellsOnlyWrong : ChangeSpec := { name := "cellsOnly", fn := fun _ => fun
  | [d1, d2] => { results := [.lit (.bool false)], args := [d1, d2] }
  | _ => none }
def CellsOnlyWrongFalsely : Prop := cellsOnlyRow.holds Try.pinned (OpenSpec.ofChange cellsOnlyWrong)

/-- 'plunderlaw2.CellsMoves': WHATEVER THE INPUT: true; the input reads as it did. -/
def cellsMovesSpec : ChangeSpec := { name := "cellsMoves", fn := fun _ => fun
  | [d1, d2] => { results := [.lit (.bool true)], args := [d1, d2] }
  | _ => none }
def cellsMovesRow : OpenClaim := { program := "ytacgigkonoegiaa", sum := "be6128651cca5330a234d29afb4deedb4c173cf48f2e4741430a286b6943b7f9", func := "plunder/plunderlaw2.CellsMoves", spec := "cellsMoves", apart := false }
def CellsMovesSaid : Prop := cellsMovesRow.holds Try.pinned (OpenSpec.ofChange cellsMovesSpec)

/-- ITS FALSE NEIGHBOUR: 'it returns false'. Refute it at one input. -/
def cellsMovesWrong : ChangeSpec := { name := "cellsMoves", fn := fun _ => fun
  | [d1, d2] => { results := [.lit (.bool false)], args := [d1, d2] }
  | _ => none }
def CellsMovesWrongFalsely : Prop := cellsMovesRow.holds Try.pinned (OpenSpec.ofChange cellsMovesWrong)

/-- 'plunderlaw2.CellsTurns': WHATEVER THE INPUT: true; the input reads as it did. -/
def cellsTurnsSpec : ChangeSpec := { name := "cellsTurns", fn := fun _ => fun
  | [d1, d2, d3] => { results := [.lit (.bool true)], args := [d1, d2, d3] }
  | _ => none }
def cellsTurnsRow : OpenClaim := { program := "ytacgigkonoegiaa", sum := "be6128651cca5330a234d29afb4deedb4c173cf48f2e4741430a286b6943b7f9", func := "plunder/plunderlaw2.CellsTurns", spec := "cellsTurns", apart := false }
def CellsTurnsSaid : Prop := cellsTurnsRow.holds Try.pinned (OpenSpec.ofChange cellsTurnsSpec)

/-- ITS FALSE NEIGHBOUR: 'it returns false'. Refute it at one input. -/
def cellsTurnsWrong : ChangeSpec := { name := "cellsTurns", fn := fun _ => fun
  | [d1, d2, d3] => { results := [.lit (.bool false)], args := [d1, d2, d3] }
  | _ => none }
def CellsTurnsWrongFalsely : Prop := cellsTurnsRow.holds Try.pinned (OpenSpec.ofChange cellsTurnsWrong)

/-- 'plunderlaw2.CellsLists': WHATEVER THE INPUT: true; the input reads as it did. -/
def cellsListsSpec : ChangeSpec := { name := "cellsLists", fn := fun _ => fun
  | [d1, d2, d3] => { results := [.lit (.bool true)], args := [d1, d2, d3] }
  | _ => none }
def cellsListsRow : OpenClaim := { program := "ytacgigkonoegiaa", sum := "be6128651cca5330a234d29afb4deedb4c173cf48f2e4741430a286b6943b7f9", func := "plunder/plunderlaw2.CellsLists", spec := "cellsLists", apart := false }
def CellsListsSaid : Prop := cellsListsRow.holds Try.pinned (OpenSpec.ofChange cellsListsSpec)

/-- ITS FALSE NEIGHBOUR: 'it returns false'. Refute it at one input. -/
def cellsListsWrong : ChangeSpec := { name := "cellsLists", fn := fun _ => fun
  | [d1, d2, d3] => { results := [.lit (.bool false)], args := [d1, d2, d3] }
  | _ => none }
def CellsListsWrongFalsely : Prop := cellsListsRow.holds Try.pinned (OpenSpec.ofChange cellsListsWrong)

/-- 'plunderlaw2.CellsShared': WHATEVER THE INPUT: true; the input reads as it did. -/
def cellsSharedSpec : ChangeSpec := { name := "cellsShared", fn := fun _ => fun
  | [d1, d2, d3] => { results := [.lit (.bool true)], args := [d1, d2, d3] }
  | _ => none }
def cellsSharedRow : OpenClaim := { program := "ytacgigkonoegiaa", sum := "be6128651cca5330a234d29afb4deedb4c173cf48f2e4741430a286b6943b7f9", func := "plunder/plunderlaw2.CellsShared", spec := "cellsShared", inPlace := ["sync/atomic.LoadInt64", "sync/atomic.StoreInt64", "sync/atomic.CompareAndSwapInt64", "sync/atomic.AddInt64", "(*internal/sync.Mutex).Lock", "internal/race.Disable", "sync/atomic.CompareAndSwapInt32", "internal/race.Enable", "internal/race.Acquire", "(*internal/sync.Mutex).lockSlow", "internal/sync.runtime_canSpin", "internal/sync.runtime_doSpin", "internal/sync.throw", "internal/sync.runtime_nanotime", "internal/sync.runtime_SemacquireMutex", "sync/atomic.AddInt32", "(*internal/sync.Mutex).Unlock", "internal/race.ReleaseMerge", "(*internal/sync.Mutex).unlockSlow", "internal/sync.fatal", "internal/sync.runtime_Semrelease"], apart := false }
def CellsSharedSaid : Prop := cellsSharedRow.holds Try.pinned (OpenSpec.ofChange cellsSharedSpec)

/-- ITS FALSE NEIGHBOUR: 'it returns false'. Refute it at one input. -/
def cellsSharedWrong : ChangeSpec := { name := "cellsShared", fn := fun _ => fun
  | [d1, d2, d3] => { results := [.lit (.bool false)], args := [d1, d2, d3] }
  | _ => none }
def CellsSharedWrongFalsely : Prop := cellsSharedRow.holds Try.pinned (OpenSpec.ofChange cellsSharedWrong)

/-- 'plunderlaw2.CellsFresh': WHATEVER THE INPUT: true; the input reads as it did. -/
def cellsFreshSpec : ChangeSpec := { name := "cellsFresh", fn := fun _ => fun
  | [d1, d2, d3] => { results := [.lit (.bool true)], args := [d1, d2, d3] }
  | _ => none }
def cellsFreshRow : OpenClaim := { program := "ytacgigkonoegiaa", sum := "be6128651cca5330a234d29afb4deedb4c173cf48f2e4741430a286b6943b7f9", func := "plunder/plunderlaw2.CellsFresh", spec := "cellsFresh", unfollowed := true, recurses := true, apart := false }
def CellsFreshSaid : Prop := cellsFreshRow.holds Try.pinned (OpenSpec.ofChange cellsFreshSpec)

/-- ITS FALSE NEIGHBOUR: 'it returns false'. Refute it at one input. -/
def cellsFreshWrong : ChangeSpec := { name := "cellsFresh", fn := fun _ => fun
  | [d1, d2, d3] => { results := [.lit (.bool false)], args := [d1, d2, d3] }
  | _ => none }
def CellsFreshWrongFalsely : Prop := cellsFreshRow.holds Try.pinned (OpenSpec.ofChange cellsFreshWrong)

/-- 'plunderlaw2.CellsPlay': WHATEVER THE INPUT: true; the input reads as it did. -/
def cellsPlaySpec : ChangeSpec := { name := "cellsPlay", fn := fun _ => fun
  | [d1, d2] => { results := [.lit (.bool true)], args := [d1, d2] }
  | _ => none }
def cellsPlayRow : OpenClaim := { program := "ytacgigkonoegiaa", sum := "be6128651cca5330a234d29afb4deedb4c173cf48f2e4741430a286b6943b7f9", func := "plunder/plunderlaw2.CellsPlay", spec := "cellsPlay", apart := false }
def CellsPlaySaid : Prop := cellsPlayRow.holds Try.pinned (OpenSpec.ofChange cellsPlaySpec)

/-- ITS FALSE NEIGHBOUR: 'it returns false'. Refute it at one input. -/
def cellsPlayWrong : ChangeSpec := { name := "cellsPlay", fn := fun _ => fun
  | [d1, d2] => { results := [.lit (.bool false)], args := [d1, d2] }
  | _ => none }
def CellsPlayWrongFalsely : Prop := cellsPlayRow.holds Try.pinned (OpenSpec.ofChange cellsPlayWrong)

/-- 'plunderlaw2.CellsMemory': WHATEVER THE INPUT: true; the input reads as it did. -/
def cellsMemorySpec : ChangeSpec := { name := "cellsMemory", fn := fun _ => fun
  | [d1, d2] => { results := [.lit (.bool true)], args := [d1, d2] }
  | _ => none }
def cellsMemoryRow : OpenClaim := { program := "ytacgigkonoegiaa", sum := "be6128651cca5330a234d29afb4deedb4c173cf48f2e4741430a286b6943b7f9", func := "plunder/plunderlaw2.CellsMemory", spec := "cellsMemory", apart := false }
def CellsMemorySaid : Prop := cellsMemoryRow.holds Try.pinned (OpenSpec.ofChange cellsMemorySpec)

/-- ITS FALSE NEIGHBOUR: 'it returns false'. Refute it at one input. -/
def cellsMemoryWrong : ChangeSpec := { name := "cellsMemory", fn := fun _ => fun
  | [d1, d2] => { results := [.lit (.bool false)], args := [d1, d2] }
  | _ => none }
def CellsMemoryWrongFalsely : Prop := cellsMemoryRow.holds Try.pinned (OpenSpec.ofChange cellsMemoryWrong)

/-- 'plunderlaw2.CellsNone': WHATEVER THE INPUT: true; the input reads as it did. -/
def cellsNoneSpec : ChangeSpec := { name := "cellsNone", fn := fun _ => fun
  | [] => { results := [.lit (.bool true)], args := [] }
  | _ => none }
def cellsNoneRow : OpenClaim := { program := "ytacgigkonoegiaa", sum := "be6128651cca5330a234d29afb4deedb4c173cf48f2e4741430a286b6943b7f9", func := "plunder/plunderlaw2.CellsNone", spec := "cellsNone", inPlace := ["sync/atomic.LoadInt64", "sync/atomic.StoreInt64", "sync/atomic.CompareAndSwapInt64", "sync/atomic.AddInt64", "(*internal/sync.Mutex).Lock", "internal/race.Disable", "sync/atomic.CompareAndSwapInt32", "internal/race.Enable", "internal/race.Acquire", "(*internal/sync.Mutex).lockSlow", "internal/sync.runtime_canSpin", "internal/sync.runtime_doSpin", "internal/sync.throw", "internal/sync.runtime_nanotime", "internal/sync.runtime_SemacquireMutex", "sync/atomic.AddInt32", "(*internal/sync.Mutex).Unlock", "internal/race.ReleaseMerge", "(*internal/sync.Mutex).unlockSlow", "internal/sync.fatal", "internal/sync.runtime_Semrelease"], apart := false }
def CellsNoneSaid : Prop := cellsNoneRow.holds Try.pinned (OpenSpec.ofChange cellsNoneSpec)

/-- ITS FALSE NEIGHBOUR: 'it returns false'. Refute it at one input. -/
def cellsNoneWrong : ChangeSpec := { name := "cellsNone", fn := fun _ => fun
  | [] => { results := [.lit (.bool false)], args := [] }
  | _ => none }
def CellsNoneWrongFalsely : Prop := cellsNoneRow.holds Try.pinned (OpenSpec.ofChange cellsNoneWrong)

/-- 'plunderlaw2.CellsAlike': WHATEVER THE INPUT: true; the input reads as it did. -/
def cellsAlikeSpec : ChangeSpec := { name := "cellsAlike", fn := fun _ => fun
  | [d1, d2] => { results := [.lit (.bool true)], args := [d1, d2] }
  | _ => none }
def cellsAlikeRow : OpenClaim := { program := "ytacgigkonoegiaa", sum := "be6128651cca5330a234d29afb4deedb4c173cf48f2e4741430a286b6943b7f9", func := "plunder/plunderlaw2.CellsAlike", spec := "cellsAlike", inPlace := ["sync/atomic.LoadInt64", "sync/atomic.StoreInt64", "sync/atomic.CompareAndSwapInt64", "sync/atomic.AddInt64", "(*internal/sync.Mutex).Lock", "internal/race.Disable", "sync/atomic.CompareAndSwapInt32", "internal/race.Enable", "internal/race.Acquire", "(*internal/sync.Mutex).lockSlow", "internal/sync.runtime_canSpin", "internal/sync.runtime_doSpin", "internal/sync.throw", "internal/sync.runtime_nanotime", "internal/sync.runtime_SemacquireMutex", "sync/atomic.AddInt32", "(*internal/sync.Mutex).Unlock", "internal/race.ReleaseMerge", "(*internal/sync.Mutex).unlockSlow", "internal/sync.fatal", "internal/sync.runtime_Semrelease"], apart := false }
def CellsAlikeSaid : Prop := cellsAlikeRow.holds Try.pinned (OpenSpec.ofChange cellsAlikeSpec)

/-- ITS FALSE NEIGHBOUR: 'it returns false'. Refute it at one input. -/
def cellsAlikeWrong : ChangeSpec := { name := "cellsAlike", fn := fun _ => fun
  | [d1, d2] => { results := [.lit (.bool false)], args := [d1, d2] }
  | _ => none }
def CellsAlikeWrongFalsely : Prop := cellsAlikeRow.holds Try.pinned (OpenSpec.ofChange cellsAlikeWrong)

/- THE SECOND FORM. 'bulk': how many values and letters a reading holds, each counted each time it is reached (what is shared counts as often as it is met; a slice's spare places count too). A statement '..UptoSaid' is the law's where the arguments, and the package variables that the reading takes, are together of bulk at most 1048576: NARROWER than '..Said'. Prove '..Said' where nothing that the law and all that it calls make is longer than what came in: it says more and counts as full. Else prove '..UptoSaid'. A law counts once. -/
mutual
def uptoBulk {H : Type} : DataW H → Nat
  | .lit (.string bytes) => bytes.length + 1
  | .lit _ => 1
  | .nil => 1
  | .ptr d => uptoBulk d + 1
  | .slice elems spare => uptoBulkAll elems + uptoBulkAll spare + 1
  | .agg parts => uptoBulkAll parts + 1
  | .iface _ d => uptoBulk d + 1
  | .map entries => uptoBulkEntries entries + 1
  | .held _ => 1
def uptoBulkAll {H : Type} : List (DataW H) → Nat
  | [] => 0
  | d :: r => uptoBulk d + uptoBulkAll r
def uptoBulkEntries {H : Type} : List (Lit × DataW H) → Nat
  | [] => 0
  | x :: r => uptoBulkEntry x + uptoBulkEntries r
def uptoBulkEntry {H : Type} : Lit × DataW H → Nat
  | (.string bytes, d) => bytes.length + uptoBulk d + 1
  | (_, d) => uptoBulk d + 1
 end
def uptoSmall : (H : Type) → List (DataW H) → Bool := fun _ ds => decide (uptoBulkAll ds ≤ 1048576)
def OpenSpec.upto (s : _root_.Go.ChangeSpec) : _root_.Go.OpenSpec := { _root_.Go.OpenSpec.ofChange s with cond := some uptoSmall }

/-- 'plunderlaw12.MachineBound', WHERE WHAT IT READS IS OF BULK AT MOST 1048576: true; the input reads as it did. -/
def machineBoundUptoRow : OpenClaim := { program := "ytacgigkonoegiaa", sum := "be6128651cca5330a234d29afb4deedb4c173cf48f2e4741430a286b6943b7f9", func := "plunder/plunderlaw12.MachineBound", spec := "machineBound", apart := false, narrowed := true }
def MachineBoundUptoSaid : Prop := machineBoundUptoRow.holds Try.pinned (OpenSpec.upto machineBoundSpec)

/-- 'plunderlaw11.WorkerNeeds', WHERE WHAT IT READS IS OF BULK AT MOST 1048576: true; the input reads as it did. -/
def workerNeedsUptoRow : OpenClaim := { program := "ytacgigkonoegiaa", sum := "be6128651cca5330a234d29afb4deedb4c173cf48f2e4741430a286b6943b7f9", func := "plunder/plunderlaw11.WorkerNeeds", spec := "workerNeeds", apart := false, narrowed := true }
def WorkerNeedsUptoSaid : Prop := workerNeedsUptoRow.holds Try.pinned (OpenSpec.upto workerNeedsSpec)

/-- 'plunderlaw2.CellsOnly', WHERE WHAT IT READS IS OF BULK AT MOST 1048576: true; the input reads as it did. -/
def cellsOnlyUptoRow : OpenClaim := { program := "ytacgigkonoegiaa", sum := "be6128651cca5330a234d29afb4deedb4c173cf48f2e4741430a286b6943b7f9", func := "plunder/plunderlaw2.CellsOnly", spec := "cellsOnly", apart := false, narrowed := true }
def CellsOnlyUptoSaid : Prop := cellsOnlyUptoRow.holds Try.pinned (OpenSpec.upto cellsOnlySpec)

/-- 'plunderlaw2.CellsMoves', WHERE WHAT IT READS IS OF BULK AT MOST 1048576: true; the input reads as it did. -/
def cellsMovesUptoRow : OpenClaim := { program := "ytacgigkonoegiaa", sum := "be6128651cca5330a234d29afb4deedb4c173cf48f2e4741430a286b6943b7f9", func := "plunder/plunderlaw2.CellsMoves", spec := "cellsMoves", apart := false, narrowed := true }
def CellsMovesUptoSaid : Prop := cellsMovesUptoRow.holds Try.pinned (OpenSpec.upto cellsMovesSpec)

/-- 'plunderlaw2.CellsTurns', WHERE WHAT IT READS IS OF BULK AT MOST 1048576: true; the input reads as it did. -/
def cellsTurnsUptoRow : OpenClaim := { program := "ytacgigkonoegiaa", sum := "be6128651cca5330a234d29afb4deedb4c173cf48f2e4741430a286b6943b7f9", func := "plunder/plunderlaw2.CellsTurns", spec := "cellsTurns", apart := false, narrowed := true }
def CellsTurnsUptoSaid : Prop := cellsTurnsUptoRow.holds Try.pinned (OpenSpec.upto cellsTurnsSpec)

/-- 'plunderlaw2.CellsLists', WHERE WHAT IT READS IS OF BULK AT MOST 1048576: true; the input reads as it did. -/
def cellsListsUptoRow : OpenClaim := { program := "ytacgigkonoegiaa", sum := "be6128651cca5330a234d29afb4deedb4c173cf48f2e4741430a286b6943b7f9", func := "plunder/plunderlaw2.CellsLists", spec := "cellsLists", apart := false, narrowed := true }
def CellsListsUptoSaid : Prop := cellsListsUptoRow.holds Try.pinned (OpenSpec.upto cellsListsSpec)

/-- 'plunderlaw2.CellsShared', WHERE WHAT IT READS IS OF BULK AT MOST 1048576: true; the input reads as it did. -/
def cellsSharedUptoRow : OpenClaim := { program := "ytacgigkonoegiaa", sum := "be6128651cca5330a234d29afb4deedb4c173cf48f2e4741430a286b6943b7f9", func := "plunder/plunderlaw2.CellsShared", spec := "cellsShared", inPlace := ["sync/atomic.LoadInt64", "sync/atomic.StoreInt64", "sync/atomic.CompareAndSwapInt64", "sync/atomic.AddInt64", "(*internal/sync.Mutex).Lock", "internal/race.Disable", "sync/atomic.CompareAndSwapInt32", "internal/race.Enable", "internal/race.Acquire", "(*internal/sync.Mutex).lockSlow", "internal/sync.runtime_canSpin", "internal/sync.runtime_doSpin", "internal/sync.throw", "internal/sync.runtime_nanotime", "internal/sync.runtime_SemacquireMutex", "sync/atomic.AddInt32", "(*internal/sync.Mutex).Unlock", "internal/race.ReleaseMerge", "(*internal/sync.Mutex).unlockSlow", "internal/sync.fatal", "internal/sync.runtime_Semrelease"], apart := false, narrowed := true }
def CellsSharedUptoSaid : Prop := cellsSharedUptoRow.holds Try.pinned (OpenSpec.upto cellsSharedSpec)

/-- 'plunderlaw2.CellsFresh', WHERE WHAT IT READS IS OF BULK AT MOST 1048576: true; the input reads as it did. -/
def cellsFreshUptoRow : OpenClaim := { program := "ytacgigkonoegiaa", sum := "be6128651cca5330a234d29afb4deedb4c173cf48f2e4741430a286b6943b7f9", func := "plunder/plunderlaw2.CellsFresh", spec := "cellsFresh", unfollowed := true, recurses := true, apart := false, narrowed := true }
def CellsFreshUptoSaid : Prop := cellsFreshUptoRow.holds Try.pinned (OpenSpec.upto cellsFreshSpec)

/-- 'plunderlaw2.CellsPlay', WHERE WHAT IT READS IS OF BULK AT MOST 1048576: true; the input reads as it did. -/
def cellsPlayUptoRow : OpenClaim := { program := "ytacgigkonoegiaa", sum := "be6128651cca5330a234d29afb4deedb4c173cf48f2e4741430a286b6943b7f9", func := "plunder/plunderlaw2.CellsPlay", spec := "cellsPlay", apart := false, narrowed := true }
def CellsPlayUptoSaid : Prop := cellsPlayUptoRow.holds Try.pinned (OpenSpec.upto cellsPlaySpec)

/-- 'plunderlaw2.CellsMemory', WHERE WHAT IT READS IS OF BULK AT MOST 1048576: true; the input reads as it did. -/
def cellsMemoryUptoRow : OpenClaim := { program := "ytacgigkonoegiaa", sum := "be6128651cca5330a234d29afb4deedb4c173cf48f2e4741430a286b6943b7f9", func := "plunder/plunderlaw2.CellsMemory", spec := "cellsMemory", apart := false, narrowed := true }
def CellsMemoryUptoSaid : Prop := cellsMemoryUptoRow.holds Try.pinned (OpenSpec.upto cellsMemorySpec)

/-- 'plunderlaw2.CellsNone', WHERE WHAT IT READS IS OF BULK AT MOST 1048576: true; the input reads as it did. -/
def cellsNoneUptoRow : OpenClaim := { program := "ytacgigkonoegiaa", sum := "be6128651cca5330a234d29afb4deedb4c173cf48f2e4741430a286b6943b7f9", func := "plunder/plunderlaw2.CellsNone", spec := "cellsNone", inPlace := ["sync/atomic.LoadInt64", "sync/atomic.StoreInt64", "sync/atomic.CompareAndSwapInt64", "sync/atomic.AddInt64", "(*internal/sync.Mutex).Lock", "internal/race.Disable", "sync/atomic.CompareAndSwapInt32", "internal/race.Enable", "internal/race.Acquire", "(*internal/sync.Mutex).lockSlow", "internal/sync.runtime_canSpin", "internal/sync.runtime_doSpin", "internal/sync.throw", "internal/sync.runtime_nanotime", "internal/sync.runtime_SemacquireMutex", "sync/atomic.AddInt32", "(*internal/sync.Mutex).Unlock", "internal/race.ReleaseMerge", "(*internal/sync.Mutex).unlockSlow", "internal/sync.fatal", "internal/sync.runtime_Semrelease"], apart := false, narrowed := true }
def CellsNoneUptoSaid : Prop := cellsNoneUptoRow.holds Try.pinned (OpenSpec.upto cellsNoneSpec)

/-- 'plunderlaw2.CellsAlike', WHERE WHAT IT READS IS OF BULK AT MOST 1048576: true; the input reads as it did. -/
def cellsAlikeUptoRow : OpenClaim := { program := "ytacgigkonoegiaa", sum := "be6128651cca5330a234d29afb4deedb4c173cf48f2e4741430a286b6943b7f9", func := "plunder/plunderlaw2.CellsAlike", spec := "cellsAlike", inPlace := ["sync/atomic.LoadInt64", "sync/atomic.StoreInt64", "sync/atomic.CompareAndSwapInt64", "sync/atomic.AddInt64", "(*internal/sync.Mutex).Lock", "internal/race.Disable", "sync/atomic.CompareAndSwapInt32", "internal/race.Enable", "internal/race.Acquire", "(*internal/sync.Mutex).lockSlow", "internal/sync.runtime_canSpin", "internal/sync.runtime_doSpin", "internal/sync.throw", "internal/sync.runtime_nanotime", "internal/sync.runtime_SemacquireMutex", "sync/atomic.AddInt32", "(*internal/sync.Mutex).Unlock", "internal/race.ReleaseMerge", "(*internal/sync.Mutex).unlockSlow", "internal/sync.fatal", "internal/sync.runtime_Semrelease"], apart := false, narrowed := true }
def CellsAlikeUptoSaid : Prop := cellsAlikeUptoRow.holds Try.pinned (OpenSpec.upto cellsAlikeSpec)

end Rows
end Go.Proofs.Ytacgigkonoegiaa
