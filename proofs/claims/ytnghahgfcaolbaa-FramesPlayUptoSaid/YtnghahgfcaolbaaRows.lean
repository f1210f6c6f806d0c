/-
  No cell of these rows narrows 'for every input' (looked for: loops, veiled, ifaces, maps, wideKeys, modest, calm, conditions, laid).
  DERIVED. THE GIVEN ROWS OF THIS SEAT. 10 by the template 'for every input the law returns true; each argument reads behind the call as it read before'; 0 by the template 'total and deterministic' (their statements: YtnghahgfcaolbaaTotals.lean).
  GIVEN WITH THE SEED: the statements are not yours to turn. If you find one false, say at which input.
  Laid BY PROGRAM, IN A SANDBOX (cutbox-rows.mjs): the forced cells as the released guide's own fill.sh prints them over the translation ecdcc48474321224… (all of the seat's roots in one cut). By AI agents, Wed Nov 11 2026. No macro, syntax, notation, axiom, sorry.
-/
import Derived.Test.YtnghahgfcaolbaaChecked
import GoSem.Claim
import GoSem.ClaimJoined
import GoSem.ClaimMapViews
import Derived.JoinedTies
import Derived.KernelRfl
namespace Go.Proofs.Ytnghahgfcaolbaa
/- THE CELL 'sum', in the pinned program and in every row, IS THE sha256 OF THE DUMP (.gsa) THAT YtnghahgfcaolbaaProg.lean LOADS. Nothing in Lean hashes anything: it is a label: what it is worth is what the hold of that sum in a sandbox is worth. -/
noncomputable def Try.pinned : Pinned := { name := "ytnghahgfcaolbaa", sum := "ecdcc484743212246b8856441376adb44c001b3bc0d50ba27fdc2ad8f6e278e1", checked := Try.checked }
namespace Rows
def none {H : Type} : Left H := { results := [], args := [] }

/-- 'plunderlaw8.FramesNew': WHATEVER THE INPUT: true; the input reads as it did. -/
def framesNewSpec : ChangeSpec := { name := "framesNew", fn := fun _ => fun
  | [d1, d2, d3] => { results := [.lit (.bool true)], args := [d1, d2, d3] }
  | _ => none }
def framesNewRow : OpenClaim := { program := "ytnghahgfcaolbaa", sum := "ecdcc484743212246b8856441376adb44c001b3bc0d50ba27fdc2ad8f6e278e1", func := "plunder/plunderlaw8.FramesNew", spec := "framesNew", unfollowed := true, recurses := true, apart := false }
def FramesNewSaid : Prop := framesNewRow.holds Try.pinned (OpenSpec.ofChange framesNewSpec)

/-- ITS FALSE NEIGHBOUR: 'it returns false'. Refute it at one input. -/
def framesNewWrong : ChangeSpec := { name := "framesNew", fn := fun _ => fun
  | [d1, d2, d3] => { results := [.lit (.bool false)], args := [d1, d2, d3] }
  | _ => none }
def FramesNewWrongFalsely : Prop := framesNewRow.holds Try.pinned (OpenSpec.ofChange framesNewWrong)

/-- 'plunderlaw8.FramesNone': WHATEVER THE INPUT: true; the input reads as it did. -/
def framesNoneSpec : ChangeSpec := { name := "framesNone", fn := fun _ => fun
  | [] => { results := [.lit (.bool true)], args := [] }
  | _ => none }
def framesNoneRow : OpenClaim := { program := "ytnghahgfcaolbaa", sum := "ecdcc484743212246b8856441376adb44c001b3bc0d50ba27fdc2ad8f6e278e1", func := "plunder/plunderlaw8.FramesNone", spec := "framesNone", unfollowed := true, recurses := true, apart := false }
def FramesNoneSaid : Prop := framesNoneRow.holds Try.pinned (OpenSpec.ofChange framesNoneSpec)

/-- ITS FALSE NEIGHBOUR: 'it returns false'. Refute it at one input. -/
def framesNoneWrong : ChangeSpec := { name := "framesNone", fn := fun _ => fun
  | [] => { results := [.lit (.bool false)], args := [] }
  | _ => none }
def FramesNoneWrongFalsely : Prop := framesNoneRow.holds Try.pinned (OpenSpec.ofChange framesNoneWrong)

/-- 'plunderlaw8.FramesIds': WHATEVER THE INPUT: true; the input reads as it did. -/
def framesIdsSpec : ChangeSpec := { name := "framesIds", fn := fun _ => fun
  | [d1, d2] => { results := [.lit (.bool true)], args := [d1, d2] }
  | _ => none }
def framesIdsRow : OpenClaim := { program := "ytnghahgfcaolbaa", sum := "ecdcc484743212246b8856441376adb44c001b3bc0d50ba27fdc2ad8f6e278e1", func := "plunder/plunderlaw8.FramesIds", spec := "framesIds", unfollowed := true, recurses := true, apart := false }
def FramesIdsSaid : Prop := framesIdsRow.holds Try.pinned (OpenSpec.ofChange framesIdsSpec)

/-- ITS FALSE NEIGHBOUR: 'it returns false'. Refute it at one input. -/
def framesIdsWrong : ChangeSpec := { name := "framesIds", fn := fun _ => fun
  | [d1, d2] => { results := [.lit (.bool false)], args := [d1, d2] }
  | _ => none }
def FramesIdsWrongFalsely : Prop := framesIdsRow.holds Try.pinned (OpenSpec.ofChange framesIdsWrong)

/-- 'plunderlaw8.FramesCount': WHATEVER THE INPUT: true; the input reads as it did. -/
def framesCountSpec : ChangeSpec := { name := "framesCount", fn := fun _ => fun
  | [d1, d2, d3] => { results := [.lit (.bool true)], args := [d1, d2, d3] }
  | _ => none }
def framesCountRow : OpenClaim := { program := "ytnghahgfcaolbaa", sum := "ecdcc484743212246b8856441376adb44c001b3bc0d50ba27fdc2ad8f6e278e1", func := "plunder/plunderlaw8.FramesCount", spec := "framesCount", unfollowed := true, recurses := true, apart := false }
def FramesCountSaid : Prop := framesCountRow.holds Try.pinned (OpenSpec.ofChange framesCountSpec)

/-- ITS FALSE NEIGHBOUR: 'it returns false'. Refute it at one input. -/
def framesCountWrong : ChangeSpec := { name := "framesCount", fn := fun _ => fun
  | [d1, d2, d3] => { results := [.lit (.bool false)], args := [d1, d2, d3] }
  | _ => none }
def FramesCountWrongFalsely : Prop := framesCountRow.holds Try.pinned (OpenSpec.ofChange framesCountWrong)

/-- 'plunderlaw8.FramesSteps': WHATEVER THE INPUT: true; the input reads as it did. -/
def framesStepsSpec : ChangeSpec := { name := "framesSteps", fn := fun _ => fun
  | [d1, d2, d3, d4] => { results := [.lit (.bool true)], args := [d1, d2, d3, d4] }
  | _ => none }
def framesStepsRow : OpenClaim := { program := "ytnghahgfcaolbaa", sum := "ecdcc484743212246b8856441376adb44c001b3bc0d50ba27fdc2ad8f6e278e1", func := "plunder/plunderlaw8.FramesSteps", spec := "framesSteps", unfollowed := true, recurses := true, apart := false }
def FramesStepsSaid : Prop := framesStepsRow.holds Try.pinned (OpenSpec.ofChange framesStepsSpec)

/-- ITS FALSE NEIGHBOUR: 'it returns false'. Refute it at one input. -/
def framesStepsWrong : ChangeSpec := { name := "framesSteps", fn := fun _ => fun
  | [d1, d2, d3, d4] => { results := [.lit (.bool false)], args := [d1, d2, d3, d4] }
  | _ => none }
def FramesStepsWrongFalsely : Prop := framesStepsRow.holds Try.pinned (OpenSpec.ofChange framesStepsWrong)

/-- 'plunderlaw8.FramesPlay': WHATEVER THE INPUT: true; the input reads as it did. -/
def framesPlaySpec : ChangeSpec := { name := "framesPlay", fn := fun _ => fun
  | [d1, d2] => { results := [.lit (.bool true)], args := [d1, d2] }
  | _ => none }
def framesPlayRow : OpenClaim := { program := "ytnghahgfcaolbaa", sum := "ecdcc484743212246b8856441376adb44c001b3bc0d50ba27fdc2ad8f6e278e1", func := "plunder/plunderlaw8.FramesPlay", spec := "framesPlay", unfollowed := true, recurses := true, apart := false }
def FramesPlaySaid : Prop := framesPlayRow.holds Try.pinned (OpenSpec.ofChange framesPlaySpec)

/-- ITS FALSE NEIGHBOUR: 'it returns false'. Refute it at one input. -/
def framesPlayWrong : ChangeSpec := { name := "framesPlay", fn := fun _ => fun
  | [d1, d2] => { results := [.lit (.bool false)], args := [d1, d2] }
  | _ => none }
def FramesPlayWrongFalsely : Prop := framesPlayRow.holds Try.pinned (OpenSpec.ofChange framesPlayWrong)

/-- 'plunderlaw8.FramesEnds': WHATEVER THE INPUT: true; the input reads as it did. -/
def framesEndsSpec : ChangeSpec := { name := "framesEnds", fn := fun _ => fun
  | [d1, d2] => { results := [.lit (.bool true)], args := [d1, d2] }
  | _ => none }
def framesEndsRow : OpenClaim := { program := "ytnghahgfcaolbaa", sum := "ecdcc484743212246b8856441376adb44c001b3bc0d50ba27fdc2ad8f6e278e1", func := "plunder/plunderlaw8.FramesEnds", spec := "framesEnds", unfollowed := true, recurses := true, apart := false }
def FramesEndsSaid : Prop := framesEndsRow.holds Try.pinned (OpenSpec.ofChange framesEndsSpec)

/-- ITS FALSE NEIGHBOUR: 'it returns false'. Refute it at one input. -/
def framesEndsWrong : ChangeSpec := { name := "framesEnds", fn := fun _ => fun
  | [d1, d2] => { results := [.lit (.bool false)], args := [d1, d2] }
  | _ => none }
def FramesEndsWrongFalsely : Prop := framesEndsRow.holds Try.pinned (OpenSpec.ofChange framesEndsWrong)

/-- 'plunderlaw8.FramesSync': WHATEVER THE INPUT: true; the input reads as it did. -/
def framesSyncSpec : ChangeSpec := { name := "framesSync", fn := fun _ => fun
  | [d1, d2] => { results := [.lit (.bool true)], args := [d1, d2] }
  | _ => none }
def framesSyncRow : OpenClaim := { program := "ytnghahgfcaolbaa", sum := "ecdcc484743212246b8856441376adb44c001b3bc0d50ba27fdc2ad8f6e278e1", func := "plunder/plunderlaw8.FramesSync", spec := "framesSync", unfollowed := true, recurses := true, apart := false }
def FramesSyncSaid : Prop := framesSyncRow.holds Try.pinned (OpenSpec.ofChange framesSyncSpec)

/-- ITS FALSE NEIGHBOUR: 'it returns false'. Refute it at one input. -/
def framesSyncWrong : ChangeSpec := { name := "framesSync", fn := fun _ => fun
  | [d1, d2] => { results := [.lit (.bool false)], args := [d1, d2] }
  | _ => none }
def FramesSyncWrongFalsely : Prop := framesSyncRow.holds Try.pinned (OpenSpec.ofChange framesSyncWrong)

/-- 'plunderlaw8.FramesOnce': WHATEVER THE INPUT: true; the input reads as it did. -/
def framesOnceSpec : ChangeSpec := { name := "framesOnce", fn := fun _ => fun
  | [d1, d2] => { results := [.lit (.bool true)], args := [d1, d2] }
  | _ => none }
def framesOnceRow : OpenClaim := { program := "ytnghahgfcaolbaa", sum := "ecdcc484743212246b8856441376adb44c001b3bc0d50ba27fdc2ad8f6e278e1", func := "plunder/plunderlaw8.FramesOnce", spec := "framesOnce", unfollowed := true, recurses := true, apart := false }
def FramesOnceSaid : Prop := framesOnceRow.holds Try.pinned (OpenSpec.ofChange framesOnceSpec)

/-- ITS FALSE NEIGHBOUR: 'it returns false'. Refute it at one input. -/
def framesOnceWrong : ChangeSpec := { name := "framesOnce", fn := fun _ => fun
  | [d1, d2] => { results := [.lit (.bool false)], args := [d1, d2] }
  | _ => none }
def FramesOnceWrongFalsely : Prop := framesOnceRow.holds Try.pinned (OpenSpec.ofChange framesOnceWrong)

/-- 'plunderlaw8.FramesSame': WHATEVER THE INPUT: true; the input reads as it did. -/
def framesSameSpec : ChangeSpec := { name := "framesSame", fn := fun _ => fun
  | [d1, d2, d3] => { results := [.lit (.bool true)], args := [d1, d2, d3] }
  | _ => none }
def framesSameRow : OpenClaim := { program := "ytnghahgfcaolbaa", sum := "ecdcc484743212246b8856441376adb44c001b3bc0d50ba27fdc2ad8f6e278e1", func := "plunder/plunderlaw8.FramesSame", spec := "framesSame", unfollowed := true, recurses := true, apart := false }
def FramesSameSaid : Prop := framesSameRow.holds Try.pinned (OpenSpec.ofChange framesSameSpec)

/-- ITS FALSE NEIGHBOUR: 'it returns false'. Refute it at one input. -/
def framesSameWrong : ChangeSpec := { name := "framesSame", fn := fun _ => fun
  | [d1, d2, d3] => { results := [.lit (.bool false)], args := [d1, d2, d3] }
  | _ => none }
def FramesSameWrongFalsely : Prop := framesSameRow.holds Try.pinned (OpenSpec.ofChange framesSameWrong)

/- THE SECOND FORM. 'bulk': how many values and letters a reading holds, each counted each time it is reached (what is shared counts as often as it is met; a slice's spare places count too). A statement '..UptoSaid' is the law's where the arguments, and the package variables that the reading takes, are together of bulk at most 1048576: NARROWER than '..Said'. Prove '..Said' where nothing that the law and all that it calls make is longer than what came in: it says more and counts as full. Else prove '..UptoSaid'. A law counts once. -/
mutual
def uptoBulk {H : Type} : DataW H → Nat
  | .lit (.string bytes) => bytes.length + 1
  | .lit _ => 1
  | .nil => 1
  | .ptr d => uptoBulk d + 1
  | .slice elems spare => uptoBulkAll elems + uptoBulkAll spare + 1
  | .agg parts => uptoBulkAll parts + 1
  | .iface _ d => uptoBulk d + 1
  | .map entries => uptoBulkEntries entries + 1
  | .held _ => 1
def uptoBulkAll {H : Type} : List (DataW H) → Nat
  | [] => 0
  | d :: r => uptoBulk d + uptoBulkAll r
def uptoBulkEntries {H : Type} : List (Lit × DataW H) → Nat
  | [] => 0
  | x :: r => uptoBulkEntry x + uptoBulkEntries r
def uptoBulkEntry {H : Type} : Lit × DataW H → Nat
  | (.string bytes, d) => bytes.length + uptoBulk d + 1
  | (_, d) => uptoBulk d + 1
 end
def uptoSmall : (H : Type) → List (DataW H) → Bool := fun _ ds => decide (uptoBulkAll ds ≤ 1048576)
def OpenSpec.upto (s : _root_.Go.ChangeSpec) : _root_.Go.OpenSpec := { _root_.Go.OpenSpec.ofChange s with cond := some uptoSmall }

/-- 'plunderlaw8.FramesNew', WHERE WHAT IT READS IS OF BULK AT MOST 1048576: true; the input reads as it did. -/
def framesNewUptoRow : OpenClaim := { program := "ytnghahgfcaolbaa", sum := "ecdcc484743212246b8856441376adb44c001b3bc0d50ba27fdc2ad8f6e278e1", func := "plunder/plunderlaw8.FramesNew", spec := "framesNew", unfollowed := true, recurses := true, apart := false, narrowed := true }
def FramesNewUptoSaid : Prop := framesNewUptoRow.holds Try.pinned (OpenSpec.upto framesNewSpec)

/-- 'plunderlaw8.FramesNone', WHERE WHAT IT READS IS OF BULK AT MOST 1048576: true; the input reads as it did. -/
def framesNoneUptoRow : OpenClaim := { program := "ytnghahgfcaolbaa", sum := "ecdcc484743212246b8856441376adb44c001b3bc0d50ba27fdc2ad8f6e278e1", func := "plunder/plunderlaw8.FramesNone", spec := "framesNone", unfollowed := true, recurses := true, apart := false, narrowed := true }
def FramesNoneUptoSaid : Prop := framesNoneUptoRow.holds Try.pinned (OpenSpec.upto framesNoneSpec)

/-- 'plunderlaw8.FramesIds', WHERE WHAT IT READS IS OF BULK AT MOST 1048576: true; the input reads as it did. -/
def framesIdsUptoRow : OpenClaim := { program := "ytnghahgfcaolbaa", sum := "ecdcc484743212246b8856441376adb44c001b3bc0d50ba27fdc2ad8f6e278e1", func := "plunder/plunderlaw8.FramesIds", spec := "framesIds", unfollowed := true, recurses := true, apart := false, narrowed := true }
def FramesIdsUptoSaid : Prop := framesIdsUptoRow.holds Try.pinned (OpenSpec.upto framesIdsSpec)

/-- 'plunderlaw8.FramesCount', WHERE WHAT IT READS IS OF BULK AT MOST 1048576: true; the input reads as it did. -/
def framesCountUptoRow : OpenClaim := { program := "ytnghahgfcaolbaa", sum := "ecdcc484743212246b8856441376adb44c001b3bc0d50ba27fdc2ad8f6e278e1", func := "plunder/plunderlaw8.FramesCount", spec := "framesCount", unfollowed := true, recurses := true, apart := false, narrowed := true }
def FramesCountUptoSaid : Prop := framesCountUptoRow.holds Try.pinned (OpenSpec.upto framesCountSpec)

/-- 'plunderlaw8.FramesSteps', WHERE WHAT IT READS IS OF BULK AT MOST 1048576: true; the input reads as it did. -/
def framesStepsUptoRow : OpenClaim := { program := "ytnghahgfcaolbaa", sum := "ecdcc484743212246b8856441376adb44c001b3bc0d50ba27fdc2ad8f6e278e1", func := "plunder/plunderlaw8.FramesSteps", spec := "framesSteps", unfollowed := true, recurses := true, apart := false, narrowed := true }
def FramesStepsUptoSaid : Prop := framesStepsUptoRow.holds Try.pinned (OpenSpec.upto framesStepsSpec)

/-- 'plunderlaw8.FramesPlay', WHERE WHAT IT READS IS OF BULK AT MOST 1048576: true; the input reads as it did. -/
def framesPlayUptoRow : OpenClaim := { program := "ytnghahgfcaolbaa", sum := "ecdcc484743212246b8856441376adb44c001b3bc0d50ba27fdc2ad8f6e278e1", func := "plunder/plunderlaw8.FramesPlay", spec := "framesPlay", unfollowed := true, recurses := true, apart := false, narrowed := true }
def FramesPlayUptoSaid : Prop := framesPlayUptoRow.holds Try.pinned (OpenSpec.upto framesPlaySpec)

/-- 'plunderlaw8.FramesEnds', WHERE WHAT IT READS IS OF BULK AT MOST 1048576: true; the input reads as it did. -/
def framesEndsUptoRow : OpenClaim := { program := "ytnghahgfcaolbaa", sum := "ecdcc484743212246b8856441376adb44c001b3bc0d50ba27fdc2ad8f6e278e1", func := "plunder/plunderlaw8.FramesEnds", spec := "framesEnds", unfollowed := true, recurses := true, apart := false, narrowed := true }
def FramesEndsUptoSaid : Prop := framesEndsUptoRow.holds Try.pinned (OpenSpec.upto framesEndsSpec)

/-- 'plunderlaw8.FramesSync', WHERE WHAT IT READS IS OF BULK AT MOST 1048576: true; the input reads as it did. -/
def framesSyncUptoRow : OpenClaim := { program := "ytnghahgfcaolbaa", sum := "ecdcc484743212246b8856441376adb44c001b3bc0d50ba27fdc2ad8f6e278e1", func := "plunder/plunderlaw8.FramesSync", spec := "framesSync", unfollowed := true, recurses := true, apart := false, narrowed := true }
def FramesSyncUptoSaid : Prop := framesSyncUptoRow.holds Try.pinned (OpenSpec.upto framesSyncSpec)

/-- 'plunderlaw8.FramesOnce', WHERE WHAT IT READS IS OF BULK AT MOST 1048576: true; the input reads as it did. -/
def framesOnceUptoRow : OpenClaim := { program := "ytnghahgfcaolbaa", sum := "ecdcc484743212246b8856441376adb44c001b3bc0d50ba27fdc2ad8f6e278e1", func := "plunder/plunderlaw8.FramesOnce", spec := "framesOnce", unfollowed := true, recurses := true, apart := false, narrowed := true }
def FramesOnceUptoSaid : Prop := framesOnceUptoRow.holds Try.pinned (OpenSpec.upto framesOnceSpec)

/-- 'plunderlaw8.FramesSame', WHERE WHAT IT READS IS OF BULK AT MOST 1048576: true; the input reads as it did. -/
def framesSameUptoRow : OpenClaim := { program := "ytnghahgfcaolbaa", sum := "ecdcc484743212246b8856441376adb44c001b3bc0d50ba27fdc2ad8f6e278e1", func := "plunder/plunderlaw8.FramesSame", spec := "framesSame", unfollowed := true, recurses := true, apart := false, narrowed := true }
def FramesSameUptoSaid : Prop := framesSameUptoRow.holds Try.pinned (OpenSpec.upto framesSameSpec)

end Rows
end Go.Proofs.Ytnghahgfcaolbaa
