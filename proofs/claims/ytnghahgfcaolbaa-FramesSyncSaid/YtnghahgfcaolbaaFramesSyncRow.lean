/- plunderlaw8.FramesSync answers true for every input and leaves its input alone. Conditions: none. -/
import Derived.Test.YtnghahgfcaolbaaRows
import Derived.Test.YtnghahgfcaolbaaRK2
import Derived.Test.YtnghahgfcaolbaaFsyncPure
import Derived.Test.YtnghahgfcaolbaaFy4
import Derived.WalkKit
import Derived.ProofKit
import Derived.OpenShut
import Derived.ChangeOld
import Derived.Below
import Derived.SizedLaws
namespace Go.Proofs.Ytnghahgfcaolbaa.framesSyncRow
open Go.ChangeShapes Go.WideShapes Go.ChangeAt Go.RowKit
open Go.Proofs.Ytnghahgfcaolbaa.SL Go.Proofs.Ytnghahgfcaolbaa.GX Go.Proofs.Ytnghahgfcaolbaa.RK Go.Proofs.Ytnghahgfcaolbaa.Mo
set_option linter.unusedVariables false
theorem own : ownKnob Try.prog.godebug = none := by kernel_rfl
set_option maxRecDepth 100000 in
theorem contract (H : Type) (enc : TypeId × Value → H) (W : World) (base : Nat) (args : Array Value) (ds gs : List (DataW H)) (before : List MemPlace)
    (hval : ∀ (j : Nat) t v, Try.f10.params[j]? = some t → args[j]? = some v → Value.okWide Try.prog W .any base t v)
    (hW : DataW.Whole enc Try.prog Try.f10.params.toList Rows.framesSyncSpec.vars false W args.toList ds gs before) :
    Calls Try.prog 10 args W fun e W' => ∃ v, e = .returned v ∧ Rows.framesSyncSpec.post enc Try.prog Try.f10 false true false false W args v W' := by
  have hW' := hW
  obtain ⟨p, q, hA0, hV, rfl, hfz, hnd⟩ := hW
  have hA : DataW.TrodAll enc Try.prog W 0 (fun _ => true) true Try.f10.params.toList args.toList ds p := hA0
  rw [Try.params10] at hA hval
  have hAll := hA
  obtain ⟨v0, vs0, d0, ds0, p0, q0, hargs, rfl, rfl, h0, r0⟩ := trodAll_cons hA
  obtain ⟨v1, vs1, d1, ds1, p1, q1, rfl, rfl, rfl, h1, r1⟩ := trodAll_cons r0
  obtain ⟨rfl, rfl, rfl⟩ := trodAll_nil r1
  obtain rfl : args = #[v0, v1] := by cases args; simp_all
  obtain ⟨rfl, rfl⟩ := trodVars_none hV
  obtain ⟨vaa, a, vca, rfl, hva, hLa, hMa⟩ := open_row encZ_i64_ok Try.underlying64 (by kernel_rfl) (fun n cs y h hl => (by obtain ⟨x, hx, _, _⟩ := DataW.trod_int Try.underlying3 h; exact ⟨x, by unfold encZ_i64; simpa using hx⟩)) (hval 0 64 v0 rfl rfl) h0
  obtain ⟨vaq, q, vcq, rfl, hvq, hLq, hMq⟩ := open_row encZ_i64_ok Try.underlying64 (by kernel_rfl) (fun n cs y h hl => (by obtain ⟨x, hx, _, _⟩ := DataW.trod_int Try.underlying3 h; exact ⟨x, by unfold encZ_i64; simpa using hx⟩)) (hval 1 64 v1 rfl rfl) h1
  clear hA0
  have H0 := (show plunderlaw8_FramesSync (a.length + q.length + 2000001) a q = some true from fsync_true a q hMa (by omega))
  have hCq := cap_of Try.underlying64 h1
  refine (plunderlaw8_FramesSync_ok (va0 := vaa) (vc0 := vca) (hv0 := hva) (va1 := vaq) (vc1 := vcq) (hv1 := hvq) (hc1 := hCq) (H := H0) (h := Fit.begin W)).mono fun e W' ⟨he, hF⟩ => ?_
  subst he
  have bel := hF.below
  exact ⟨_, rfl, _, _, _, [], _, [], hW', trodAll_mk1 (shut_bool Try.underlying4 _), trodAll_below (by kernel_rfl) bel (by kernel_rfl) hAll, rfl, bel.frame _, fun h => by cases h⟩
set_option maxRecDepth 100000 in
theorem lifted (os : Os) (started : os.Started) (H : Type) (enc : TypeId × Value → H) :
    ReturnsInHanded {} Try.checked os 10 .any (Rows.framesSyncSpec.pre6 enc Try.prog Try.f10 Rows.framesSyncRow.domain false) (Rows.framesSyncSpec.post enc Try.prog Try.f10 false true false false) := by
  refine returnsInHanded_of_change_sized (C := Try.checked) own started (by kernel_rfl) Try.func10
    (ChangeSpec.witness6 (enc := enc) (C := Try.checked) false ⟨#[], #[.slice none 0 0, .slice none 0 0], []⟩ 8 (by kernel_rfl) (by kernel_rfl) (by kernel_rfl) (by kernel_rfl)) ?_
  intro W base args ds gs before hval0 hW hcnd hsz0 _
  exact contract H enc W base args ds gs before hval0 hW
theorem proved : Rows.FramesSyncSaid :=
  OpenClaim.holds_of_wide 10 Try.f10 rfl rfl rfl rfl rfl rfl rfl ⟨rfl, rfl, rfl, rfl, rfl⟩ rfl rfl rfl rfl rfl (by kernel_rfl) Try.func10 (by kernel_rfl)
    (of_decide_eq_true (by kernel_rfl)) (by unfold Func.isWrapper; first | (rw [if_pos (by decide +kernel)]; kernel_rfl) | (rw [if_neg (by decide +kernel)]; exact ⟨rfl, rfl⟩))
    (fun os started H enc _ => lifted os started H enc)
#print axioms proved
end Go.Proofs.Ytnghahgfcaolbaa.framesSyncRow
namespace Go.Proofs.Ytnghahgfcaolbaa
/-- The row, under a short name, for the claim. -/
theorem framesSync_holds : Rows.FramesSyncSaid := framesSyncRow.proved
end Go.Proofs.Ytnghahgfcaolbaa
