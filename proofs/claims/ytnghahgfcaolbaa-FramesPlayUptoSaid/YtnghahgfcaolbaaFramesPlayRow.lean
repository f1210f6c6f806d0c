/- plunderlaw8.FramesPlay answers true for every input of the bulk that the statement names and leaves its input alone. Conditions: none. -/
import Derived.Test.YtnghahgfcaolbaaRows
import Derived.Test.YtnghahgfcaolbaaRK2
import Derived.Test.YtnghahgfcaolbaaFplPure
import Derived.Test.YtnghahgfcaolbaaFp3
import Derived.WalkKit
import Derived.ProofKit
import Derived.OpenShut
import Derived.ChangeOld
import Derived.Below
import Derived.SizedLaws
import Derived.JoinedCond
namespace Go.Proofs.Ytnghahgfcaolbaa.framesPlayUptoRow
open Go.ChangeShapes Go.WideShapes Go.ChangeAt Go.RowKit
open Go.Proofs.Ytnghahgfcaolbaa.SL Go.Proofs.Ytnghahgfcaolbaa.GX Go.Proofs.Ytnghahgfcaolbaa.RK Go.Proofs.Ytnghahgfcaolbaa.Mo
set_option linter.unusedVariables false
theorem own : ownKnob Try.prog.godebug = none := by kernel_rfl
set_option maxRecDepth 100000 in
theorem contract (H : Type) (enc : TypeId × Value → H) (W : World) (base : Nat) (args : Array Value) (ds gs : List (DataW H)) (before : List MemPlace)
    (hval : ∀ (j : Nat) t v, Try.f8.params[j]? = some t → args[j]? = some v → Value.okWide Try.prog W .any base t v)
    (hW : DataW.Whole enc Try.prog Try.f8.params.toList Rows.framesPlaySpec.vars false W args.toList ds gs before) (hk : Rows.uptoSmall H (ds ++ gs) = true) :
    Calls Try.prog 8 args W fun e W' => ∃ v, e = .returned v ∧ Rows.framesPlaySpec.post enc Try.prog Try.f8 false true false false W args v W' := by
  have hW' := hW
  obtain ⟨p, q, hA0, hV, rfl, hfz, hnd⟩ := hW
  have hA : DataW.TrodAll enc Try.prog W 0 (fun _ => true) true Try.f8.params.toList args.toList ds p := hA0
  rw [Try.params8] at hA hval
  have hAll := hA
  obtain ⟨v0, vs0, d0, ds0, p0, q0, hargs, rfl, rfl, h0, r0⟩ := trodAll_cons hA
  obtain ⟨v1, vs1, d1, ds1, p1, q1, rfl, rfl, rfl, h1, r1⟩ := trodAll_cons r0
  obtain ⟨rfl, rfl, rfl⟩ := trodAll_nil r1
  obtain rfl : args = #[v0, v1] := by cases args; simp_all
  obtain ⟨rfl, rfl⟩ := trodVars_none hV
  obtain ⟨vaa, a, vca, rfl, hva, hLa, hMa⟩ := open_row encZ_i64_ok Try.underlying64 (by kernel_rfl) (fun n cs y h hl => (by obtain ⟨x, hx, _, _⟩ := DataW.trod_int Try.underlying3 h; exact ⟨x, by unfold encZ_i64; simpa using hx⟩)) (hval 0 64 v0 rfl rfl) h0
  obtain ⟨vaq, q, vcq, rfl, hvq, hLq, hMq⟩ := open_row encZ_i64_ok Try.underlying64 (by kernel_rfl) (fun n cs y h hl => (by obtain ⟨x, hx, _, _⟩ := DataW.trod_int Try.underlying3 h; exact ⟨x, by unfold encZ_i64; simpa using hx⟩)) (hval 1 64 v1 rfl rfl) h1
  clear hA0
  have hbulk : Rows.uptoBulkAll _ ≤ 1048576 := of_decide_eq_true hk
  have hBa := Nat.le_trans (bulk_part (d := d0) (by simp)) hbulk
  have hBq := Nat.le_trans (bulk_part (d := d1) (by simp)) hbulk
  have H0 := (show plunderlaw8_FramesPlay 7000000 a q = some true from fplay_true a q (by omega) (by omega) (by decide))
  refine (plunderlaw8_FramesPlay_ok (va0 := vaa) (vc0 := vca) (hv0 := hva) (va1 := vaq) (vc1 := vcq) (hv1 := hvq) (H := H0) (h := Fit.begin W)).mono fun e W' ⟨he, hF⟩ => ?_
  subst he
  have bel := hF.below
  exact ⟨_, rfl, _, _, _, [], _, [], hW', trodAll_mk1 (shut_bool Try.underlying4 _), trodAll_below (by kernel_rfl) bel (by kernel_rfl) hAll, rfl, bel.frame _, fun h => by cases h⟩
set_option maxRecDepth 100000 in
theorem lifted (os : Os) (started : os.Started) (H : Type) (enc : TypeId × Value → H) (F : Stop.Interp) :
    ReturnsInHanded {} Try.checked os 8 .any ((Rows.OpenSpec.upto Rows.framesPlaySpec).pre6 enc Try.prog Try.f8 Rows.framesPlayUptoRow.domain false) (((Rows.OpenSpec.upto Rows.framesPlaySpec).at F).post enc Try.prog Try.f8 false true false false) := by
  refine returnsInHanded_of_cond (C := Try.checked) (s := Rows.OpenSpec.upto Rows.framesPlaySpec) (k := Rows.uptoSmall) rfl own started (by kernel_rfl) Try.func8
    (OpenSpec.witness (enc := enc) (C := Try.checked) (s := Rows.OpenSpec.upto Rows.framesPlaySpec) (k := Rows.uptoSmall) rfl false ⟨#[], #[.slice none 0 0, .slice none 0 0], []⟩ 8 (by kernel_rfl) (by kernel_rfl) (by kernel_rfl)
      (x := ([.nil, .nil], [], [])) (by kernel_rfl) rfl (by kernel_rfl)) ?_
  intro W base args ds gs before hval hW _ hk _
  exact contract H enc W base args ds gs before hval hW hk
theorem proved : Rows.FramesPlayUptoSaid :=
  OpenClaim.holds_of_cond 8 Try.f8 rfl rfl rfl rfl rfl rfl rfl ⟨rfl, rfl, rfl, rfl, rfl⟩ rfl rfl rfl rfl rfl (by kernel_rfl) Try.func8 (by kernel_rfl)
    (of_decide_eq_true (by kernel_rfl)) (by unfold Func.isWrapper; first | (rw [if_pos (by decide +kernel)]; kernel_rfl) | (rw [if_neg (by decide +kernel)]; exact ⟨rfl, rfl⟩))
    (fun os started H enc _ F => lifted os started H enc F)
#print axioms proved
end Go.Proofs.Ytnghahgfcaolbaa.framesPlayUptoRow
namespace Go.Proofs.Ytnghahgfcaolbaa
/-- The row, under a short name, for the claim. -/
theorem framesPlayUpto_holds : Rows.FramesPlayUptoSaid := framesPlayUptoRow.proved
end Go.Proofs.Ytnghahgfcaolbaa
