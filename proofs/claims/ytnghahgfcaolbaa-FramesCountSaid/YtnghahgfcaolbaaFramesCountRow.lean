/- plunderlaw8.FramesCount answers true for every input and leaves its input alone. Conditions: none. -/
import Derived.Test.YtnghahgfcaolbaaRows
import Derived.Test.YtnghahgfcaolbaaRK3
import Derived.Test.YtnghahgfcaolbaaFCntPure
import Derived.Test.YtnghahgfcaolbaaFc3
import Derived.WalkKit
import Derived.ProofKit
import Derived.OpenShut
import Derived.ChangeOld
import Derived.Below
import Derived.SizedLaws
namespace Go.Proofs.Ytnghahgfcaolbaa.framesCountRow
open Go.ChangeShapes Go.WideShapes Go.ChangeAt Go.RowKit
open Go.Proofs.Ytnghahgfcaolbaa.SL Go.Proofs.Ytnghahgfcaolbaa.GX Go.Proofs.Ytnghahgfcaolbaa.RK Go.Proofs.Ytnghahgfcaolbaa.Mo
set_option linter.unusedVariables false
theorem own : ownKnob Try.prog.godebug = none := by kernel_rfl
set_option maxRecDepth 100000 in
theorem contract (H : Type) (enc : TypeId × Value → H) (W : World) (base : Nat) (args : Array Value) (ds gs : List (DataW H)) (before : List MemPlace)
    (hval : ∀ (j : Nat) t v, Try.f6.params[j]? = some t → args[j]? = some v → Value.okWide Try.prog W .any base t v)
    (hW : DataW.Whole enc Try.prog Try.f6.params.toList Rows.framesCountSpec.vars false W args.toList ds gs before) :
    Calls Try.prog 6 args W fun e W' => ∃ v, e = .returned v ∧ Rows.framesCountSpec.post enc Try.prog Try.f6 false true false false W args v W' := by
  have hW' := hW
  obtain ⟨p, q, hA0, hV, rfl, hfz, hnd⟩ := hW
  have hA : DataW.TrodAll enc Try.prog W 0 (fun _ => true) true Try.f6.params.toList args.toList ds p := hA0
  rw [Try.params6] at hA hval
  have hAll := hA
  obtain ⟨v0, vs0, d0, ds0, p0, q0, hargs, rfl, rfl, h0, r0⟩ := trodAll_cons hA
  obtain ⟨v1, vs1, d1, ds1, p1, q1, rfl, rfl, rfl, h1, r1⟩ := trodAll_cons r0
  obtain ⟨v2, vs2, d2, ds2, p2, q2, rfl, rfl, rfl, h2, r2⟩ := trodAll_cons r1
  obtain ⟨rfl, rfl, rfl⟩ := trodAll_nil r2
  obtain rfl : args = #[v0, v1, v2] := by cases args; simp_all
  obtain ⟨rfl, rfl⟩ := trodVars_none hV
  obtain ⟨n, rfl, rfl, rfl, wn0⟩ := open_int Try.underlying3 (hval 0 3 v0 rfl rfl) h0
  have wn := wf_i64 wn0
  obtain ⟨q, rfl, rfl, rfl, wq0⟩ := open_int Try.underlying3 (hval 1 3 v1 rfl rfl) h1
  have wq := wf_i64 wq0
  obtain ⟨xs2, hxl2, rfl⟩ := open_i64_arr Try.underlying58 Try.underlying2 (by kernel_rfl) (by kernel_rfl) (hval 2 58 v2 rfl rfl) h2
  obtain ⟨v_0, v_1, v_2, v_3, v_4, v_5, v_6, v_7, rfl⟩ : ∃ v_0 v_1 v_2 v_3 v_4 v_5 v_6 v_7, xs2 = [v_0, v_1, v_2, v_3, v_4, v_5, v_6, v_7] := by match xs2, hxl2 with | [v_0, v_1, v_2, v_3, v_4, v_5, v_6, v_7], _ => exact ⟨v_0, v_1, v_2, v_3, v_4, v_5, v_6, v_7, rfl⟩
  clear hA0
  have H0 := (show plunderlaw8_FramesCount 5000000 n q [v_0, v_1, v_2, v_3, v_4, v_5, v_6, v_7] = some true from count_true (by decide) n q [v_0, v_1, v_2, v_3, v_4, v_5, v_6, v_7])
  refine (plunderlaw8_FramesCount_ok  (H := H0) (h := Fit.begin W)).mono fun e W' ⟨he, hF⟩ => ?_
  subst he
  have bel := hF.below
  exact ⟨_, rfl, _, _, _, [], _, [], hW', trodAll_mk1 (shut_bool Try.underlying4 _), trodAll_below (by kernel_rfl) bel (by kernel_rfl) hAll, rfl, bel.frame _, fun h => by cases h⟩
set_option maxRecDepth 100000 in
theorem lifted (os : Os) (started : os.Started) (H : Type) (enc : TypeId × Value → H) :
    ReturnsInHanded {} Try.checked os 6 .any (Rows.framesCountSpec.pre6 enc Try.prog Try.f6 Rows.framesCountRow.domain false) (Rows.framesCountSpec.post enc Try.prog Try.f6 false true false false) := by
  refine returnsInHanded_of_change_sized (C := Try.checked) own started (by kernel_rfl) Try.func6
    (ChangeSpec.witness6 (enc := enc) (C := Try.checked) false ⟨#[], #[.int .i64 0, .int .i64 0, .agg #[.int .i64 0, .int .i64 0, .int .i64 0, .int .i64 0, .int .i64 0, .int .i64 0, .int .i64 0, .int .i64 0]], []⟩ 8 (by kernel_rfl) (by kernel_rfl) (by kernel_rfl) (by kernel_rfl)) ?_
  intro W base args ds gs before hval0 hW hcnd hsz0 _
  exact contract H enc W base args ds gs before hval0 hW
theorem proved : Rows.FramesCountSaid :=
  OpenClaim.holds_of_wide 6 Try.f6 rfl rfl rfl rfl rfl rfl rfl ⟨rfl, rfl, rfl, rfl, rfl⟩ rfl rfl rfl rfl rfl (by kernel_rfl) Try.func6 (by kernel_rfl)
    (of_decide_eq_true (by kernel_rfl)) (by unfold Func.isWrapper; first | (rw [if_pos (by decide +kernel)]; kernel_rfl) | (rw [if_neg (by decide +kernel)]; exact ⟨rfl, rfl⟩))
    (fun os started H enc _ => lifted os started H enc)
#print axioms proved
end Go.Proofs.Ytnghahgfcaolbaa.framesCountRow
namespace Go.Proofs.Ytnghahgfcaolbaa
/-- The row, under a short name, for the claim. -/
theorem framesCount_holds : Rows.FramesCountSaid := framesCountRow.proved
end Go.Proofs.Ytnghahgfcaolbaa
