/- plunderlaw8.FramesSteps answers true for every input of the bulk that the statement names and leaves its input alone. Conditions: none. -/
import Derived.Test.YtnghahgfcaolbaaRows
import Derived.Test.YtnghahgfcaolbaaRK3
import Derived.Test.YtnghahgfcaolbaaFStPure
import Derived.Test.YtnghahgfcaolbaaFs6
import Derived.WalkKit
import Derived.ProofKit
import Derived.OpenShut
import Derived.ChangeOld
import Derived.Below
import Derived.SizedLaws
import Derived.JoinedCond
namespace Go.Proofs.Ytnghahgfcaolbaa.framesStepsUptoRow
open Go.ChangeShapes Go.WideShapes Go.ChangeAt Go.RowKit
open Go.Proofs.Ytnghahgfcaolbaa.SL Go.Proofs.Ytnghahgfcaolbaa.GX Go.Proofs.Ytnghahgfcaolbaa.RK Go.Proofs.Ytnghahgfcaolbaa.Mo
set_option linter.unusedVariables false
theorem own : ownKnob Try.prog.godebug = none := by kernel_rfl
set_option maxRecDepth 100000 in
theorem contract (H : Type) (enc : TypeId × Value → H) (W : World) (base : Nat) (args : Array Value) (ds gs : List (DataW H)) (before : List MemPlace)
    (hval : ∀ (j : Nat) t v, Try.f7.params[j]? = some t → args[j]? = some v → Value.okWide Try.prog W .any base t v)
    (hW : DataW.Whole enc Try.prog Try.f7.params.toList Rows.framesStepsSpec.vars false W args.toList ds gs before) (hk : Rows.uptoSmall H (ds ++ gs) = true) :
    Calls Try.prog 7 args W fun e W' => ∃ v, e = .returned v ∧ Rows.framesStepsSpec.post enc Try.prog Try.f7 false true false false W args v W' := by
  have hW' := hW
  obtain ⟨p, q, hA0, hV, rfl, hfz, hnd⟩ := hW
  have hA : DataW.TrodAll enc Try.prog W 0 (fun _ => true) true Try.f7.params.toList args.toList ds p := hA0
  rw [Try.params7] at hA hval
  have hAll := hA
  obtain ⟨v0, vs0, d0, ds0, p0, q0, hargs, rfl, rfl, h0, r0⟩ := trodAll_cons hA
  obtain ⟨v1, vs1, d1, ds1, p1, q1, rfl, rfl, rfl, h1, r1⟩ := trodAll_cons r0
  obtain ⟨v2, vs2, d2, ds2, p2, q2, rfl, rfl, rfl, h2, r2⟩ := trodAll_cons r1
  obtain ⟨v3, vs3, d3, ds3, p3, q3, rfl, rfl, rfl, h3, r3⟩ := trodAll_cons r2
  obtain ⟨rfl, rfl, rfl⟩ := trodAll_nil r3
  obtain rfl : args = #[v0, v1, v2, v3] := by cases args; simp_all
  obtain ⟨rfl, rfl⟩ := trodVars_none hV
  obtain ⟨a, rfl, rfl, rfl, wa0⟩ := open_int Try.underlying3 (hval 0 3 v0 rfl rfl) h0
  have wa := wf_i64 wa0
  obtain ⟨b, rfl, rfl, rfl, wb0⟩ := open_int Try.underlying3 (hval 1 3 v1 rfl rfl) h1
  have wb := wf_i64 wb0
  obtain ⟨vaq, q, vcq, rfl, hvq, hLq, hMq⟩ := open_row enc_T_plunderlaw8_Ask_ok Try.underlying63 (by kernel_rfl) (fun n cs y h hl => (by
    match cs, hl with
    | [c0, c1, c2, c3, c4, c5, c6], hl =>
      obtain ⟨m0, z0, t0⟩ := dec_field Try.underlying76 (by kernel_rfl) h hl 0 rfl rfl
      obtain ⟨y0, e0, _, _⟩ := DataW.trod_int Try.underlying3 t0
      obtain ⟨m1, z1, t1⟩ := dec_field Try.underlying76 (by kernel_rfl) h hl 1 rfl rfl
      obtain ⟨y1, e1, _, _⟩ := DataW.trod_int Try.underlying3 t1
      obtain ⟨m2, z2, t2⟩ := dec_field Try.underlying76 (by kernel_rfl) h hl 2 rfl rfl
      obtain ⟨y2, e2, _, _⟩ := DataW.trod_int Try.underlying3 t2
      obtain ⟨m3, z3, t3⟩ := dec_field Try.underlying76 (by kernel_rfl) h hl 3 rfl rfl
      obtain ⟨y3, e3, _, _⟩ := DataW.trod_int Try.underlying2 t3
      obtain ⟨m4, z4, t4⟩ := dec_field Try.underlying76 (by kernel_rfl) h hl 4 rfl rfl
      obtain ⟨y4, e4, _⟩ := DataW.trod_bool Try.underlying4 t4
      obtain ⟨m5, z5, t5⟩ := dec_field Try.underlying76 (by kernel_rfl) h hl 5 rfl rfl
      obtain ⟨y5, e5, _, _⟩ := DataW.trod_int Try.underlying3 t5
      obtain ⟨m6, z6, t6⟩ := dec_field Try.underlying76 (by kernel_rfl) h hl 6 rfl rfl
      obtain ⟨y6, e6, _, _⟩ := DataW.trod_int Try.underlying3 t6
      simp only [List.cons.injEq, and_true] at e0 e1 e2 e3 e4 e5 e6
      subst e0 e1 e2 e3 e4 e5 e6
      exact ⟨⟨y0, y1, y2, y3, y4, y5, y6⟩, rfl⟩)) (hval 2 63 v2 rfl rfl) h2
  obtain ⟨vap, p, vcp, rfl, hvp, hLp, hMp⟩ := open_row encZ_i64_ok Try.underlying64 (by kernel_rfl) (fun n cs y h hl => (by obtain ⟨x, hx, _, _⟩ := DataW.trod_int Try.underlying3 h; exact ⟨x, by unfold encZ_i64; simpa using hx⟩)) (hval 3 64 v3 rfl rfl) h3
  clear hA0
  have hbulk : Rows.uptoBulkAll _ ≤ 1048576 := of_decide_eq_true hk
  have hBq := Nat.le_trans (bulk_part (d := d2) (by simp)) hbulk
  have hBp := Nat.le_trans (bulk_part (d := d3) (by simp)) hbulk
  have H0 := (show plunderlaw8_FramesSteps 5000000 a b q p = some true from fsteps_true (by decide) a b (by omega) (by omega))
  refine (plunderlaw8_FramesSteps_ok (va2 := vaq) (vc2 := vcq) (hv2 := hvq) (va3 := vap) (vc3 := vcp) (hv3 := hvp) (H := H0) (h := Fit.begin W)).mono fun e W' ⟨he, hF⟩ => ?_
  subst he
  have bel := hF.below
  exact ⟨_, rfl, _, _, _, [], _, [], hW', trodAll_mk1 (shut_bool Try.underlying4 _), trodAll_below (by kernel_rfl) bel (by kernel_rfl) hAll, rfl, bel.frame _, fun h => by cases h⟩
set_option maxRecDepth 100000 in
theorem lifted (os : Os) (started : os.Started) (H : Type) (enc : TypeId × Value → H) (F : Stop.Interp) :
    ReturnsInHanded {} Try.checked os 7 .any ((Rows.OpenSpec.upto Rows.framesStepsSpec).pre6 enc Try.prog Try.f7 Rows.framesStepsUptoRow.domain false) (((Rows.OpenSpec.upto Rows.framesStepsSpec).at F).post enc Try.prog Try.f7 false true false false) := by
  refine returnsInHanded_of_cond (C := Try.checked) (s := Rows.OpenSpec.upto Rows.framesStepsSpec) (k := Rows.uptoSmall) rfl own started (by kernel_rfl) Try.func7
    (OpenSpec.witness (enc := enc) (C := Try.checked) (s := Rows.OpenSpec.upto Rows.framesStepsSpec) (k := Rows.uptoSmall) rfl false ⟨#[], #[.int .i64 0, .int .i64 0, .slice none 0 0, .slice none 0 0], []⟩ 8 (by kernel_rfl) (by kernel_rfl) (by kernel_rfl)
      (x := ([.lit (.int .i64 0), .lit (.int .i64 0), .nil, .nil], [], [])) (by kernel_rfl) rfl (by kernel_rfl)) ?_
  intro W base args ds gs before hval hW _ hk _
  exact contract H enc W base args ds gs before hval hW hk
theorem proved : Rows.FramesStepsUptoSaid :=
  OpenClaim.holds_of_cond 7 Try.f7 rfl rfl rfl rfl rfl rfl rfl ⟨rfl, rfl, rfl, rfl, rfl⟩ rfl rfl rfl rfl rfl (by kernel_rfl) Try.func7 (by kernel_rfl)
    (of_decide_eq_true (by kernel_rfl)) (by unfold Func.isWrapper; first | (rw [if_pos (by decide +kernel)]; kernel_rfl) | (rw [if_neg (by decide +kernel)]; exact ⟨rfl, rfl⟩))
    (fun os started H enc _ F => lifted os started H enc F)
#print axioms proved
end Go.Proofs.Ytnghahgfcaolbaa.framesStepsUptoRow
namespace Go.Proofs.Ytnghahgfcaolbaa
/-- The row, under a short name, for the claim. -/
theorem framesStepsUpto_holds : Rows.FramesStepsUptoSaid := framesStepsUptoRow.proved
end Go.Proofs.Ytnghahgfcaolbaa
