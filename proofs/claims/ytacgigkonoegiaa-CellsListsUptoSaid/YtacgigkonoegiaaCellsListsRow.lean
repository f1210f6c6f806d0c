/- plunderlaw2.CellsLists answers true for every input of the bulk that the statement names and leaves its input alone. Conditions: none. -/
import Derived.Test.YtacgigkonoegiaaRows
import Derived.Test.YtacgigkonoegiaaRK2
import Derived.Test.YtacgigkonoegiaaLiPure
import Derived.Test.YtacgigkonoegiaaCl4
import Derived.WalkKit
import Derived.ProofKit
import Derived.OpenShut
import Derived.ChangeOld
import Derived.Below
import Derived.SizedLaws
import Derived.JoinedCond
namespace Go.Proofs.Ytacgigkonoegiaa.cellsListsUptoRow
open Go.ChangeShapes Go.WideShapes Go.ChangeAt Go.RowKit
open Go.Proofs.Ytacgigkonoegiaa.SL Go.Proofs.Ytacgigkonoegiaa.GX Go.Proofs.Ytacgigkonoegiaa.RK Go.Proofs.Ytacgigkonoegiaa.Mo
set_option linter.unusedVariables false
theorem own : ownKnob Try.prog.godebug = none := by kernel_rfl
set_option maxRecDepth 100000 in
theorem contract (H : Type) (enc : TypeId × Value → H) (W : World) (base : Nat) (args : Array Value) (ds gs : List (DataW H)) (before : List MemPlace)
    (hval : ∀ (j : Nat) t v, Try.f8.params[j]? = some t → args[j]? = some v → Value.okWide Try.prog W .any base t v)
    (hW : DataW.Whole enc Try.prog Try.f8.params.toList Rows.cellsListsSpec.vars false W args.toList ds gs before) (hk : Rows.uptoSmall H (ds ++ gs) = true) :
    Calls Try.prog 8 args W fun e W' => ∃ v, e = .returned v ∧ Rows.cellsListsSpec.post enc Try.prog Try.f8 false true false false W args v W' := by
  have hW' := hW
  obtain ⟨p, q, hA0, hV, rfl, hfz, hnd⟩ := hW
  have hA : DataW.TrodAll enc Try.prog W 0 (fun _ => true) true Try.f8.params.toList args.toList ds p := hA0
  rw [Try.params8] at hA hval
  have hAll := hA
  obtain ⟨v0, vs0, d0, ds0, p0, q0, hargs, rfl, rfl, h0, r0⟩ := trodAll_cons hA
  obtain ⟨v1, vs1, d1, ds1, p1, q1, rfl, rfl, rfl, h1, r1⟩ := trodAll_cons r0
  obtain ⟨v2, vs2, d2, ds2, p2, q2, rfl, rfl, rfl, h2, r2⟩ := trodAll_cons r1
  obtain ⟨rfl, rfl, rfl⟩ := trodAll_nil r2
  obtain rfl : args = #[v0, v1, v2] := by cases args; simp_all
  obtain ⟨rfl, rfl⟩ := trodVars_none hV
  obtain ⟨a, rfl, rfl, rfl, wa0⟩ := open_int Try.underlying3 (hval 0 3 v0 rfl rfl) h0
  have wa := wf_i64 wa0
  obtain ⟨b, rfl, rfl, rfl, wb0⟩ := open_int Try.underlying3 (hval 1 3 v1 rfl rfl) h1
  have wb := wf_i64 wb0
  obtain ⟨vaq, q, vcq, rfl, hvq, hLq, hMq⟩ := open_row enc_T_plunderlaw2_Move_ok Try.underlying44 (by kernel_rfl) (fun n cs y h hl => (by
    obtain ⟨xs, hx, rfl⟩ := dec_ints Try.underlying30 (by kernel_rfl) (by kernel_rfl) (by kernel_rfl) h hl
    match xs, hx with
    | [y0, y1, y2, y3, y4], _ => exact ⟨⟨y0, y1, y2, y3, y4⟩, rfl⟩)) (hval 2 44 v2 rfl rfl) h2
  clear hA0
  have hbulk : Rows.uptoBulkAll _ ≤ 1048576 := of_decide_eq_true hk
  have hBq := Nat.le_trans (bulk_part (d := d2) (by simp)) hbulk
  have H0 := (show plunderlaw2_CellsLists 5000000 a b q = some true from lists_true (by decide) (by omega) a b)
  refine (plunderlaw2_CellsLists_ok (va2 := vaq) (vc2 := vcq) (hv2 := hvq) (H := H0) (h := Fit.begin W)).mono fun e W' ⟨he, hF⟩ => ?_
  subst he
  have bel := hF.below
  exact ⟨_, rfl, _, _, _, [], _, [], hW', trodAll_mk1 (shut_bool Try.underlying4 _), trodAll_below (by kernel_rfl) bel (by kernel_rfl) hAll, rfl, bel.frame _, fun h => by cases h⟩
set_option maxRecDepth 100000 in
theorem lifted (os : Os) (started : os.Started) (H : Type) (enc : TypeId × Value → H) (F : Stop.Interp) :
    ReturnsInHanded {} Try.checked os 8 .any ((Rows.OpenSpec.upto Rows.cellsListsSpec).pre6 enc Try.prog Try.f8 Rows.cellsListsUptoRow.domain false) (((Rows.OpenSpec.upto Rows.cellsListsSpec).at F).post enc Try.prog Try.f8 false true false false) := by
  refine returnsInHanded_of_cond (C := Try.checked) (s := Rows.OpenSpec.upto Rows.cellsListsSpec) (k := Rows.uptoSmall) rfl own started (by kernel_rfl) Try.func8
    (OpenSpec.witness (enc := enc) (C := Try.checked) (s := Rows.OpenSpec.upto Rows.cellsListsSpec) (k := Rows.uptoSmall) rfl false ⟨#[], #[.int .i64 0, .int .i64 0, .slice none 0 0], []⟩ 8 (by kernel_rfl) (by kernel_rfl) (by kernel_rfl)
      (x := ([.lit (.int .i64 0), .lit (.int .i64 0), .nil], [], [])) (by kernel_rfl) rfl (by kernel_rfl)) ?_
  intro W base args ds gs before hval hW _ hk _
  exact contract H enc W base args ds gs before hval hW hk
theorem proved : Rows.CellsListsUptoSaid :=
  OpenClaim.holds_of_cond 8 Try.f8 rfl rfl rfl rfl rfl rfl rfl ⟨rfl, rfl, rfl, rfl, rfl⟩ rfl rfl rfl rfl rfl (by kernel_rfl) Try.func8 (by kernel_rfl)
    (of_decide_eq_true (by kernel_rfl)) (by unfold Func.isWrapper; first | (rw [if_pos (by decide +kernel)]; kernel_rfl) | (rw [if_neg (by decide +kernel)]; exact ⟨rfl, rfl⟩))
    (fun os started H enc _ F => lifted os started H enc F)
#print axioms proved
end Go.Proofs.Ytacgigkonoegiaa.cellsListsUptoRow
namespace Go.Proofs.Ytacgigkonoegiaa
/-- The row, under a short name, for the claim. -/
theorem cellsListsUpto_holds : Rows.CellsListsUptoSaid := cellsListsUptoRow.proved
end Go.Proofs.Ytacgigkonoegiaa
