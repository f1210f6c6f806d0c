/- plunderlaw2.CellsMemory answers true for every input and leaves its input alone. Conditions: none. -/
import Derived.Test.YtacgigkonoegiaaRows
import Derived.Test.YtacgigkonoegiaaRK3
import Derived.Test.YtacgigkonoegiaaMemPure
import Derived.Test.YtacgigkonoegiaaMp3
import Derived.WalkKit
import Derived.ProofKit
import Derived.OpenShut
import Derived.ChangeOld
import Derived.Below
import Derived.SizedLaws
namespace Go.Proofs.Ytacgigkonoegiaa.cellsMemoryRow
open Go.ChangeShapes Go.WideShapes Go.ChangeAt Go.RowKit
open Go.Proofs.Ytacgigkonoegiaa.SL Go.Proofs.Ytacgigkonoegiaa.GX Go.Proofs.Ytacgigkonoegiaa.RK Go.Proofs.Ytacgigkonoegiaa.Mo
set_option linter.unusedVariables false
theorem own : ownKnob Try.prog.godebug = none := by kernel_rfl
set_option maxRecDepth 100000 in
theorem contract (H : Type) (enc : TypeId × Value → H) (W : World) (base : Nat) (args : Array Value) (ds gs : List (DataW H)) (before : List MemPlace)
    (hval : ∀ (j : Nat) t v, Try.f12.params[j]? = some t → args[j]? = some v → Value.okWide Try.prog W .any base t v)
    (hW : DataW.Whole enc Try.prog Try.f12.params.toList Rows.cellsMemorySpec.vars false W args.toList ds gs before) :
    Calls Try.prog 12 args W fun e W' => ∃ v, e = .returned v ∧ Rows.cellsMemorySpec.post enc Try.prog Try.f12 false true false false W args v W' := by
  have hW' := hW
  obtain ⟨p, q, hA0, hV, rfl, hfz, hnd⟩ := hW
  have hA : DataW.TrodAll enc Try.prog W 0 (fun _ => true) true Try.f12.params.toList args.toList ds p := hA0
  rw [Try.params12] at hA hval
  have hAll := hA
  obtain ⟨v0, vs0, d0, ds0, p0, q0, hargs, rfl, rfl, h0, r0⟩ := trodAll_cons hA
  obtain ⟨v1, vs1, d1, ds1, p1, q1, rfl, rfl, rfl, h1, r1⟩ := trodAll_cons r0
  obtain ⟨rfl, rfl, rfl⟩ := trodAll_nil r1
  obtain rfl : args = #[v0, v1] := by cases args; simp_all
  obtain ⟨rfl, rfl⟩ := trodVars_none hV
  obtain ⟨n, rfl, rfl, rfl, wn0⟩ := open_int Try.underlying3 (hval 0 3 v0 rfl rfl) h0
  have wn := wf_i64 wn0
  obtain ⟨vams, ms, vcms, rfl, hvms, hQms, hLms, hMms⟩ := open_rowQ (Q := fun x : Mo.T_api_Act => In64 x.Who ∧ In64 x.Kind ∧ In64 x.Addr ∧ In64 x.A ∧ In64 x.B) enc_T_api_Act_ok Try.underlying67 (by kernel_rfl) (fun n cs y h hl => (by
    obtain ⟨xs, hx, rfl, hq⟩ := dec_intsQ Try.underlying57 (by kernel_rfl) (by kernel_rfl) (by kernel_rfl) h hl
    match xs, hx, hq with
    | [y0, y1, y2, y3, y4], _, hq => exact ⟨⟨y0, y1, y2, y3, y4⟩, rfl, hq y0 (by simp), hq y1 (by simp), hq y2 (by simp), hq y3 (by simp), hq y4 (by simp)⟩)) (hval 1 67 v1 rfl rfl) h1
  clear hA0
  have H0 := (show plunderlaw2_CellsMemory 5000000 n ms = some true from memory_true (by decide) n (fun x hx => (hQms x hx).2.2.2.1))
  refine (plunderlaw2_CellsMemory_ok (va1 := vams) (vc1 := vcms) (hv1 := hvms) (H := H0) (h := Fit.begin W)).mono fun e W' ⟨he, hF⟩ => ?_
  subst he
  have bel := hF.below
  exact ⟨_, rfl, _, _, _, [], _, [], hW', trodAll_mk1 (shut_bool Try.underlying4 _), trodAll_below (by kernel_rfl) bel (by kernel_rfl) hAll, rfl, bel.frame _, fun h => by cases h⟩
set_option maxRecDepth 100000 in
theorem lifted (os : Os) (started : os.Started) (H : Type) (enc : TypeId × Value → H) :
    ReturnsInHanded {} Try.checked os 12 .any (Rows.cellsMemorySpec.pre6 enc Try.prog Try.f12 Rows.cellsMemoryRow.domain false) (Rows.cellsMemorySpec.post enc Try.prog Try.f12 false true false false) := by
  refine returnsInHanded_of_change_sized (C := Try.checked) own started (by kernel_rfl) Try.func12
    (ChangeSpec.witness6 (enc := enc) (C := Try.checked) false ⟨#[], #[.int .i64 0, .slice none 0 0], []⟩ 8 (by kernel_rfl) (by kernel_rfl) (by kernel_rfl) (by kernel_rfl)) ?_
  intro W base args ds gs before hval0 hW hcnd hsz0 _
  exact contract H enc W base args ds gs before hval0 hW
theorem proved : Rows.CellsMemorySaid :=
  OpenClaim.holds_of_wide 12 Try.f12 rfl rfl rfl rfl rfl rfl rfl ⟨rfl, rfl, rfl, rfl, rfl⟩ rfl rfl rfl rfl rfl (by kernel_rfl) Try.func12 (by kernel_rfl)
    (of_decide_eq_true (by kernel_rfl)) (by unfold Func.isWrapper; first | (rw [if_pos (by decide +kernel)]; kernel_rfl) | (rw [if_neg (by decide +kernel)]; exact ⟨rfl, rfl⟩))
    (fun os started H enc _ => lifted os started H enc)
#print axioms proved
end Go.Proofs.Ytacgigkonoegiaa.cellsMemoryRow
namespace Go.Proofs.Ytacgigkonoegiaa
/-- The row, under a short name, for the claim. -/
theorem cellsMemory_holds : Rows.CellsMemorySaid := cellsMemoryRow.proved
end Go.Proofs.Ytacgigkonoegiaa
