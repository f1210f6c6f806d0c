/- plunderlaw11.WorkerNil answers true for every input of the bulk that the statement names and leaves its input alone: the row and its card. Conditions: none. -/
import Derived.Test.YtpikpffbcjpmcaaGreatDoorRows
import Derived.Test.YtpikpffbcjpmcaaGreatDoorCards
import Derived.Test.YtpikpffbcjpmcaaGreatDoorTie
import Derived.Test.YtpikpffbcjpmcaaGreatDoorRK4
import Derived.Test.YtpikpffbcjpmcaaGreatDoorNilPure
import Derived.Test.YtpikpffbcjpmcaaGreatDoorWo4
import Derived.WalkKit
import Derived.ProofKit
import Derived.OpenShut
import Derived.ChangeOld
import Derived.Below
import Derived.SizedLaws
import Derived.JoinedCond
import Derived.Deep.DeepHandedRow
import Derived.Lib.LaidTab
import Derived.LaidMore
import Derived.SevenTiedAt
namespace Go.Proofs.YtpikpffbcjpmcaaGreatDoor.workerNilUptoRow
open Go.ChangeShapes Go.WideShapes Go.ChangeAt Go.RowKit
open Go.Proofs.YtpikpffbcjpmcaaGreatDoor.SL Go.Proofs.YtpikpffbcjpmcaaGreatDoor.GX Go.Proofs.YtpikpffbcjpmcaaGreatDoor.RK Go.Proofs.YtpikpffbcjpmcaaGreatDoor.Mo
set_option linter.unusedVariables false
set_option linter.unusedSimpArgs false
set_option maxRecDepth 100000
theorem own : ownKnob Tryz.prog.godebug = none := by kernel_rfl
def gl0 : List Bool := [false, false, false, false, false, false, false, false, false, false, false, false, false, true, true]
theorem cl248 : Tryz.prog.cellsOf 248 = 1 := by kernel_rfl
theorem cl97 : Tryz.prog.cellsOf 97 = 1 := by kernel_rfl
theorem cl30 : Tryz.prog.cellsOf 30 = 2 := by kernel_rfl
theorem cl28 : Tryz.prog.cellsOf 28 = 1 := by kernel_rfl
theorem cl27 : Tryz.prog.cellsOf 27 = 3 := by kernel_rfl
theorem cl25 : Tryz.prog.cellsOf 25 = 1 := by kernel_rfl
theorem cl24 : Tryz.prog.cellsOf 24 = 1 := by kernel_rfl
theorem cl22 : Tryz.prog.cellsOf 22 = 1 := by kernel_rfl
theorem cl4 : Tryz.prog.cellsOf 4 = 1 := by kernel_rfl
theorem cl3 : Tryz.prog.cellsOf 3 = 1 := by kernel_rfl
theorem cl2 : Tryz.prog.cellsOf 2 = 1 := by kernel_rfl
def dE1 (x : T_anon249) : DataW Unit := .agg [.lit (.int .i64 x.a), .lit (.int .i64 x.b), .lit (.int .i64 x.c), .lit (.int .i64 x.k), .lit (.bool x.next)]
theorem dec1 {W : World} : ∀ m cs y (x : T_anon249), DataW.trod (fun _ => ()) Tryz.prog W 0 (fun _ => true) false m 249 cs = some y → cs.length = 5 → y.1 = dE1 x → cs = enc_T_anon249 x := by
  intro m cs y x h hl hd
  obtain ⟨xs, m', _, hx, _, hxl, hg⟩ := DataW.trod_struct Tryz.underlying249 h
  match cs, hl, xs, hxl with
  | [c0, c1, c2, c3, c4], _, [x0, x1, x2, x3, x4], _ =>
    have g0 := hg 0 _ rfl
    simp only [cl248, List.drop_succ_cons, List.drop_zero, List.take_succ_cons, List.take_zero, List.getElem_toArray, List.getElem_cons_zero, List.getElem_cons_succ, Array.getInternal_eq_getElem, List.getElem?_cons_succ, List.getElem?_cons_zero] at g0
    obtain ⟨y0, e0, f0, _⟩ := DataW.trod_int Tryz.underlying248 g0
    have g1 := hg 1 _ rfl
    simp only [cl248, List.drop_succ_cons, List.drop_zero, List.take_succ_cons, List.take_zero, List.getElem_toArray, List.getElem_cons_zero, List.getElem_cons_succ, Array.getInternal_eq_getElem, List.getElem?_cons_succ, List.getElem?_cons_zero] at g1
    obtain ⟨y1, e1, f1, _⟩ := DataW.trod_int Tryz.underlying248 g1
    have g2 := hg 2 _ rfl
    simp only [cl248, List.drop_succ_cons, List.drop_zero, List.take_succ_cons, List.take_zero, List.getElem_toArray, List.getElem_cons_zero, List.getElem_cons_succ, Array.getInternal_eq_getElem, List.getElem?_cons_succ, List.getElem?_cons_zero] at g2
    obtain ⟨y2, e2, f2, _⟩ := DataW.trod_int Tryz.underlying248 g2
    have g3 := hg 3 _ rfl
    simp only [cl248, List.drop_succ_cons, List.drop_zero, List.take_succ_cons, List.take_zero, List.getElem_toArray, List.getElem_cons_zero, List.getElem_cons_succ, Array.getInternal_eq_getElem, List.getElem?_cons_succ, List.getElem?_cons_zero] at g3
    obtain ⟨y3, e3, f3, _⟩ := DataW.trod_int Tryz.underlying248 g3
    have g4 := hg 4 _ rfl
    simp only [cl4, List.drop_succ_cons, List.drop_zero, List.take_succ_cons, List.take_zero, List.getElem_toArray, List.getElem_cons_zero, List.getElem_cons_succ, Array.getInternal_eq_getElem, List.getElem?_cons_succ, List.getElem?_cons_zero] at g4
    obtain ⟨y4, e4, f4⟩ := DataW.trod_bool Tryz.underlying4 g4
    rw [hx] at hd
    simp only [dE1, List.map_cons, List.map_nil, DataW.agg.injEq, List.cons.injEq, and_true, f0, f1, f2, f3, f4, DataW.lit.injEq, Lit.int.injEq, Lit.bool.injEq, true_and] at hd
    simp only [List.cons.injEq, and_true] at e0 e1 e2 e3 e4
    obtain ⟨h0, h1, h2, h3, h4⟩ := hd
    simp only [e0, e1, e2, e3, e4, h0, h1, h2, h3, h4]; rfl
def dE0 (x : Bool) : DataW Unit := .lit (.bool x)
theorem dec0 {W : World} : ∀ m cs y (x : Bool), DataW.trod (fun _ => ()) Tryz.prog W 0 (fun _ => true) false m 4 cs = some y → cs.length = 1 → y.1 = dE0 x → cs = encBo x := by
  intro m cs y x h hl hd
  obtain ⟨y0, e0, f0⟩ := DataW.trod_bool Tryz.underlying4 h
  rw [f0] at hd
  simp only [dE0, DataW.lit.injEq, Lit.bool.injEq] at hd
  rw [e0, hd]; rfl
theorem of_laid {W : World} (h : laidMetH Tryz.prog Rows.workerNilUptoRow.laid W) : RdRow [old W] 5 enc_T_anon249 (some ⟨1, 0, none⟩) gl1 ∧ RdRow [old W] 1 encBo (some ⟨0, 0, none⟩) gl0 := by
  rw [MakeChecks.laidMetH_plain _ _ _ (by kernel_rfl)] at h
  obtain ⟨ps, hV, _, _⟩ := h
  have hV0 : DataW.LaidVars Tryz.prog W [("plunder/prog.fields", .agg (gl1.map dE1)), ("plunder/worker.idle", .agg (gl0.map dE0))] ps := hV
  obtain ⟨r0, ps0, hV1⟩ := laid_row (by decide) (show Tryz.prog.globalNamed "plunder/prog.fields" = some 1 by kernel_rfl) (show (Tryz.prog.globals[1]?).map (·.type) = some 250 by kernel_rfl) Tryz.underlying250 (show Tryz.prog.cellsOf 249 = 5 by kernel_rfl) (show Tryz.prog.cellsOf 250 = 50 by kernel_rfl) rfl (fun x => rfl) dec1 hV0
  obtain ⟨r1, ps1, hV2⟩ := laid_row (by decide) (show Tryz.prog.globalNamed "plunder/worker.idle" = some 0 by kernel_rfl) (show (Tryz.prog.globals[0]?).map (·.type) = some 136 by kernel_rfl) Tryz.underlying136 (show Tryz.prog.cellsOf 4 = 1 by kernel_rfl) (show Tryz.prog.cellsOf 136 = 15 by kernel_rfl) rfl (fun x => rfl) dec0 hV1
  exact ⟨r0, r1⟩
def Q146 (x : T_api_Instr) : Prop := In64 x.Kind ∧ In64 x.A ∧ In64 x.B ∧ In64 x.C ∧ In64 x.K
theorem el146 {H : Type} {encH : TypeId × Value → H} {W : World} {n : Nat} {cs : List Value} {y : DataW H × List MemPlace} (h : DataW.trod encH Tryz.prog W 0 (fun _ => true) true n 146 cs = some y) (hl : cs.length = 5) : ∃ x : T_api_Instr, cs = enc_T_api_Instr x ∧ Q146 x := by
  match cs, hl with
  | [c0, c1, c2, c3, c4], _ =>
    obtain ⟨m0, z0, k0, b0⟩ := tr_fld Tryz.underlying146 h 0 rfl
    simp only [cl3, List.drop_succ_cons, List.drop_zero, List.take_succ_cons, List.take_zero, List.getElem_toArray, List.getElem_cons_zero, List.getElem_cons_succ, Array.getInternal_eq_getElem] at k0
    obtain ⟨y0, e0, i0⟩ := tr_int Tryz.underlying3 k0
    obtain ⟨m1, z1, k1, b1⟩ := tr_fld Tryz.underlying146 h 1 rfl
    simp only [cl3, List.drop_succ_cons, List.drop_zero, List.take_succ_cons, List.take_zero, List.getElem_toArray, List.getElem_cons_zero, List.getElem_cons_succ, Array.getInternal_eq_getElem] at k1
    obtain ⟨y1, e1, i1⟩ := tr_int Tryz.underlying3 k1
    obtain ⟨m2, z2, k2, b2⟩ := tr_fld Tryz.underlying146 h 2 rfl
    simp only [cl3, List.drop_succ_cons, List.drop_zero, List.take_succ_cons, List.take_zero, List.getElem_toArray, List.getElem_cons_zero, List.getElem_cons_succ, Array.getInternal_eq_getElem] at k2
    obtain ⟨y2, e2, i2⟩ := tr_int Tryz.underlying3 k2
    obtain ⟨m3, z3, k3, b3⟩ := tr_fld Tryz.underlying146 h 3 rfl
    simp only [cl3, List.drop_succ_cons, List.drop_zero, List.take_succ_cons, List.take_zero, List.getElem_toArray, List.getElem_cons_zero, List.getElem_cons_succ, Array.getInternal_eq_getElem] at k3
    obtain ⟨y3, e3, i3⟩ := tr_int Tryz.underlying3 k3
    obtain ⟨m4, z4, k4, b4⟩ := tr_fld Tryz.underlying146 h 4 rfl
    simp only [cl2, List.drop_succ_cons, List.drop_zero, List.take_succ_cons, List.take_zero, List.getElem_toArray, List.getElem_cons_zero, List.getElem_cons_succ, Array.getInternal_eq_getElem] at k4
    obtain ⟨y4, e4, i4⟩ := tr_int Tryz.underlying2 k4
    simp only [List.cons.injEq, and_true] at e0 e1 e2 e3 e4
    subst e0 e1 e2 e3 e4
    exact ⟨⟨y0, y1, y2, y3, y4⟩, rfl, i0, i1, i2, i3, i4⟩
def Q99 {H : Type} (x : T_api_Func) (d : DataW H) : Prop := In64 x.Params ∧ In64 x.Regs ∧ In64 x.Slots ∧ x.Code.length + 1 ≤ Rows.uptoBulk d ∧ ∀ y ∈ x.Code, Q146 y
theorem el99 {H : Type} {encH : TypeId × Value → H} {W : World} {n : Nat} {cs : List Value} {y : DataW H × List MemPlace} (h : DataW.trod encH Tryz.prog W 0 (fun _ => true) true n 99 cs = some y) (hl : cs.length = 4) : ∃ (a : Option Addr) (c : Nat) (x : T_api_Func), cs = cn99 a c x ∧ RdRow [old W] 5 enc_T_api_Instr a x.Code ∧ Q99 x y.1 := by
  match cs, hl with
  | [c0, c1, c2, c3], _ =>
    obtain ⟨m0, z0, k0, b0⟩ := tr_fld Tryz.underlying99 h 0 rfl
    simp only [cl3, List.drop_succ_cons, List.drop_zero, List.take_succ_cons, List.take_zero, List.getElem_toArray, List.getElem_cons_zero, List.getElem_cons_succ, Array.getInternal_eq_getElem] at k0
    obtain ⟨y0, e0, i0⟩ := tr_int Tryz.underlying3 k0
    obtain ⟨m1, z1, k1, b1⟩ := tr_fld Tryz.underlying99 h 1 rfl
    simp only [cl3, List.drop_succ_cons, List.drop_zero, List.take_succ_cons, List.take_zero, List.getElem_toArray, List.getElem_cons_zero, List.getElem_cons_succ, Array.getInternal_eq_getElem] at k1
    obtain ⟨y1, e1, i1⟩ := tr_int Tryz.underlying3 k1
    obtain ⟨m2, z2, k2, b2⟩ := tr_fld Tryz.underlying99 h 2 rfl
    simp only [cl3, List.drop_succ_cons, List.drop_zero, List.take_succ_cons, List.take_zero, List.getElem_toArray, List.getElem_cons_zero, List.getElem_cons_succ, Array.getInternal_eq_getElem] at k2
    obtain ⟨y2, e2, i2⟩ := tr_int Tryz.underlying3 k2
    obtain ⟨m3, z3, k3, b3⟩ := tr_fld Tryz.underlying99 h 3 rfl
    simp only [cl97, List.drop_succ_cons, List.drop_zero, List.take_succ_cons, List.take_zero, List.getElem_toArray, List.getElem_cons_zero, List.getElem_cons_succ, Array.getInternal_eq_getElem] at k3
    obtain ⟨va, l, cap, e3, r3, q3, g3, _⟩ := tr_row (Q := fun x _ => Q146 x) enc_T_api_Instr_ok Tryz.underlying97 (by kernel_rfl) (fun n cs y h hl => el146 h hl) k3
    simp only [List.cons.injEq, and_true] at e0 e1 e2 e3
    subst e0 e1 e2 e3
    exact ⟨va, cap, ⟨y0, y1, y2, l⟩, rfl, r3, i0, i1, i2, by show l.length + 1 ≤ _; omega, fun x hx => by obtain ⟨_, h, _⟩ := q3 x hx; exact h⟩
set_option maxRecDepth 100000 in
theorem contract (H : Type) (enc : TypeId × Value → H) (W : World) (base : Nat) (args : Array Value) (ds gs : List (DataW H)) (before : List MemPlace)
    (hval : ∀ (j : Nat) t v, Tryz.f8.params[j]? = some t → args[j]? = some v → Value.okWide Tryz.prog W .any base t v)
    (hW : DataW.Whole enc Tryz.prog Tryz.f8.params.toList Rows.workerNilSpec.vars false W args.toList ds gs before) (hk : Rows.uptoSmall H (ds ++ gs) = true) (hL : laidMetH Tryz.prog Rows.workerNilUptoRow.laid W) :
    Calls Tryz.prog 8 args W fun e W' => ∃ v, e = .returned v ∧ Rows.workerNilSpec.post enc Tryz.prog Tryz.f8 false true false false W args v W' := by
  have hG := of_laid hL
  have hW' := hW
  obtain ⟨p, q, hA0, hV, rfl, hfz, hnd⟩ := hW
  have hA : DataW.TrodAll enc Tryz.prog W 0 (fun _ => true) true Tryz.f8.params.toList args.toList ds p := hA0
  rw [Tryz.params8] at hA hval
  have hAll := hA
  obtain ⟨v0, vs0, d0, ds0, p0, q0, hargs, rfl, rfl, h0, r0⟩ := trodAll_cons hA
  obtain ⟨v1, vs1, d1, ds1, p1, q1, rfl, rfl, rfl, h1, r1⟩ := trodAll_cons r0
  obtain ⟨rfl, rfl, rfl⟩ := trodAll_nil r1
  obtain rfl : args = #[v0, v1] := by cases args; simp_all
  obtain ⟨rfl, rfl⟩ := trodVars_none hV
  have hbulk : Rows.uptoBulkAll _ ≤ 1048576 := of_decide_eq_true hk
  have hBc : Rows.uptoBulk (d0, p0).1 ≤ 1048576 := Nat.le_trans (bulk_part (d := d0) (by simp)) hbulk
  obtain ⟨csc, rfl, _⟩ := okWide_struct Tryz.underlying32 (hval 0 32 v0 rfl rfl)
  obtain ⟨fuc, hfc⟩ := h0
  have hfc : DataW.trod enc Tryz.prog W 0 (fun _ => true) true fuc 32 csc.toList = some (d0, p0) := hfc
  have hlc := tr_len Tryz.underlying32 hfc
  rw [show Tryz.prog.cellsOf 32 = 8 by kernel_rfl] at hlc
  obtain ⟨lc⟩ := csc
  obtain ⟨c_0, c_1, c_2, c_3, c_4, c_5, c_6, c_7, rfl⟩ : ∃ c_0 c_1 c_2 c_3 c_4 c_5 c_6 c_7, lc = [c_0, c_1, c_2, c_3, c_4, c_5, c_6, c_7] := by match lc, hlc with | [c_0, c_1, c_2, c_3, c_4, c_5, c_6, c_7], _ => exact ⟨c_0, c_1, c_2, c_3, c_4, c_5, c_6, c_7, rfl⟩
  obtain ⟨mc1, zc1, kc1, bc1⟩ := tr_fld Tryz.underlying32 hfc 0 rfl
  simp only [cl24, List.drop_succ_cons, List.drop_zero, List.take_succ_cons, List.take_zero, List.getElem_toArray, List.getElem_cons_zero, List.getElem_cons_succ, Array.getInternal_eq_getElem] at kc1
  obtain ⟨mc2, zc2, kc2, bc2⟩ := tr_fld Tryz.underlying24 kc1 0 rfl
  simp only [cl22, List.drop_succ_cons, List.drop_zero, List.take_succ_cons, List.take_zero, List.getElem_toArray, List.getElem_cons_zero, List.getElem_cons_succ, Array.getInternal_eq_getElem] at kc2
  obtain ⟨vac2, hsc2, lc2, vcc2, ec2, rc2, qc2, gc2, cpc2⟩ := tr_rown (Q := Q99) (enc := cn99) (encI := enc_T_api_Instr) (fld := T_api_Func.Code) (sz := 4) (szI := 5) (fun a c => ⟨fun _ => rfl, fun x u h => by simp only [cn99, List.mem_cons, List.not_mem_nil, or_false] at h; rcases h with rfl | rfl | rfl | rfl <;> rfl, by decide⟩) Tryz.underlying22 (by kernel_rfl) (fun n cs y h hl => el99 h hl) kc2
  simp only [List.cons.injEq, and_true] at ec2
  subst ec2
  obtain ⟨mc3, zc3, kc3, bc3⟩ := tr_fld Tryz.underlying32 hfc 1 rfl
  simp only [cl25, List.drop_succ_cons, List.drop_zero, List.take_succ_cons, List.take_zero, List.getElem_toArray, List.getElem_cons_zero, List.getElem_cons_succ, Array.getInternal_eq_getElem] at kc3
  obtain ⟨vac3, lc3, vcc3, ec3, rc3, qc3, gc3, cpc3⟩ := tr_ints Tryz.underlying25 Tryz.underlying2 (by kernel_rfl) kc3
  simp only [List.cons.injEq, and_true] at ec3
  subst ec3
  obtain ⟨mc4, zc4, kc4, bc4⟩ := tr_fld Tryz.underlying32 hfc 2 rfl
  simp only [cl3, List.drop_succ_cons, List.drop_zero, List.take_succ_cons, List.take_zero, List.getElem_toArray, List.getElem_cons_zero, List.getElem_cons_succ, Array.getInternal_eq_getElem] at kc4
  obtain ⟨xc4, ec4, ic4⟩ := tr_int Tryz.underlying3 kc4
  simp only [List.cons.injEq, and_true] at ec4
  subst ec4
  obtain ⟨mc5, zc5, kc5, bc5⟩ := tr_fld Tryz.underlying32 hfc 3 rfl
  simp only [cl27, List.drop_succ_cons, List.drop_zero, List.take_succ_cons, List.take_zero, List.getElem_toArray, List.getElem_cons_zero, List.getElem_cons_succ, Array.getInternal_eq_getElem] at kc5
  obtain ⟨mc6, zc6, kc6, bc6⟩ := tr_fld Tryz.underlying27 kc5 0 rfl
  simp only [cl3, List.drop_succ_cons, List.drop_zero, List.take_succ_cons, List.take_zero, List.getElem_toArray, List.getElem_cons_zero, List.getElem_cons_succ, Array.getInternal_eq_getElem] at kc6
  obtain ⟨xc6, ec6, ic6⟩ := tr_int Tryz.underlying3 kc6
  simp only [List.cons.injEq, and_true] at ec6
  subst ec6
  obtain ⟨mc7, zc7, kc7, bc7⟩ := tr_fld Tryz.underlying27 kc5 1 rfl
  simp only [cl3, List.drop_succ_cons, List.drop_zero, List.take_succ_cons, List.take_zero, List.getElem_toArray, List.getElem_cons_zero, List.getElem_cons_succ, Array.getInternal_eq_getElem] at kc7
  obtain ⟨xc7, ec7, ic7⟩ := tr_int Tryz.underlying3 kc7
  simp only [List.cons.injEq, and_true] at ec7
  subst ec7
  obtain ⟨mc8, zc8, kc8, bc8⟩ := tr_fld Tryz.underlying27 kc5 2 rfl
  simp only [cl3, List.drop_succ_cons, List.drop_zero, List.take_succ_cons, List.take_zero, List.getElem_toArray, List.getElem_cons_zero, List.getElem_cons_succ, Array.getInternal_eq_getElem] at kc8
  obtain ⟨xc8, ec8, ic8⟩ := tr_int Tryz.underlying3 kc8
  simp only [List.cons.injEq, and_true] at ec8
  subst ec8
  obtain ⟨mc9, zc9, kc9, bc9⟩ := tr_fld Tryz.underlying32 hfc 4 rfl
  simp only [cl30, List.drop_succ_cons, List.drop_zero, List.take_succ_cons, List.take_zero, List.getElem_toArray, List.getElem_cons_zero, List.getElem_cons_succ, Array.getInternal_eq_getElem] at kc9
  obtain ⟨mc10, zc10, kc10, bc10⟩ := tr_fld Tryz.underlying30 kc9 0 rfl
  simp only [cl28, List.drop_succ_cons, List.drop_zero, List.take_succ_cons, List.take_zero, List.getElem_toArray, List.getElem_cons_zero, List.getElem_cons_succ, Array.getInternal_eq_getElem] at kc10
  obtain ⟨vac10, lc10, vcc10, ec10, rc10, qc10, gc10, cpc10⟩ := tr_ints Tryz.underlying28 Tryz.underlying3 (by kernel_rfl) kc10
  simp only [List.cons.injEq, and_true] at ec10
  subst ec10
  obtain ⟨mc11, zc11, kc11, bc11⟩ := tr_fld Tryz.underlying30 kc9 1 rfl
  simp only [cl28, List.drop_succ_cons, List.drop_zero, List.take_succ_cons, List.take_zero, List.getElem_toArray, List.getElem_cons_zero, List.getElem_cons_succ, Array.getInternal_eq_getElem] at kc11
  obtain ⟨vac11, lc11, vcc11, ec11, rc11, qc11, gc11, cpc11⟩ := tr_ints Tryz.underlying28 Tryz.underlying3 (by kernel_rfl) kc11
  simp only [List.cons.injEq, and_true] at ec11
  subst ec11
  have hdefc : ∃ c : T_plunderlaw11_Case, c = ⟨lc2, lc3, xc4, xc6, xc7, xc8, lc10, lc11⟩ := ⟨_, rfl⟩
  obtain ⟨n, rfl, rfl, rfl, wn0⟩ := open_int Tryz.underlying3 (hval 1 3 v1 rfl rfl) h1
  have wn := wf_i64 wn0
  have H0 := (show plunderlaw11_WorkerNil 5000000 (⟨lc2, lc3, xc4, xc6, xc7, xc8, lc10, lc11⟩ : T_plunderlaw11_Case) n = some true from nil_true n (by show lc11.length ≤ _; omega) (by decide))
  refine (plunderlaw11_WorkerNil_ok (va0_P_Funcs := vac2) (vc0_P_Funcs := vcc2) (hv0_P_Funcs := rc2) (hs0_P_Funcs := hsc2) (va0_Args := vac3) (vc0_Args := vcc3) (hv0_Args := rc3) (va0_S_Picks := vac10) (vc0_S_Picks := vcc10) (hv0_S_Picks := rc10) (va0_S_Draws := vac11) (vc0_S_Draws := vcc11) (hv0_S_Draws := rc11) (hg1 := hG.1) (H := H0) (h := Fit.begin W)).mono fun e W' ⟨he, hF⟩ => ?_
  subst he
  have bel := hF.below
  exact ⟨_, rfl, _, _, _, [], _, [], hW', trodAll_mk1 (shut_bool Tryz.underlying4 _), trodAll_below (by kernel_rfl) bel (by kernel_rfl) hAll, rfl, bel.frame _, fun h => by cases h⟩
def cells1 : Array Value := (gl1.flatMap enc_T_anon249).toArray
def cells0 : Array Value := (gl0.flatMap encBo).toArray
noncomputable def laidWorld (os : Os) : World := { World.holding Tryz.prog os ⟨#[], #[], []⟩ with heap := (((World.holding Tryz.prog os ⟨#[], #[], []⟩).heap.modify 1 (fun | .cells _ t frozen => .cells cells1 t frozen | o => o)).modify 0 (fun | .cells _ t frozen => .cells cells0 t frozen | o => o)) }
theorem laid_met (os : Os) : laidMet Tryz.prog Rows.workerNilUptoRow.laid ((laidWorld os).forCall (fun _ _ => 0) ⟨#[], #[.agg #[.slice none 0 0, .slice none 0 0, .int .i64 0, .int .i64 0, .int .i64 0, .int .i64 0, .slice none 0 0, .slice none 0 0], .int .i64 0], []⟩).memory :=
  laidMet_of_run' 40 (by kernel_rfl) (by kernel_rfl)
theorem reads (os : Os) {H : Type} (enc : TypeId × Value → H) : ∃ places, DataW.whole enc Tryz.prog ((laidWorld os).forCall (fun _ _ => 0) ⟨#[], #[.agg #[.slice none 0 0, .slice none 0 0, .int .i64 0, .int .i64 0, .int .i64 0, .int .i64 0, .slice none 0 0, .slice none 0 0], .int .i64 0], []⟩).memory Tryz.f8.params.toList Rows.workerNilSpec.vars false (#[.agg #[.slice none 0 0, .slice none 0 0, .int .i64 0, .int .i64 0, .int .i64 0, .int .i64 0, .slice none 0 0, .slice none 0 0], .int .i64 0] : Array Value).toList 16 = some ([.agg [.agg [.nil], .nil, .lit (.int .i64 0), .agg [.lit (.int .i64 0), .lit (.int .i64 0), .lit (.int .i64 0)], .agg [.nil, .nil]], .lit (.int .i64 0)], [], places) :=
  ⟨[], by kernel_rfl⟩
set_option maxRecDepth 100000 in
theorem lifted (os : Os) (started : os.Started) (H : Type) (enc : TypeId × Value → H) (F : Stop.Interp) :
    ReturnsInHanded {} Tryz.checked os 8 .any ((Rows.OpenSpec.upto Rows.workerNilSpec).preRow enc Tryz.prog Tryz.f8 Rows.workerNilUptoRow.domain false Rows.workerNilUptoRow.laid) (((Rows.OpenSpec.upto Rows.workerNilSpec).at F).post enc Tryz.prog Tryz.f8 false true false false) := by
  obtain ⟨places, hx⟩ := reads os enc
  refine returnsInHanded_of_row (C := Tryz.checked) (s := Rows.OpenSpec.upto Rows.workerNilSpec) own started (by kernel_rfl) Tryz.func8
    (witness_row_at (enc := enc) (C := Tryz.checked) false (laidWorld os) #[.agg #[.slice none 0 0, .slice none 0 0, .int .i64 0, .int .i64 0, .int .i64 0, .int .i64 0, .slice none 0 0, .slice none 0 0], .int .i64 0] rfl (by kernel_rfl) (by kernel_rfl) (by kernel_rfl)
      (OpenSpec.preRow_of_cond 16 hx (by kernel_rfl) (fun k hk => by cases hk; kernel_rfl) (by kernel_rfl) (laid_met os))) ?_
  intro W base args ds gs before hval hW _ hcond _ hL _ _
  exact contract H enc W base args ds gs before hval hW (hcond _ rfl) hL
theorem band {a b : Bool} (h1 : a = true) (h2 : b = true) : (a && b) = true := by rw [h1, h2]; rfl
set_option maxHeartbeats 4000000 in
theorem facts : joinedFacts Tryz.pinned.checked.prog 8 Tryz.f8 (Rows.OpenSpec.upto Rows.workerNilSpec).bare Rows.workerNilUptoRow = true := by
  unfold joinedFacts
  refine band (band (band (band (band (band (band (band (band (band (band (band (band (band (band (band (band (band (band (band (band (band (band (band (band (band (band (band (band (band (band ?_ ?_) ?_) ?_) ?_) ?_) ?_) ?_) ?_) ?_) ?_) ?_) ?_) ?_) ?_) ?_) ?_) ?_) ?_) ?_) ?_) ?_) ?_) ?_) ?_) ?_) ?_) ?_) ?_) ?_) ?_) ?_
  all_goals as_aux_lemma => kernel_rfl
theorem proved : Rows.WorkerNilUptoSaid :=
  OpenClaim.holds_of_cond 8 Tryz.f8 rfl rfl rfl rfl rfl rfl rfl ⟨rfl, rfl, rfl, rfl, rfl⟩ rfl rfl rfl rfl rfl (by kernel_rfl) Tryz.func8 facts
    (of_decide_eq_true (by kernel_rfl)) (by unfold Func.isWrapper; first | (rw [if_pos (by decide +kernel)]; kernel_rfl) | (rw [if_neg (by decide +kernel)]; exact ⟨rfl, rfl⟩))
    (fun os started H enc _ F => by rw [OpenClaim.pre_eq_preRow]; exact lifted os started H enc F)
theorem plain (f : FuncId) (fn : Func) (hf : Tryz.pinned.checked.prog.funcNamed "plunder/plunderlaw11.WorkerNil" = some f) (hfn : Tryz.pinned.checked.prog.funcs[f]? = some fn) :
    true = Tryz.pinned.checked.prog.looks [] ∧ ∀ (j : Nat) t, fn.params[j]? = some t → Tryz.pinned.checked.prog.wantsStandIn t = false := by
  obtain rfl : f = 8 := Option.some.inj ((show Tryz.prog.funcNamed "plunder/plunderlaw11.WorkerNil" = some 8 by kernel_rfl).symm.trans hf) |>.symm
  obtain rfl : fn = Tryz.f8 := (Option.some.inj (Tryz.func8.symm.trans hfn)).symm
  refine ⟨by kernel_rfl, fun j t ht => ?_⟩
  rw [Tryz.params8] at ht
  have ht := Array.mem_of_getElem? ht
  simp only [List.mem_toArray, List.mem_cons, List.not_mem_nil, or_false] at ht
  rcases ht with rfl | rfl
  · exact (show Tryz.prog.wantsStandIn 32 = false by kernel_rfl)
  · exact (show Tryz.prog.wantsStandIn 3 = false by kernel_rfl)
theorem card : Rows.WorkerNilUptoCardSaid :=
  Claim7.holds_tied_plain_at .later [] _ _ _ _ proved (fun _ h => by cases h) (by kernel_rfl) (fun _ h => by cases h) workerNilUpto_row_tie rfl ⟨rfl, rfl⟩ (by kernel_rfl) rfl plain (by kernel_rfl)
#print axioms card
end Go.Proofs.YtpikpffbcjpmcaaGreatDoor.workerNilUptoRow
namespace Go.Proofs.YtpikpffbcjpmcaaGreatDoor
/-- The card, under a short name, for the claim. -/
theorem workerNilUpto_holds : Rows.WorkerNilUptoCardSaid := workerNilUptoRow.card
end Go.Proofs.YtpikpffbcjpmcaaGreatDoor
