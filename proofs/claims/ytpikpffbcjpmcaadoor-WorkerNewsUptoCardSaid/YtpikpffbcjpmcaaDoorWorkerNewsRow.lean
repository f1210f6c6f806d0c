/- plunderlaw11.WorkerNews answers true for every input of the bulk that the statement names and leaves its input alone: the row and its card. Conditions: none. -/
import Derived.Test.YtpikpffbcjpmcaaDoorRows
import Derived.Test.YtpikpffbcjpmcaaDoorCards
import Derived.Test.YtpikpffbcjpmcaaDoorTie
import Derived.Test.YtpikpffbcjpmcaaDoorRK4
import Derived.Test.YtpikpffbcjpmcaaDoorNewsPure
import Derived.Test.YtpikpffbcjpmcaaDoorWa5
import Derived.WalkKit
import Derived.ProofKit
import Derived.OpenShut
import Derived.ChangeOld
import Derived.Below
import Derived.SizedLaws
import Derived.JoinedCond
import Derived.Deep.DeepHandedRow
import Derived.Lib.LaidTab
import Derived.LaidMore
import Derived.SevenTiedAt
namespace Go.Proofs.YtpikpffbcjpmcaaDoor.workerNewsUptoRow
open Go.ChangeShapes Go.WideShapes Go.ChangeAt Go.RowKit
open Go.Proofs.YtpikpffbcjpmcaaDoor.SL Go.Proofs.YtpikpffbcjpmcaaDoor.GX Go.Proofs.YtpikpffbcjpmcaaDoor.RK Go.Proofs.YtpikpffbcjpmcaaDoor.Mo
set_option linter.unusedVariables false
set_option linter.unusedSimpArgs false
set_option maxRecDepth 100000
theorem own : ownKnob Tryd.prog.godebug = none := by kernel_rfl
theorem cl154 : Tryd.prog.cellsOf 154 = 1 := by kernel_rfl
theorem cl74 : Tryd.prog.cellsOf 74 = 1 := by kernel_rfl
theorem cl30 : Tryd.prog.cellsOf 30 = 2 := by kernel_rfl
theorem cl28 : Tryd.prog.cellsOf 28 = 1 := by kernel_rfl
theorem cl27 : Tryd.prog.cellsOf 27 = 3 := by kernel_rfl
theorem cl25 : Tryd.prog.cellsOf 25 = 1 := by kernel_rfl
theorem cl24 : Tryd.prog.cellsOf 24 = 1 := by kernel_rfl
theorem cl22 : Tryd.prog.cellsOf 22 = 1 := by kernel_rfl
theorem cl4 : Tryd.prog.cellsOf 4 = 1 := by kernel_rfl
theorem cl3 : Tryd.prog.cellsOf 3 = 1 := by kernel_rfl
theorem cl2 : Tryd.prog.cellsOf 2 = 1 := by kernel_rfl
def dE0 (x : T_anon155) : DataW Unit := .agg [.lit (.int .i64 x.a), .lit (.int .i64 x.b), .lit (.int .i64 x.c), .lit (.int .i64 x.k), .lit (.bool x.next)]
theorem dec0 {W : World} : ∀ m cs y (x : T_anon155), DataW.trod (fun _ => ()) Tryd.prog W 0 (fun _ => true) false m 155 cs = some y → cs.length = 5 → y.1 = dE0 x → cs = enc_T_anon155 x := by
  intro m cs y x h hl hd
  obtain ⟨xs, m', _, hx, _, hxl, hg⟩ := DataW.trod_struct Tryd.underlying155 h
  match cs, hl, xs, hxl with
  | [c0, c1, c2, c3, c4], _, [x0, x1, x2, x3, x4], _ =>
    have g0 := hg 0 _ rfl
    simp only [cl154, List.drop_succ_cons, List.drop_zero, List.take_succ_cons, List.take_zero, List.getElem_toArray, List.getElem_cons_zero, List.getElem_cons_succ, Array.getInternal_eq_getElem, List.getElem?_cons_succ, List.getElem?_cons_zero] at g0
    obtain ⟨y0, e0, f0, _⟩ := DataW.trod_int Tryd.underlying154 g0
    have g1 := hg 1 _ rfl
    simp only [cl154, List.drop_succ_cons, List.drop_zero, List.take_succ_cons, List.take_zero, List.getElem_toArray, List.getElem_cons_zero, List.getElem_cons_succ, Array.getInternal_eq_getElem, List.getElem?_cons_succ, List.getElem?_cons_zero] at g1
    obtain ⟨y1, e1, f1, _⟩ := DataW.trod_int Tryd.underlying154 g1
    have g2 := hg 2 _ rfl
    simp only [cl154, List.drop_succ_cons, List.drop_zero, List.take_succ_cons, List.take_zero, List.getElem_toArray, List.getElem_cons_zero, List.getElem_cons_succ, Array.getInternal_eq_getElem, List.getElem?_cons_succ, List.getElem?_cons_zero] at g2
    obtain ⟨y2, e2, f2, _⟩ := DataW.trod_int Tryd.underlying154 g2
    have g3 := hg 3 _ rfl
    simp only [cl154, List.drop_succ_cons, List.drop_zero, List.take_succ_cons, List.take_zero, List.getElem_toArray, List.getElem_cons_zero, List.getElem_cons_succ, Array.getInternal_eq_getElem, List.getElem?_cons_succ, List.getElem?_cons_zero] at g3
    obtain ⟨y3, e3, f3, _⟩ := DataW.trod_int Tryd.underlying154 g3
    have g4 := hg 4 _ rfl
    simp only [cl4, List.drop_succ_cons, List.drop_zero, List.take_succ_cons, List.take_zero, List.getElem_toArray, List.getElem_cons_zero, List.getElem_cons_succ, Array.getInternal_eq_getElem, List.getElem?_cons_succ, List.getElem?_cons_zero] at g4
    obtain ⟨y4, e4, f4⟩ := DataW.trod_bool Tryd.underlying4 g4
    rw [hx] at hd
    simp only [dE0, List.map_cons, List.map_nil, DataW.agg.injEq, List.cons.injEq, and_true, f0, f1, f2, f3, f4, DataW.lit.injEq, Lit.int.injEq, Lit.bool.injEq, true_and] at hd
    simp only [List.cons.injEq, and_true] at e0 e1 e2 e3 e4
    obtain ⟨h0, h1, h2, h3, h4⟩ := hd
    simp only [e0, e1, e2, e3, e4, h0, h1, h2, h3, h4]; rfl
theorem of_laid {W : World} (h : laidMetH Tryd.prog Rows.workerNewsUptoRow.laid W) : RdRow [old W] 5 enc_T_anon155 (some ⟨0, 0, none⟩) gl0 := by
  rw [MakeChecks.laidMetH_plain _ _ _ (by kernel_rfl)] at h
  obtain ⟨ps, hV, _, _⟩ := h
  have hV0 : DataW.LaidVars Tryd.prog W [("plunder/prog.fields", .agg (gl0.map dE0))] ps := hV
  obtain ⟨r0, ps0, hV1⟩ := laid_row (by decide) (show Tryd.prog.globalNamed "plunder/prog.fields" = some 0 by kernel_rfl) (show (Tryd.prog.globals[0]?).map (·.type) = some 156 by kernel_rfl) Tryd.underlying156 (show Tryd.prog.cellsOf 155 = 5 by kernel_rfl) (show Tryd.prog.cellsOf 156 = 50 by kernel_rfl) rfl (fun x => rfl) dec0 hV0
  exact r0
def Q108 (x : T_api_Instr) : Prop := In64 x.Kind ∧ In64 x.A ∧ In64 x.B ∧ In64 x.C ∧ In64 x.K
theorem el108 {H : Type} {encH : TypeId × Value → H} {W : World} {n : Nat} {cs : List Value} {y : DataW H × List MemPlace} (h : DataW.trod encH Tryd.prog W 0 (fun _ => true) true n 108 cs = some y) (hl : cs.length = 5) : ∃ x : T_api_Instr, cs = enc_T_api_Instr x ∧ Q108 x := by
  match cs, hl with
  | [c0, c1, c2, c3, c4], _ =>
    obtain ⟨m0, z0, k0, b0⟩ := tr_fld Tryd.underlying108 h 0 rfl
    simp only [cl3, List.drop_succ_cons, List.drop_zero, List.take_succ_cons, List.take_zero, List.getElem_toArray, List.getElem_cons_zero, List.getElem_cons_succ, Array.getInternal_eq_getElem] at k0
    obtain ⟨y0, e0, i0⟩ := tr_int Tryd.underlying3 k0
    obtain ⟨m1, z1, k1, b1⟩ := tr_fld Tryd.underlying108 h 1 rfl
    simp only [cl3, List.drop_succ_cons, List.drop_zero, List.take_succ_cons, List.take_zero, List.getElem_toArray, List.getElem_cons_zero, List.getElem_cons_succ, Array.getInternal_eq_getElem] at k1
    obtain ⟨y1, e1, i1⟩ := tr_int Tryd.underlying3 k1
    obtain ⟨m2, z2, k2, b2⟩ := tr_fld Tryd.underlying108 h 2 rfl
    simp only [cl3, List.drop_succ_cons, List.drop_zero, List.take_succ_cons, List.take_zero, List.getElem_toArray, List.getElem_cons_zero, List.getElem_cons_succ, Array.getInternal_eq_getElem] at k2
    obtain ⟨y2, e2, i2⟩ := tr_int Tryd.underlying3 k2
    obtain ⟨m3, z3, k3, b3⟩ := tr_fld Tryd.underlying108 h 3 rfl
    simp only [cl3, List.drop_succ_cons, List.drop_zero, List.take_succ_cons, List.take_zero, List.getElem_toArray, List.getElem_cons_zero, List.getElem_cons_succ, Array.getInternal_eq_getElem] at k3
    obtain ⟨y3, e3, i3⟩ := tr_int Tryd.underlying3 k3
    obtain ⟨m4, z4, k4, b4⟩ := tr_fld Tryd.underlying108 h 4 rfl
    simp only [cl2, List.drop_succ_cons, List.drop_zero, List.take_succ_cons, List.take_zero, List.getElem_toArray, List.getElem_cons_zero, List.getElem_cons_succ, Array.getInternal_eq_getElem] at k4
    obtain ⟨y4, e4, i4⟩ := tr_int Tryd.underlying2 k4
    simp only [List.cons.injEq, and_true] at e0 e1 e2 e3 e4
    subst e0 e1 e2 e3 e4
    exact ⟨⟨y0, y1, y2, y3, y4⟩, rfl, i0, i1, i2, i3, i4⟩
def Q76 {H : Type} (x : T_api_Func) (d : DataW H) : Prop := In64 x.Params ∧ In64 x.Regs ∧ In64 x.Slots ∧ x.Code.length + 1 ≤ Rows.uptoBulk d ∧ ∀ y ∈ x.Code, Q108 y
theorem el76 {H : Type} {encH : TypeId × Value → H} {W : World} {n : Nat} {cs : List Value} {y : DataW H × List MemPlace} (h : DataW.trod encH Tryd.prog W 0 (fun _ => true) true n 76 cs = some y) (hl : cs.length = 4) : ∃ (a : Option Addr) (c : Nat) (x : T_api_Func), cs = cn76 a c x ∧ RdRow [old W] 5 enc_T_api_Instr a x.Code ∧ Q76 x y.1 := by
  match cs, hl with
  | [c0, c1, c2, c3], _ =>
    obtain ⟨m0, z0, k0, b0⟩ := tr_fld Tryd.underlying76 h 0 rfl
    simp only [cl3, List.drop_succ_cons, List.drop_zero, List.take_succ_cons, List.take_zero, List.getElem_toArray, List.getElem_cons_zero, List.getElem_cons_succ, Array.getInternal_eq_getElem] at k0
    obtain ⟨y0, e0, i0⟩ := tr_int Tryd.underlying3 k0
    obtain ⟨m1, z1, k1, b1⟩ := tr_fld Tryd.underlying76 h 1 rfl
    simp only [cl3, List.drop_succ_cons, List.drop_zero, List.take_succ_cons, List.take_zero, List.getElem_toArray, List.getElem_cons_zero, List.getElem_cons_succ, Array.getInternal_eq_getElem] at k1
    obtain ⟨y1, e1, i1⟩ := tr_int Tryd.underlying3 k1
    obtain ⟨m2, z2, k2, b2⟩ := tr_fld Tryd.underlying76 h 2 rfl
    simp only [cl3, List.drop_succ_cons, List.drop_zero, List.take_succ_cons, List.take_zero, List.getElem_toArray, List.getElem_cons_zero, List.getElem_cons_succ, Array.getInternal_eq_getElem] at k2
    obtain ⟨y2, e2, i2⟩ := tr_int Tryd.underlying3 k2
    obtain ⟨m3, z3, k3, b3⟩ := tr_fld Tryd.underlying76 h 3 rfl
    simp only [cl74, List.drop_succ_cons, List.drop_zero, List.take_succ_cons, List.take_zero, List.getElem_toArray, List.getElem_cons_zero, List.getElem_cons_succ, Array.getInternal_eq_getElem] at k3
    obtain ⟨va, l, cap, e3, r3, q3, g3, _⟩ := tr_row (Q := fun x _ => Q108 x) enc_T_api_Instr_ok Tryd.underlying74 (by kernel_rfl) (fun n cs y h hl => el108 h hl) k3
    simp only [List.cons.injEq, and_true] at e0 e1 e2 e3
    subst e0 e1 e2 e3
    exact ⟨va, cap, ⟨y0, y1, y2, l⟩, rfl, r3, i0, i1, i2, by show l.length + 1 ≤ _; omega, fun x hx => by obtain ⟨_, h, _⟩ := q3 x hx; exact h⟩
set_option maxRecDepth 100000 in
theorem contract (H : Type) (enc : TypeId × Value → H) (W : World) (base : Nat) (args : Array Value) (ds gs : List (DataW H)) (before : List MemPlace)
    (hval : ∀ (j : Nat) t v, Tryd.f3.params[j]? = some t → args[j]? = some v → Value.okWide Tryd.prog W .any base t v)
    (hW : DataW.Whole enc Tryd.prog Tryd.f3.params.toList Rows.workerNewsSpec.vars false W args.toList ds gs before) (hk : Rows.uptoSmall H (ds ++ gs) = true) (hL : laidMetH Tryd.prog Rows.workerNewsUptoRow.laid W) :
    Calls Tryd.prog 3 args W fun e W' => ∃ v, e = .returned v ∧ Rows.workerNewsSpec.post enc Tryd.prog Tryd.f3 false true false false W args v W' := by
  have hG := of_laid hL
  have hW' := hW
  obtain ⟨p, q, hA0, hV, rfl, hfz, hnd⟩ := hW
  have hA : DataW.TrodAll enc Tryd.prog W 0 (fun _ => true) true Tryd.f3.params.toList args.toList ds p := hA0
  rw [Tryd.params3] at hA hval
  have hAll := hA
  obtain ⟨v0, vs0, d0, ds0, p0, q0, hargs, rfl, rfl, h0, r0⟩ := trodAll_cons hA
  obtain ⟨v1, vs1, d1, ds1, p1, q1, rfl, rfl, rfl, h1, r1⟩ := trodAll_cons r0
  obtain ⟨rfl, rfl, rfl⟩ := trodAll_nil r1
  obtain rfl : args = #[v0, v1] := by cases args; simp_all
  obtain ⟨rfl, rfl⟩ := trodVars_none hV
  have hbulk : Rows.uptoBulkAll _ ≤ 1048576 := of_decide_eq_true hk
  obtain ⟨n, rfl, rfl, rfl, wn0⟩ := open_int Tryd.underlying3 (hval 0 3 v0 rfl rfl) h0
  have wn := wf_i64 wn0
  have hBc : Rows.uptoBulk (d1, p1).1 ≤ 1048576 := Nat.le_trans (bulk_part (d := d1) (by simp)) hbulk
  obtain ⟨csc, rfl, _⟩ := okWide_struct Tryd.underlying32 (hval 1 32 v1 rfl rfl)
  obtain ⟨fuc, hfc⟩ := h1
  have hfc : DataW.trod enc Tryd.prog W 0 (fun _ => true) true fuc 32 csc.toList = some (d1, p1) := hfc
  have hlc := tr_len Tryd.underlying32 hfc
  rw [show Tryd.prog.cellsOf 32 = 8 by kernel_rfl] at hlc
  obtain ⟨lc⟩ := csc
  obtain ⟨c_0, c_1, c_2, c_3, c_4, c_5, c_6, c_7, rfl⟩ : ∃ c_0 c_1 c_2 c_3 c_4 c_5 c_6 c_7, lc = [c_0, c_1, c_2, c_3, c_4, c_5, c_6, c_7] := by match lc, hlc with | [c_0, c_1, c_2, c_3, c_4, c_5, c_6, c_7], _ => exact ⟨c_0, c_1, c_2, c_3, c_4, c_5, c_6, c_7, rfl⟩
  obtain ⟨mc1, zc1, kc1, bc1⟩ := tr_fld Tryd.underlying32 hfc 0 rfl
  simp only [cl24, List.drop_succ_cons, List.drop_zero, List.take_succ_cons, List.take_zero, List.getElem_toArray, List.getElem_cons_zero, List.getElem_cons_succ, Array.getInternal_eq_getElem] at kc1
  obtain ⟨mc2, zc2, kc2, bc2⟩ := tr_fld Tryd.underlying24 kc1 0 rfl
  simp only [cl22, List.drop_succ_cons, List.drop_zero, List.take_succ_cons, List.take_zero, List.getElem_toArray, List.getElem_cons_zero, List.getElem_cons_succ, Array.getInternal_eq_getElem] at kc2
  obtain ⟨vac2, hsc2, lc2, vcc2, ec2, rc2, qc2, gc2, cpc2⟩ := tr_rown (Q := Q76) (enc := cn76) (encI := enc_T_api_Instr) (fld := T_api_Func.Code) (sz := 4) (szI := 5) (fun a c => ⟨fun _ => rfl, fun x u h => by simp only [cn76, List.mem_cons, List.not_mem_nil, or_false] at h; rcases h with rfl | rfl | rfl | rfl <;> rfl, by decide⟩) Tryd.underlying22 (by kernel_rfl) (fun n cs y h hl => el76 h hl) kc2
  simp only [List.cons.injEq, and_true] at ec2
  subst ec2
  obtain ⟨mc3, zc3, kc3, bc3⟩ := tr_fld Tryd.underlying32 hfc 1 rfl
  simp only [cl25, List.drop_succ_cons, List.drop_zero, List.take_succ_cons, List.take_zero, List.getElem_toArray, List.getElem_cons_zero, List.getElem_cons_succ, Array.getInternal_eq_getElem] at kc3
  obtain ⟨vac3, lc3, vcc3, ec3, rc3, qc3, gc3, cpc3⟩ := tr_ints Tryd.underlying25 Tryd.underlying2 (by kernel_rfl) kc3
  simp only [List.cons.injEq, and_true] at ec3
  subst ec3
  obtain ⟨mc4, zc4, kc4, bc4⟩ := tr_fld Tryd.underlying32 hfc 2 rfl
  simp only [cl3, List.drop_succ_cons, List.drop_zero, List.take_succ_cons, List.take_zero, List.getElem_toArray, List.getElem_cons_zero, List.getElem_cons_succ, Array.getInternal_eq_getElem] at kc4
  obtain ⟨xc4, ec4, ic4⟩ := tr_int Tryd.underlying3 kc4
  simp only [List.cons.injEq, and_true] at ec4
  subst ec4
  obtain ⟨mc5, zc5, kc5, bc5⟩ := tr_fld Tryd.underlying32 hfc 3 rfl
  simp only [cl27, List.drop_succ_cons, List.drop_zero, List.take_succ_cons, List.take_zero, List.getElem_toArray, List.getElem_cons_zero, List.getElem_cons_succ, Array.getInternal_eq_getElem] at kc5
  obtain ⟨mc6, zc6, kc6, bc6⟩ := tr_fld Tryd.underlying27 kc5 0 rfl
  simp only [cl3, List.drop_succ_cons, List.drop_zero, List.take_succ_cons, List.take_zero, List.getElem_toArray, List.getElem_cons_zero, List.getElem_cons_succ, Array.getInternal_eq_getElem] at kc6
  obtain ⟨xc6, ec6, ic6⟩ := tr_int Tryd.underlying3 kc6
  simp only [List.cons.injEq, and_true] at ec6
  subst ec6
  obtain ⟨mc7, zc7, kc7, bc7⟩ := tr_fld Tryd.underlying27 kc5 1 rfl
  simp only [cl3, List.drop_succ_cons, List.drop_zero, List.take_succ_cons, List.take_zero, List.getElem_toArray, List.getElem_cons_zero, List.getElem_cons_succ, Array.getInternal_eq_getElem] at kc7
  obtain ⟨xc7, ec7, ic7⟩ := tr_int Tryd.underlying3 kc7
  simp only [List.cons.injEq, and_true] at ec7
  subst ec7
  obtain ⟨mc8, zc8, kc8, bc8⟩ := tr_fld Tryd.underlying27 kc5 2 rfl
  simp only [cl3, List.drop_succ_cons, List.drop_zero, List.take_succ_cons, List.take_zero, List.getElem_toArray, List.getElem_cons_zero, List.getElem_cons_succ, Array.getInternal_eq_getElem] at kc8
  obtain ⟨xc8, ec8, ic8⟩ := tr_int Tryd.underlying3 kc8
  simp only [List.cons.injEq, and_true] at ec8
  subst ec8
  obtain ⟨mc9, zc9, kc9, bc9⟩ := tr_fld Tryd.underlying32 hfc 4 rfl
  simp only [cl30, List.drop_succ_cons, List.drop_zero, List.take_succ_cons, List.take_zero, List.getElem_toArray, List.getElem_cons_zero, List.getElem_cons_succ, Array.getInternal_eq_getElem] at kc9
  obtain ⟨mc10, zc10, kc10, bc10⟩ := tr_fld Tryd.underlying30 kc9 0 rfl
  simp only [cl28, List.drop_succ_cons, List.drop_zero, List.take_succ_cons, List.take_zero, List.getElem_toArray, List.getElem_cons_zero, List.getElem_cons_succ, Array.getInternal_eq_getElem] at kc10
  obtain ⟨vac10, lc10, vcc10, ec10, rc10, qc10, gc10, cpc10⟩ := tr_ints Tryd.underlying28 Tryd.underlying3 (by kernel_rfl) kc10
  simp only [List.cons.injEq, and_true] at ec10
  subst ec10
  obtain ⟨mc11, zc11, kc11, bc11⟩ := tr_fld Tryd.underlying30 kc9 1 rfl
  simp only [cl28, List.drop_succ_cons, List.drop_zero, List.take_succ_cons, List.take_zero, List.getElem_toArray, List.getElem_cons_zero, List.getElem_cons_succ, Array.getInternal_eq_getElem] at kc11
  obtain ⟨vac11, lc11, vcc11, ec11, rc11, qc11, gc11, cpc11⟩ := tr_ints Tryd.underlying28 Tryd.underlying3 (by kernel_rfl) kc11
  simp only [List.cons.injEq, and_true] at ec11
  subst ec11
  have hdefc : ∃ c : T_plunderlaw11_Case, c = ⟨lc2, lc3, xc4, xc6, xc7, xc8, lc10, lc11⟩ := ⟨_, rfl⟩
  have H0 := (show plunderlaw11_WorkerNews 5000000 n (⟨lc2, lc3, xc4, xc6, xc7, xc8, lc10, lc11⟩ : T_plunderlaw11_Case) = some true from news_true n ⟨by show lc2.length ≤ _; omega, fun i hi => by obtain ⟨d, q, hd⟩ := qc2 _ (at_mem_ hi); have := q.2.2.2.1; show (at_ lc2 i).Code.length ≤ _; omega, by show lc3.length ≤ _; omega, by show lc10.length ≤ _; omega, by show lc11.length ≤ _; omega⟩ (by decide))
  refine (plunderlaw11_WorkerNews_ok (va1_P_Funcs := vac2) (vc1_P_Funcs := vcc2) (hv1_P_Funcs := rc2) (hs1_P_Funcs := hsc2) (va1_Args := vac3) (vc1_Args := vcc3) (hv1_Args := rc3) (va1_S_Picks := vac10) (vc1_S_Picks := vcc10) (hv1_S_Picks := rc10) (va1_S_Draws := vac11) (vc1_S_Draws := vcc11) (hv1_S_Draws := rc11) (hg0 := hG) (H := H0) (h := Fit.begin W)).mono fun e W' ⟨he, hF⟩ => ?_
  subst he
  have bel := hF.below
  exact ⟨_, rfl, _, _, _, [], _, [], hW', trodAll_mk1 (shut_bool Tryd.underlying4 _), trodAll_below (by kernel_rfl) bel (by kernel_rfl) hAll, rfl, bel.frame _, fun h => by cases h⟩
def cells0 : Array Value := (gl0.flatMap enc_T_anon155).toArray
noncomputable def laidWorld (os : Os) : World := { World.holding Tryd.prog os ⟨#[], #[], []⟩ with heap := (World.holding Tryd.prog os ⟨#[], #[], []⟩).heap.modify 0 (fun | .cells _ t frozen => .cells cells0 t frozen | o => o) }
theorem laid_met (os : Os) : laidMet Tryd.prog Rows.workerNewsUptoRow.laid ((laidWorld os).forCall (fun _ _ => 0) ⟨#[], #[.int .i64 0, .agg #[.slice none 0 0, .slice none 0 0, .int .i64 0, .int .i64 0, .int .i64 0, .int .i64 0, .slice none 0 0, .slice none 0 0]], []⟩).memory :=
  laidMet_of_run' 16 (by kernel_rfl) (by kernel_rfl)
theorem reads (os : Os) {H : Type} (enc : TypeId × Value → H) : ∃ places, DataW.whole enc Tryd.prog ((laidWorld os).forCall (fun _ _ => 0) ⟨#[], #[.int .i64 0, .agg #[.slice none 0 0, .slice none 0 0, .int .i64 0, .int .i64 0, .int .i64 0, .int .i64 0, .slice none 0 0, .slice none 0 0]], []⟩).memory Tryd.f3.params.toList Rows.workerNewsSpec.vars false (#[.int .i64 0, .agg #[.slice none 0 0, .slice none 0 0, .int .i64 0, .int .i64 0, .int .i64 0, .int .i64 0, .slice none 0 0, .slice none 0 0]] : Array Value).toList 16 = some ([.lit (.int .i64 0), .agg [.agg [.nil], .nil, .lit (.int .i64 0), .agg [.lit (.int .i64 0), .lit (.int .i64 0), .lit (.int .i64 0)], .agg [.nil, .nil]]], [], places) :=
  ⟨[], by kernel_rfl⟩
set_option maxRecDepth 100000 in
theorem lifted (os : Os) (started : os.Started) (H : Type) (enc : TypeId × Value → H) (F : Stop.Interp) :
    ReturnsInHanded {} Tryd.checked os 3 .any ((Rows.OpenSpec.upto Rows.workerNewsSpec).preRow enc Tryd.prog Tryd.f3 Rows.workerNewsUptoRow.domain false Rows.workerNewsUptoRow.laid) (((Rows.OpenSpec.upto Rows.workerNewsSpec).at F).post enc Tryd.prog Tryd.f3 false true false false) := by
  obtain ⟨places, hx⟩ := reads os enc
  refine returnsInHanded_of_row (C := Tryd.checked) (s := Rows.OpenSpec.upto Rows.workerNewsSpec) own started (by kernel_rfl) Tryd.func3
    (witness_row_at (enc := enc) (C := Tryd.checked) false (laidWorld os) #[.int .i64 0, .agg #[.slice none 0 0, .slice none 0 0, .int .i64 0, .int .i64 0, .int .i64 0, .int .i64 0, .slice none 0 0, .slice none 0 0]] rfl (by kernel_rfl) (by kernel_rfl) (by kernel_rfl)
      (OpenSpec.preRow_of_cond 16 hx (by kernel_rfl) (fun k hk => by cases hk; kernel_rfl) (by kernel_rfl) (laid_met os))) ?_
  intro W base args ds gs before hval hW _ hcond _ hL _ _
  exact contract H enc W base args ds gs before hval hW (hcond _ rfl) hL
theorem proved : Rows.WorkerNewsUptoSaid :=
  OpenClaim.holds_of_cond 3 Tryd.f3 rfl rfl rfl rfl rfl rfl rfl ⟨rfl, rfl, rfl, rfl, rfl⟩ rfl rfl rfl rfl rfl (by kernel_rfl) Tryd.func3 (by kernel_rfl)
    (of_decide_eq_true (by kernel_rfl)) (by unfold Func.isWrapper; first | (rw [if_pos (by decide +kernel)]; kernel_rfl) | (rw [if_neg (by decide +kernel)]; exact ⟨rfl, rfl⟩))
    (fun os started H enc _ F => by rw [OpenClaim.pre_eq_preRow]; exact lifted os started H enc F)
theorem plain (f : FuncId) (fn : Func) (hf : Tryd.pinned.checked.prog.funcNamed "plunder/plunderlaw11.WorkerNews" = some f) (hfn : Tryd.pinned.checked.prog.funcs[f]? = some fn) :
    true = Tryd.pinned.checked.prog.looks [] ∧ ∀ (j : Nat) t, fn.params[j]? = some t → Tryd.pinned.checked.prog.wantsStandIn t = false := by
  obtain rfl : f = 3 := Option.some.inj ((show Tryd.prog.funcNamed "plunder/plunderlaw11.WorkerNews" = some 3 by kernel_rfl).symm.trans hf) |>.symm
  obtain rfl : fn = Tryd.f3 := (Option.some.inj (Tryd.func3.symm.trans hfn)).symm
  refine ⟨by kernel_rfl, fun j t ht => ?_⟩
  rw [Tryd.params3] at ht
  have ht := Array.mem_of_getElem? ht
  simp only [List.mem_toArray, List.mem_cons, List.not_mem_nil, or_false] at ht
  rcases ht with rfl | rfl
  · exact (show Tryd.prog.wantsStandIn 3 = false by kernel_rfl)
  · exact (show Tryd.prog.wantsStandIn 32 = false by kernel_rfl)
theorem card : Rows.WorkerNewsUptoCardSaid :=
  Claim7.holds_tied_plain_at .later [] _ _ _ _ proved (fun _ h => by cases h) (by kernel_rfl) (fun _ h => by cases h) workerNewsUpto_row_tie rfl ⟨rfl, rfl⟩ (by kernel_rfl) rfl plain (by kernel_rfl)
#print axioms card
end Go.Proofs.YtpikpffbcjpmcaaDoor.workerNewsUptoRow
namespace Go.Proofs.YtpikpffbcjpmcaaDoor
/-- The card, under a short name, for the claim. -/
theorem workerNewsUpto_holds : Rows.WorkerNewsUptoCardSaid := workerNewsUptoRow.card
end Go.Proofs.YtpikpffbcjpmcaaDoor
