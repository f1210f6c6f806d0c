/- A function that defers; sync.Mutex in one goroutine; sync/atomic's calls: one rule for each. -/
import Derived.Test.YtpikpffbcjpmcaaGreatDoorN
import Derived.Defers
import Derived.Laws.LoneSync
import Derived.Conc.MuLone
namespace Go.Proofs.YtpikpffbcjpmcaaGreatDoor.GX
open Go Go.RowKit Go.Proofs.YtpikpffbcjpmcaaGreatDoor.SL Go.MuLone Go.Conc.Locks
set_option linter.unusedVariables false
section
variable {P : Program} {ops : Array Oper} {Q : Exit → Act → World → Prop} {a : Act} {w w0 w1 z : World} {rest : List Oper} {o : Oper} {n d t : Nat} {v r u : Value} {l : List (Nat × Value)} {j e : Nat → Value} {L : List HProp} {Df : List Deferred} {f : FuncId} {args : Array Value}
/-- A call of a function by its number. -/
theorem rcall {c : Call} {res : Result Next} (ho : o.op = .call c) (hc : c.callee = .value (.func f)) (ha : c.args.map (evE e) = args) (hr : (callFunc f args).run P w = res) : (execOp (evE e) o).run P w = res := by
  unfold execOp
  subst ha
  simp [ho, resolve, invoke, hc, evE, Deferred.ofValue, hr]
/-- An operation that turns one cell of a block, and yields a value. -/
theorem op_set_pts {b T i : Nat} {cs cs' : Array Value} (hw : Region.wanted o (yielded ops a.tmps) = true) (hd : o.dst = some d) (hn : Nat.blt d n = true) (hr : RepD Df n (lk l j) a) (h : Fit z (sepL (pts b (.cells cs T) :: L)) w) (v r : Value) (hc : cs[i]? = some u) (hcs : cs.setIfInBounds i v = cs')
    (hrun : (execOp (evE (lk l j)) o).run P w = .ok (.enter f args) w)
    (hcall : w.cell? ⟨b, i, none⟩ = some u → w.frozen? ⟨b, i, none⟩ = false → Calls P f args w fun e w' => e = .returned r ∧ w' = w.setCell ⟨b, i, none⟩ v)
    (k : ∀ w a, Fit z (sepL (pts b (.cells cs' T) :: L)) w → RepD Df n (lk ((d, r) :: l) j) a → wpList P ops Q rest a w) : wpList P ops Q (o :: rest) a w := by
  subst hcs
  refine op_call hw hd hn hr hrun (hcall (h.cell i hc) (h.free i)) ?_
  rintro e w1 ⟨rfl, rfl⟩
  exact ⟨_, rfl, fun a hr' => k _ a (h.set i v) hr'⟩
/-- .. one cell of a row. -/
theorem op_set_row {α : Type} {E sz n0 cc i q : Nat} {enc : α → List Value} {xs : List α} {ca : Option Addr} (hw : Region.wanted o (yielded ops a.tmps) = true) (hd : o.dst = some d) (hn : Nat.blt d n = true) (hr : RepD Df n (lk l j) a) (he : Enc enc sz)
    (h : Fit z (sepL (rowOf E sz enc (.slice ca n0 cc) xs :: L)) w) (v r : Value) {x y : α} (hx : xs[i]? = some x) (hu : (enc x)[q]? = some u) (hy : enc y = (enc x).set q v)
    (hrun : (execOp (evE (lk l j)) o).run P w = .ok (.enter f args) w)
    (hcall : w.cell? ⟨blk ca, i * sz + q, none⟩ = some u → w.frozen? ⟨blk ca, i * sz + q, none⟩ = false → Calls P f args w fun e w' => e = .returned r ∧ w' = w.setCell ⟨blk ca, i * sz + q, none⟩ v)
    (k : ∀ w a, Fit z (sepL (rowOf E sz enc (.slice ca n0 cc) (xs.set i y) :: L)) w → RepD Df n (lk ((d, r) :: l) j) a → wpList P ops Q rest a w) : wpList P ops Q (o :: rest) a w := by
  have hlt : i < xs.length := (List.getElem?_eq_some_iff.1 hx).1
  have hq : q < sz := by rw [← he.len x]; exact (List.getElem?_eq_some_iff.1 hu).1
  have hn0 := h.row_n
  obtain ⟨hca, hF⟩ := h.row_addr (by omega)
  refine op_call hw hd hn hr hrun (hcall (hF.slc_get he i q x u hx hu) (hF.slc_free _)) ?_
  rintro e w1 ⟨rfl, rfl⟩
  exact ⟨_, rfl, fun a hr' => k _ a ((hF.slc_set he i q x y v hx hq hy).row_again hca (by rw [List.length_set]; exact hn0)) hr'⟩
/-! ### locks -/
theorem op_lock {M : MuLink} (H : MuLib P M) {b T i : Nat} {cs cs' : Array Value} (hw : Region.wanted o (yielded ops a.tmps) = true) (hd : o.dst = some d) (hn : Nat.blt d n = true) (hr : RepD Df n (lk l j) a)
    (h : Fit z (sepL (pts b (.cells cs T) :: L)) w) (hc : cs[i]? = some (.int .i32 0)) (hcs : cs.setIfInBounds i (.int .i32 1) = cs') (hrun : (execOp (evE (lk l j)) o).run P w = .ok (.enter M.lock #[.pointer (some ⟨b, i, none⟩)]) w)
    (k : ∀ w a, Fit z (sepL (pts b (.cells cs' T) :: L)) w → RepD Df n (lk ((d, .tuple #[]) :: l) j) a → wpList P ops Q rest a w) : wpList P ops Q (o :: rest) a w := by
  subst hcs
  refine op_call hw hd hn hr hrun (lock_free H ⟨b, i, none⟩ w (h.cell i hc) (h.free i)) ?_
  rintro e w1 ⟨rfl, rfl⟩
  exact ⟨_, rfl, fun a hr' => k _ a (h.set i _) hr'⟩
theorem op_unlock {M : MuLink} (H : MuLib P M) {b T i : Nat} {cs cs' : Array Value} (hw : Region.wanted o (yielded ops a.tmps) = true) (hd : o.dst = some d) (hn : Nat.blt d n = true) (hr : RepD Df n (lk l j) a)
    (h : Fit z (sepL (pts b (.cells cs T) :: L)) w) (hc : cs[i]? = some (.int .i32 1)) (hcs : cs.setIfInBounds i (.int .i32 0) = cs') (hrun : (execOp (evE (lk l j)) o).run P w = .ok (.enter M.unlock #[.pointer (some ⟨b, i, none⟩)]) w)
    (k : ∀ w a, Fit z (sepL (pts b (.cells cs' T) :: L)) w → RepD Df n (lk ((d, .tuple #[]) :: l) j) a → wpList P ops Q rest a w) : wpList P ops Q (o :: rest) a w := by
  subst hcs
  refine op_call hw hd hn hr hrun (unlock_held H ⟨b, i, none⟩ w (h.cell i hc) (h.free i)) ?_
  rintro e w1 ⟨rfl, rfl⟩
  exact ⟨_, rfl, fun a hr' => k _ a (h.set i _) hr'⟩
/-! ### what is deferred -/
theorem op_defer {q : Deferred} (hw : Region.wanted o (yielded ops a.tmps) = true) (hd : o.dst = none) (hr : RepD Df n (lk l j) a) (hrun : (execOp (evE (lk l j)) o).run P w = .ok (.defer q) w)
    (k : ∀ a, RepD (q :: Df) n (lk l j) a → wpList P ops Q rest a w) : wpList P ops Q (o :: rest) a w := by
  refine step_on hw ?_
  unfold Oper.wp
  rw [hr.eval, hrun, Oper.upon_defer, hd]
  exact k _ ⟨hr.size, hr.get, by show _ :: a.defers = _; rw [hr.defers]⟩
theorem enterD {fn : Func} {c : Code} {R : Ending → World → Prop} (hf : P.funcs[f]? = some fn) (hb : fn.body = some c) (n : Nat) (hn : fn.ntmps = n) (hs : Nat.ble args.size n = true)
    (l : List (Nat × Value)) (hl : allEq (fun t => args.getD t undef) l) (k : ∀ j a, Rep n (lk l j) a → c.wp P (bodyPostD P fn R) a w) : Calls P f args w R := by
  refine calls_of_wp_defers hf hb (k (fun t => args.getD t undef) _ ?_)
  rw [lk_of_allEq hl]
  refine ⟨?_, fun t => getD_app args _ t, rfl⟩
  have := Nat.le_of_ble_eq_true hs
  simp [hn]
  omega
theorem endD_none {fn : Func} {R : Ending → World → Prop} {v : Value} (hr : RepD [] n e a) (hv : (results fn a.tmps).run P w = .ok v w) (h : R (.returned v) w) : bodyPostD P fn R .ret a w := by
  show Leaves P fn a.tmps R a.defers .returning w
  rw [hr.defers]
  exact ⟨v, hv, h⟩
theorem endD_unlock {M : MuLink} (H : MuLib P M) {b T i : Nat} {cs cs' : Array Value} {fn : Func} {R : Ending → World → Prop} {v : Value} (hr : RepD [{ target := .fn (.func M.unlock) #[], args := #[.pointer (some ⟨b, i, none⟩)] }] n e a) (hv : ∀ w, (results fn a.tmps).run P w = .ok v w) (he : ∀ w, (callFunc M.unlock #[.pointer (some ⟨b, i, none⟩)]).run P w = .ok (.enter M.unlock #[.pointer (some ⟨b, i, none⟩)]) w)
    (h : Fit z (sepL (pts b (.cells cs T) :: L)) w) (hc : cs[i]? = some (.int .i32 1)) (hcs : cs.setIfInBounds i (.int .i32 0) = cs') (k : ∀ w, Fit z (sepL (pts b (.cells cs' T) :: L)) w → R (.returned v) w) : bodyPostD P fn R .ret a w := by
  subst hcs
  show Leaves P fn a.tmps R a.defers .returning w
  rw [hr.defers]
  refine leaves_cons (f := M.unlock) (args := #[.pointer (some ⟨b, i, none⟩)]) (by simp) (by have := he w; simpa [invoke] using this) ?_
  refine (unlock_deferred H ⟨b, i, none⟩ .returning _ (h.cell i hc) (h.free i)).mono ?_
  rintro e u' w'' ⟨rfl, rfl, rfl⟩
  exact ⟨_, hv _, k _ (h.set i _)⟩
theorem res1 {fn : Func} {t : Nat} (hres : fn.results = #[.tmp t]) (hr : RepD Df n e a) (hv : e t = v) (w : World) : (results fn a.tmps).run P w = .ok v w := by rw [results_tmp hres, hr.get, hv]
theorem res2 {fn : Func} {t t' : Nat} {v' : Value} (hres : fn.results = #[.tmp t, .tmp t']) (hr : RepD Df n e a) (hv : e t = v) (hv' : e t' = v') (w : World) : (results fn a.tmps).run P w = .ok (.tuple #[v, v']) w := by rw [results_tmp2 hres, hr.get, hr.get, hv, hv']
theorem res0 {fn : Func} (hres : fn.results = #[]) (w : World) : (results fn a.tmps).run P w = .ok (.tuple #[]) w := results_none hres _ _ _
end
end Go.Proofs.YtpikpffbcjpmcaaGreatDoor.GX
