/- A function that defers; sync.Mutex in one goroutine; sync/atomic's calls: one rule for each. -/
import Derived.Test.YtpikpffbcjpmcaaDoorN
import Derived.Defers
import Derived.Laws.LoneSync
import Derived.Conc.MuLone
namespace Go.Proofs.YtpikpffbcjpmcaaDoor.GX
open Go Go.RowKit Go.Proofs.YtpikpffbcjpmcaaDoor.SL Go.MuLone Go.Conc.Locks
set_option linter.unusedVariables false
section
variable {P : Program} {ops : Array Oper} {Q : Exit → Act → World → Prop} {a : Act} {w w0 w1 z : World} {rest : List Oper} {o : Oper} {n d t : Nat} {v r u : Value} {l : List (Nat × Value)} {j e : Nat → Value} {L : List HProp} {Df : List Deferred} {f : FuncId} {args : Array Value}
/-! ### locks -/
/-! ### what is deferred -/
theorem op_defer {q : Deferred} (hw : Region.wanted o (yielded ops a.tmps) = true) (hd : o.dst = none) (hr : RepD Df n (lk l j) a) (hrun : (execOp (evE (lk l j)) o).run P w = .ok (.defer q) w)
    (k : ∀ a, RepD (q :: Df) n (lk l j) a → wpList P ops Q rest a w) : wpList P ops Q (o :: rest) a w := by
  refine step_on hw ?_
  unfold Oper.wp
  rw [hr.eval, hrun, Oper.upon_defer, hd]
  exact k _ ⟨hr.size, hr.get, by show _ :: a.defers = _; rw [hr.defers]⟩
theorem enterD {fn : Func} {c : Code} {R : Ending → World → Prop} (hf : P.funcs[f]? = some fn) (hb : fn.body = some c) (n : Nat) (hn : fn.ntmps = n) (hs : Nat.ble args.size n = true)
    (l : List (Nat × Value)) (hl : allEq (fun t => args.getD t undef) l) (k : ∀ j a, Rep n (lk l j) a → c.wp P (bodyPostD P fn R) a w) : Calls P f args w R := by
  refine calls_of_wp_defers hf hb (k (fun t => args.getD t undef) _ ?_)
  rw [lk_of_allEq hl]
  refine ⟨?_, fun t => getD_app args _ t, rfl⟩
  have := Nat.le_of_ble_eq_true hs
  simp [hn]
  omega
end
end Go.Proofs.YtpikpffbcjpmcaaDoor.GX
