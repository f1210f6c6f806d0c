/- An array inside an object: an index that is no literal. No program is named here. -/
import Derived.Test.YtnghahgfcaolbaaTw
namespace Go.Proofs.Ytnghahgfcaolbaa.GX
open Go Go.RowKit Go.Proofs.Ytnghahgfcaolbaa.SL
set_option linter.unusedVariables false
section
variable {P : Program} {ops : Array Oper} {Q : Exit → Act → World → Prop} {a : Act} {w w0 w1 : World} {rest : List Oper} {o : Oper} {n d t : Nat} {v v1 : Value} {l : List (Nat × Value)} {j e : Nat → Value} {L : List HProp} {H : HProp} {Df : List Deferred} {E : TypeId}
theorem ri_off {x y : Operand} {k : IntKind} {i : Int} {b N off : Nat} {w' : World} (ho : o.op = .indexAddr t x y) (hx : evE e x = .pointer (some ⟨b, off, none⟩)) (hy : evE e y = .int k i)
    (ht : P.underlying t = some (.array N E)) (hs : (P.info? E).map (·.size) = some 1) (hi : inr_ i N) : (execOp (evE e) o).run P w' = .ok (.value (.pointer (some ⟨b, off + i.toNat, none⟩))) w' := by
  unfold execOp
  have h0 := hi.1; have h1 := hi.2
  simp only [ho, hx, hy]
  cases hq : P.info? E with
  | none => simp [hq] at hs
  | some q =>
    simp [hq] at hs
    simp [Instr.indexAt, Instr.sureAddr, run_underlying ht, asIntOf, h0, h1, sizeOf, typeInfo, hq, hs, Addr.add_lit]
theorem inr_lt {i : Int} {N : Nat} (h : inr_ i N) : i.toNat < N := by have h0 := h.1; have h1 := h.2; omega
/-- The cell that is read. -/
theorem off_cell {cs : Array Value} {f : Nat → Value} {N off m : Nat} (hm : m < N) (hall : ∀ k, k < N → cs[off + k]? = some (f k)) : cs[off + m]? = some (f m) := hall m hm
/-- The cell that is written. -/
theorem op_store_off {x y : Operand} {b N off m : Nat} {cs : Array Value} {T : TypeId} {g : Nat → Array Value} {f : Nat → Value} (hw : Region.wanted o (yielded ops a.tmps) = true) (hd : o.dst = none) (hr : RepD Df n (lk l j) a) (ho : o.op = .store t x y)
    (hx : evE (lk l j) x = .pointer (some ⟨b, off + m, none⟩)) (hy : evE (lk l j) y = v) (hv : v.cells = #[v]) (h1 : v.oneCell' = true) (hs : (P.info? t).map (·.size) = some 1)
    (hF : Fit w0 (sepL (pts b (.cells cs T) :: L)) w) (hm : m < N) (hall : ∀ k, k < N → cs[off + k]? = some (f k)) (hset : ∀ k, k < N → cs.setIfInBounds (off + k) v = g k)
    (k : ∀ w1, Fit w0 (sepL (pts b (.cells (g m) T) :: L)) w1 → wpList P ops Q rest a w1) : wpList P ops Q (o :: rest) a w :=
  op_store hw hd hr ho hx hy hv h1 hs hF (hall m hm) fun w1 h => k w1 (hset m hm ▸ h)
end
end Go.Proofs.Ytnghahgfcaolbaa.GX
