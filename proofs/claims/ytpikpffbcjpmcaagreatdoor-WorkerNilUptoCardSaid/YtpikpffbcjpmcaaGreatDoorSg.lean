/- An array that is a field: an index that is no literal; bits of numbers. No program is named here. -/
import Derived.Test.YtpikpffbcjpmcaaGreatDoorRn
namespace Go.Proofs.YtpikpffbcjpmcaaGreatDoor.GX
open Go Go.RowKit Go.Proofs.YtpikpffbcjpmcaaGreatDoor.SL
set_option linter.unusedVariables false
/-- ^ << >> of 64-bit numbers. -/
def bxor (x y : Int) : Int := IntKind.i64.wrap ((BitVec.ofInt 64 x ^^^ BitVec.ofInt 64 y).toNat)
def bshl (x y : Int) : Int := IntKind.i64.wrap (x * 2 ^ (min y.toNat 64))
def bshr (x y : Int) : Int := x.fdiv (2 ^ (min y.toNat 64))
section
variable {P : Program} {ops : Array Oper} {Q : Exit → Act → World → Prop} {a : Act} {w w0 w1 : World} {rest : List Oper} {o : Oper} {n d t : Nat} {v v1 : Value} {l : List (Nat × Value)} {j e : Nat → Value} {L : List HProp} {Df : List Deferred} {E : TypeId}
theorem rxor {x y : Operand} {p q : Int} {T T' : TypeId} (ho : o.op = .binOp .xor T x y T') (hx : evE e x = .int .i64 p) (hy : evE e y = .int .i64 q) : (execOp (evE e) o).run P w = .ok (.value (.int .i64 (bxor p q))) w := by
  unfold execOp
  simp [ho, hx, hy, eqGuard, binOp, Op.intBits]; rfl
theorem u64_nn (x : Int) : 0 ≤ IntKind.u64.wrap x := by
  simp only [IntKind.wrap, IntKind.min, IntKind.max, IntKind.signed, IntKind.bits]
  simp; omega
theorem rshl {x y : Operand} {p q : Int} {T T' : TypeId} (ho : o.op = .binOp .shl T x y T') (hx : evE e x = .int .i64 p) (hy : evE e y = .int .u64 q) (hq : 0 ≤ q) : (execOp (evE e) o).run P w = .ok (.value (.int .i64 (bshl p q))) w := by
  have h : ¬ q < 0 := by omega
  unfold execOp
  simp [ho, hx, hy, eqGuard, binOp, Op.shift, h]; rfl
theorem rshr {x y : Operand} {p q : Int} {T T' : TypeId} (ho : o.op = .binOp .shr T x y T') (hx : evE e x = .int .i64 p) (hy : evE e y = .int .u64 q) (hq : 0 ≤ q) : (execOp (evE e) o).run P w = .ok (.value (.int .i64 (bshr p q))) w := by
  have h : ¬ q < 0 := by omega
  unfold execOp
  simp [ho, hx, hy, eqGuard, binOp, Op.shift, h]; rfl
theorem ri_sg {x y : Operand} {k : IntKind} {i : Int} {b N off sz : Nat} {w' : World} (ho : o.op = .indexAddr t x y) (hx : evE e x = .pointer (some ⟨b, off, none⟩)) (hy : evE e y = .int k i)
    (ht : P.underlying t = some (.array N E)) (hs : (P.info? E).map (·.size) = some sz) (hi : inr_ i N) : (execOp (evE e) o).run P w' = .ok (.value (.pointer (some ⟨b, off + i.toNat * sz, none⟩))) w' := by
  unfold execOp
  have h0 := hi.1; have h1 := hi.2
  simp only [ho, hx, hy]
  cases hq : P.info? E with
  | none => simp [hq] at hs
  | some q =>
    simp [hq] at hs
    simp [Instr.indexAt, Instr.sureAddr, run_underlying ht, asIntOf, h0, h1, sizeOf, typeInfo, hq, hs, Addr.add_lit]
/-- an element of an array that is a value, at a number that is known -/
theorem r_ix {x y : Operand} {kd : IntKind} {i j : Int} {v : Value} {w : World} (ho : o.op = .index t x y) (hy : evE e y = .int kd i) (hi : i = j) (hrun : (Instr.index t (evE e x) (.int kd j)).run P w = .ok v w) : (execOp (evE e) o).run P w = .ok (.value v) w := by
  subst hi
  unfold execOp
  simp [ho, hy, hrun]
theorem ri_sgR {x y : Operand} {k : IntKind} {i : Int} {b N R off sz : Nat} {w' : World} (ho : o.op = .indexAddr t x y) (hx : evE e x = .pointer (some ⟨b, R + off, none⟩)) (hy : evE e y = .int k i)
    (ht : P.underlying t = some (.array N E)) (hs : (P.info? E).map (·.size) = some sz) (hi : inr_ i N) : (execOp (evE e) o).run P w' = .ok (.value (.pointer (some ⟨b, R + (off + i.toNat * sz), none⟩))) w' := by
  rw [← Nat.add_assoc]; exact ri_sg ho hx hy ht hs hi
end
section
variable {α : Type} [Inhabited α] {enc : α → List Value} {sz N : Nat} {C pre post : List Value} {l : List α} {o : Nat}
theorem sg_lt {i : Int} (h : inr_ i N) : i.toNat < N := by have h0 := h.1; have h1 := h.2; omega
theorem encA_get (he : Enc enc sz) {i f : Nat} (hi : i < N) {u : Value} (hu : (enc (at_ l i))[f]? = some u) : (encA N enc l)[i * sz + f]? = some u := by
  have hf : f < sz := by rw [← he.len (at_ l i)]; exact (List.getElem?_eq_some_iff.1 hu).1
  rw [encA_eq, he.get _ i f (at_ l i) (by simp [hi]) hf]; exact hu
theorem sg_get (hC : C = pre ++ (encA N enc l ++ post)) (he : Enc enc sz) (ho : pre.length = o) {i f : Nat} (hi : i < N) {u : Value} (hu : (enc (at_ l i))[f]? = some u) : C[o + i * sz + f]? = some u := by
  have h1 := encA_get (N := N) he hi hu
  have h2 : i * sz + f < (encA N enc l).length := (List.getElem?_eq_some_iff.1 h1).1
  rw [hC, List.getElem?_append_right (by omega), ho, show o + i * sz + f - o = i * sz + f by omega, List.getElem?_append_left h2]
  exact h1
theorem sg_held (hC : C = pre ++ (encA N enc l ++ post)) (he : Enc enc sz) (ho : pre.length = o) {i : Nat} (hi : i < N) {xs : List Value} (hx : enc (at_ l i) = xs) : (C.drop (o + i * sz)).take xs.length = xs := by
  subst hx
  apply List.ext_getElem?
  intro k
  rw [List.getElem?_take]
  by_cases hk : k < (enc (at_ l i)).length
  · rw [if_pos hk, List.getElem?_drop, sg_get hC he ho hi (List.getElem?_eq_getElem hk), List.getElem?_eq_getElem hk]
  · rw [if_neg hk, List.getElem?_eq_none (by omega)]
theorem sg_set {C' : List Value} (hC : C = pre ++ (encA N enc l ++ post)) (he : Enc enc sz) (ho : pre.length = o) {i : Nat} (hi : i < N) {y : α} {vs : List Value} (hy : enc y = vs) (hC' : C' = pre ++ (encA N enc (aset N l i y) ++ post)) : C' = C.take (o + i * sz) ++ vs ++ C.drop (o + i * sz + vs.length) := by
  have hl := (encA_ok N he l).len
  have hvs : vs.length = sz := by rw [← hy]; exact he.len y
  have hm : i * sz + sz ≤ N * sz := by
    have := Nat.mul_le_mul_right sz (show i + 1 ≤ N by omega)
    rw [Nat.succ_mul] at this; exact this
  have e1 : (pre ++ (encA N enc l ++ post)).take (o + i * sz) = pre ++ (encA N enc l).take (i * sz) := by
    rw [List.take_append, List.take_of_length_le (by omega), ho, show o + i * sz - o = i * sz by omega, List.take_append_of_le_length (by omega)]
  have e2 : (pre ++ (encA N enc l ++ post)).drop (o + i * sz + sz) = (encA N enc l).drop (i * sz + sz) ++ post := by
    rw [List.drop_append, List.drop_of_length_le (by omega), ho, show o + i * sz + sz - o = i * sz + sz by omega, List.nil_append, List.drop_append_of_le_length (by omega)]
  rw [hC', hC, encA_set he hi, ← hy, he.len y, e1, e2]
  simp only [List.append_assoc]
theorem sgA {C : List Value} {k : Nat} {u : Value} (h : C[k]? = some u) : C.toArray[k]? = some u := by simpa using h
theorem sg_le (hC : C = pre ++ (encA N enc l ++ post)) (he : Enc enc sz) (ho : pre.length = o) {i m : Nat} (hi : i < N) (hm : m ≤ sz) : o + i * sz + m ≤ C.length := by
  have hl := (encA_ok N he l).len
  have : i * sz + sz ≤ N * sz := by
    have := Nat.mul_le_mul_right sz (show i + 1 ≤ N by omega)
    rw [Nat.succ_mul] at this; exact this
  rw [hC, List.length_append, List.length_append, hl]; omega
/-- one cell an element -/
theorem sg_set1 {C' : List Value} {v : Value} (hC : C = pre ++ (encA N enc l ++ post)) (he : Enc enc 1) (ho : pre.length = o) {i : Nat} (hi : i < N) {y : α} (hy : enc y = [v]) (hC' : C' = pre ++ (encA N enc (aset N l i y) ++ post)) : C' = C.set (o + i * 1) v := by
  have h := sg_set hC he ho hi hy hC'
  have hl := sg_le (m := 1) hC he ho hi (Nat.le_refl _)
  rw [h, List.set_eq_take_append_cons_drop, if_pos (by omega)]
  simp
end
section
variable {P : Program} {ops : Array Oper} {Q : Exit → Act → World → Prop} {a : Act} {w w0 w1 : World} {rest : List Oper} {o : Oper} {n d t : Nat} {v v1 : Value} {l : List (Nat × Value)} {j e : Nat → Value} {L : List HProp} {Df : List Deferred} {E : TypeId}
theorem _root_.Go.Proofs.YtpikpffbcjpmcaaGreatDoor.SL.Fit.sg_pheld {b k : Nat} {C xs : List Value} {T : TypeId} (h : Fit w0 (sepL (pts b (.cells C.toArray T) :: L)) w) (hx : (C.drop k).take xs.length = xs) : heldC w b k xs := by
  refine heldC_mk xs _ fun q u hu => ?_
  rw [← hx, List.getElem?_take] at hu
  split at hu
  · rw [List.getElem?_drop] at hu
    exact h.cell (k + q) (by simpa using hu)
  · cases hu
theorem op_store_sg {x y : Operand} {b k : Nat} {C C' : List Value} {T : TypeId} {u : Value} (hw : Region.wanted o (yielded ops a.tmps) = true) (hd : o.dst = none) (hr : RepD Df n (lk l j) a) (ho : o.op = .store t x y)
    (hx : evE (lk l j) x = .pointer (some ⟨b, k, none⟩)) (hy : evE (lk l j) y = v) (hv : v.cells = #[v]) (h1 : v.oneCell' = true) (hs : (P.info? t).map (·.size) = some 1)
    (hF : Fit w0 (sepL (pts b (.cells C.toArray T) :: L)) w) (hk : C[k]? = some u) (hC : C' = C.set k v)
    (K : ∀ w1, Fit w0 (sepL (pts b (.cells C'.toArray T) :: L)) w1 → wpList P ops Q rest a w1) : wpList P ops Q (o :: rest) a w :=
  op_store hw hd hr ho hx hy hv h1 hs hF (by simpa using hk) fun w1 h => K w1 (by
    have e : C.toArray.setIfInBounds k v = C'.toArray := by rw [hC]; simp
    exact e ▸ h)
theorem op_stores_sg {x y : Operand} {b k : Nat} {C C' vs : List Value} {T : TypeId} (hw : Region.wanted o (yielded ops a.tmps) = true) (hd : o.dst = none) (hr : RepD Df n (lk l j) a) (ho : o.op = .store t x y)
    (hx : evE (lk l j) x = .pointer (some ⟨b, k, none⟩)) (hy : evE (lk l j) y = .agg vs.toArray) (h1 : vs.all (·.oneCell') = true) (hs : (P.info? t).map (·.size) = some vs.length)
    (hF : Fit w0 (sepL (pts b (.cells C.toArray T) :: L)) w) (hk : k + vs.length ≤ C.length) (hC : C' = C.take k ++ vs ++ C.drop (k + vs.length))
    (K : ∀ w1, Fit w0 (sepL (pts b (.cells C'.toArray T) :: L)) w1 → wpList P ops Q rest a w1) : wpList P ops Q (o :: rest) a w :=
  op_stores hw hd hr ho hx hy h1 (Nat.ble_eq_true_of_le (by simpa using hk)) hs hF (cs' := C'.toArray) (by rw [hC]) K
end
end Go.Proofs.YtpikpffbcjpmcaaGreatDoor.GX
