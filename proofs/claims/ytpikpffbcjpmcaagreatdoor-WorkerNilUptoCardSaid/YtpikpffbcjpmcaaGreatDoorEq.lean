/- == of flat structs (numbers and bools). No program is named here. -/
import Derived.Test.YtpikpffbcjpmcaaGreatDoorGX
import Derived.Laws.StructEq
namespace Go.Proofs.YtpikpffbcjpmcaaGreatDoor.GX
open Go Go.RowKit Go.Proofs.YtpikpffbcjpmcaaGreatDoor.SL
def eqvs : List Value → List Value → Bool
  | .int _ a :: xs, .int _ b :: ys => (a == b) && eqvs xs ys
  | .bool a :: xs, .bool b :: ys => (a == b) && eqvs xs ys
  | _, _ => true
theorem eqvs_self : ∀ l : List Value, eqvs l l = true
  | [] => rfl
  | v :: l => by cases v <;> simp [eqvs, eqvs_self l]
def flatB (P : Program) : Nat → List Field → List Value → List Value → Bool
  | _, [], [], [] => true
  | i, f :: fs, .int k _ :: xs, .int k' _ :: ys => (f.name != "_") && f.offset == i && (match P.underlying f.type with | some (.int _) => true | _ => false) && k == k' && flatB P (i + 1) fs xs ys
  | i, f :: fs, .bool _ :: xs, .bool _ :: ys => (f.name != "_") && f.offset == i && (match P.underlying f.type with | some .bool => true | _ => false) && flatB P (i + 1) fs xs ys
  | _, _, _, _ => false
section
variable {P : Program} {w : World} {o : Oper} {e : Nat → Value}
theorem run_part1 {t : TypeId} {cs : Array Value} {i : Nat} {v : Value} (h : (match P.underlying t with | some (.int _) => true | some .bool => true | _ => false) = true) (hv : cs[i]? = some v) : (part t cs i).run P w = .ok v w := by
  have hu : ∃ d, P.underlying t = some d ∧ (∀ fs, d ≠ .struct fs) ∧ ∀ n q, d ≠ .array n q := by
    revert h
    cases hq : P.underlying t with
    | none => simp
    | some d => cases d <;> simp
  obtain ⟨d, hd, h1, h2⟩ := hu
  unfold part isAgg
  simp only [Sem.run_bind, run_underlying hd, Result.andThen_ok]
  cases d <;> simp_all
theorem flat_eq (d : Nat) (xs ys : Array Value) : ∀ (fs : List Field) (i : Nat) (us vs : List Value), flatB P i fs us vs = true → (∀ j, us[j]? = xs[i + j]? ∨ us.length ≤ j) → (∀ j, vs[j]? = ys[i + j]? ∨ vs.length ≤ j) →
    (Op.eqFields (d + 1) xs ys fs).run P w = .ok (eqvs us vs) w
  | [], _, [], [], _, _, _ => by simp [Op.eqFields, eqvs]
  | f :: fs, i, .int k a :: us, .int k' b :: vs, h, hx, hy => by
    simp only [flatB, Bool.and_eq_true, bne_iff_ne, ne_eq, beq_iff_eq] at h
    obtain ⟨⟨⟨⟨hn, ho⟩, ht⟩, hk⟩, hr⟩ := h
    subst hk
    have hx0 : xs[i]? = some (.int k a) := by rcases hx 0 with h | h; simpa using h.symm; simp at h
    have hy0 : ys[i]? = some (.int k b) := by rcases hy 0 with h | h; simpa using h.symm; simp at h
    have hty : ∃ kk, P.underlying f.type = some (.int kk) := by
      revert ht
      cases hq : P.underlying f.type with
      | none => simp
      | some d => cases d <;> simp
    obtain ⟨kk, hty⟩ := hty
    have ih := flat_eq d xs ys fs (i + 1) us vs hr (fun j => by rcases hx (j + 1) with h | h; left; simpa [Nat.add_comm, Nat.add_left_comm] using h; right; simpa using h) (fun j => by rcases hy (j + 1) with h | h; left; simpa [Nat.add_comm, Nat.add_left_comm] using h; right; simpa using h)
    have pa := run_part1 (P := P) (w := w) (t := f.type) (cs := xs) (i := f.offset) (v := .int k a) (by rw [hty]) (by rw [ho]; exact hx0)
    have pb := run_part1 (P := P) (w := w) (t := f.type) (cs := ys) (i := f.offset) (v := .int k b) (by rw [hty]) (by rw [ho]; exact hy0)
    rw [Op.eqFields]
    simp only [if_pos hn, Sem.run_bind, pa, pb, run_equalIn_int w d f.type k kk a b hty, Result.andThen_ok]
    cases hab : (a == b)
    · simp [eqvs, hab]
    · simp [eqvs, hab, ih]
  | f :: fs, i, .bool a :: us, .bool b :: vs, h, hx, hy => by
    simp only [flatB, Bool.and_eq_true, bne_iff_ne, ne_eq, beq_iff_eq] at h
    obtain ⟨⟨⟨hn, ho⟩, ht⟩, hr⟩ := h
    have hx0 : xs[i]? = some (.bool a) := by rcases hx 0 with h | h; simpa using h.symm; simp at h
    have hy0 : ys[i]? = some (.bool b) := by rcases hy 0 with h | h; simpa using h.symm; simp at h
    have hty : P.underlying f.type = some .bool := by
      revert ht
      cases hq : P.underlying f.type with
      | none => simp
      | some d => cases d <;> simp
    have ih := flat_eq d xs ys fs (i + 1) us vs hr (fun j => by rcases hx (j + 1) with h | h; left; simpa [Nat.add_comm, Nat.add_left_comm] using h; right; simpa using h) (fun j => by rcases hy (j + 1) with h | h; left; simpa [Nat.add_comm, Nat.add_left_comm] using h; right; simpa using h)
    have pa := run_part1 (P := P) (w := w) (t := f.type) (cs := xs) (i := f.offset) (v := .bool a) (by rw [hty]) (by rw [ho]; exact hx0)
    have pb := run_part1 (P := P) (w := w) (t := f.type) (cs := ys) (i := f.offset) (v := .bool b) (by rw [hty]) (by rw [ho]; exact hy0)
    rw [Op.eqFields]
    simp only [if_pos hn, Sem.run_bind, pa, pb, run_equalIn_bool' w d f.type a b hty, Result.andThen_ok]
    cases hab : (a == b)
    · simp [eqvs, hab]
    · simp [eqvs, hab, ih]
theorem req {x y : Operand} {us vs : List Value} {T T' : TypeId} (ho : o.op = .binOp .eql T x y T') (hx : evE e x = .agg us.toArray) (hy : evE e y = .agg vs.toArray) (hm : P.eqGuardType P.depth T = false) (hp : P.stoodInHeld T = false)
    (hu : P.underlying T = some (.struct (P.fieldsOf T))) (hf : flatB P 0 (P.fieldsOf T).toList us vs = true) : (execOp (evE e) o).run P w = .ok (.value (.bool (eqvs us vs))) w := by
  unfold execOp
  have h1 := run_equalIn_struct (P := P) w 9999 T us.toArray vs.toArray hu hp
  rw [flat_eq (P := P) (w := w) 9998 us.toArray vs.toArray (P.fieldsOf T).toList 0 us vs hf (fun j => by left; simp) (fun j => by left; simp)] at h1
  simp [ho, hx, hy, run_eqGuard_agg (P := P) w .eql T x y us.toArray vs.toArray hm, run_eql_struct, h1]
theorem rne {x y : Operand} {us vs : List Value} {T T' : TypeId} (ho : o.op = .binOp .neq T x y T') (hx : evE e x = .agg us.toArray) (hy : evE e y = .agg vs.toArray) (hm : P.eqGuardType P.depth T = false) (hp : P.stoodInHeld T = false)
    (hu : P.underlying T = some (.struct (P.fieldsOf T))) (hf : flatB P 0 (P.fieldsOf T).toList us vs = true) : (execOp (evE e) o).run P w = .ok (.value (.bool (!(eqvs us vs)))) w := by
  unfold execOp
  have h1 := run_equalIn_struct (P := P) w 9999 T us.toArray vs.toArray hu hp
  rw [flat_eq (P := P) (w := w) 9998 us.toArray vs.toArray (P.fieldsOf T).toList 0 us vs hf (fun j => by left; simp) (fun j => by left; simp)] at h1
  simp [ho, hx, hy, run_eqGuard_agg (P := P) w .neq T x y us.toArray vs.toArray hm, run_neq_struct, h1]
end
end Go.Proofs.YtpikpffbcjpmcaaGreatDoor.GX
