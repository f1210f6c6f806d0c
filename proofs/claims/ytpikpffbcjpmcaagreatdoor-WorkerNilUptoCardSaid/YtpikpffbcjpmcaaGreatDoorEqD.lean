/- == of structs within structs (numbers and bools at the end). No program is named here. -/
import Derived.Test.YtpikpffbcjpmcaaGreatDoorEq
import Derived.ChangeKeysEq
namespace Go.Proofs.YtpikpffbcjpmcaaGreatDoor.GX
open Go Go.RowKit Go.Proofs.YtpikpffbcjpmcaaGreatDoor.SL
set_option linter.unusedVariables false
def sameK1 : Value → Value → Bool
  | .int k _, .int k' _ => k == k'
  | .bool _, .bool _ => true
  | _, _ => false
def sameK : List Value → List Value → Bool
  | [], [] => true
  | u :: us, v :: vs => sameK1 u v && sameK us vs
  | _, _ => false
def headI : List Value → List Value → Bool
  | .int a _ :: _, .int b _ :: _ => a == b
  | _, _ => false
def headB : List Value → List Value → Bool
  | .bool _ :: _, .bool _ :: _ => true
  | _, _ => false
theorem headI_of {us vs : List Value} (h : headI us vs = true) : ∃ k x y us' vs', us = .int k x :: us' ∧ vs = .int k y :: vs' := by
  unfold headI at h
  split at h
  · simp only [beq_iff_eq] at h; subst h; exact ⟨_, _, _, _, _, rfl, rfl⟩
  · cases h
theorem headB_of {us vs : List Value} (h : headB us vs = true) : ∃ x y us' vs', us = .bool x :: us' ∧ vs = .bool y :: vs' := by
  unfold headB at h
  split at h
  · exact ⟨_, _, _, _, rfl, rfl⟩
  · cases h
theorem sameK1_of {u v : Value} (h : sameK1 u v = true) : (∃ k x y, u = .int k x ∧ v = .int k y) ∨ ∃ x y, u = .bool x ∧ v = .bool y := by
  unfold sameK1 at h
  split at h
  · simp only [beq_iff_eq] at h; subst h; exact .inl ⟨_, _, _, rfl, rfl⟩
  · exact .inr ⟨_, _, rfl, rfl⟩
  · cases h
def deepB (P : Program) : Nat → Nat → List Field → List Value → List Value → Bool
  | 0, _, _, _, _ => false
  | k + 1, i, fs, us, vs => match fs with
    | [] => us.isEmpty && vs.isEmpty
    | f :: fs => (f.name != "_") && f.offset == i && (match P.underlying f.type with
      | some (.int _) => headI us vs && deepB P k (i + 1) fs us.tail vs.tail
      | some .bool => headB us vs && deepB P k (i + 1) fs us.tail vs.tail
      | some (.struct _) => (P.info? f.type).isSome && !(P.stoodInHeld f.type) && Nat.ble (P.cellsOf f.type) us.length && Nat.ble (P.cellsOf f.type) vs.length
          && deepB P k 0 (P.fieldsOf f.type).toList (us.take (P.cellsOf f.type)) (vs.take (P.cellsOf f.type)) && deepB P k (i + P.cellsOf f.type) fs (us.drop (P.cellsOf f.type)) (vs.drop (P.cellsOf f.type))
      | _ => false)
theorem sameK_app : ∀ {a c b d : List Value}, sameK a c = true → sameK b d = true → sameK (a ++ b) (c ++ d) = true
  | [], [], _, _, _, h => h
  | u :: a, v :: c, _, _, h1, h => by
    simp only [sameK, Bool.and_eq_true] at h1
    simp only [List.cons_append, sameK, Bool.and_eq_true]
    exact ⟨h1.1, sameK_app h1.2 h⟩
theorem eqvs_app : ∀ {a c b d : List Value}, sameK a c = true → eqvs (a ++ b) (c ++ d) = (eqvs a c && eqvs b d)
  | [], [], _, _, _ => by simp [eqvs]
  | u :: a, v :: c, b, d, h => by
    simp only [sameK, Bool.and_eq_true] at h
    have ih := eqvs_app (b := b) (d := d) h.2
    rcases sameK1_of h.1 with ⟨k, x, y, rfl, rfl⟩ | ⟨x, y, rfl, rfl⟩
    · simp [eqvs, ih, Bool.and_assoc]
    · simp [eqvs, ih, Bool.and_assoc]
section
variable {P : Program} {w : World} {o : Oper} {e : Nat → Value}
theorem deepB_same : ∀ (k i : Nat) (fs : List Field) (us vs : List Value), deepB P k i fs us vs = true → sameK us vs = true
  | 0, _, _, _, _, h => by simp [deepB] at h
  | k + 1, _, [], us, vs, h => by
    simp only [deepB, Bool.and_eq_true, List.isEmpty_iff] at h
    obtain ⟨rfl, rfl⟩ := h
    rfl
  | k + 1, i, f :: fs, us, vs, h => by
    simp only [deepB, Bool.and_eq_true] at h
    obtain ⟨_, h⟩ := h
    split at h
    · simp only [Bool.and_eq_true] at h
      obtain ⟨kk, x, y, us', vs', rfl, rfl⟩ := headI_of h.1
      simp only [sameK, sameK1, beq_self_eq_true, Bool.true_and]
      exact deepB_same k _ _ _ _ h.2
    · simp only [Bool.and_eq_true] at h
      obtain ⟨x, y, us', vs', rfl, rfl⟩ := headB_of h.1
      simp only [sameK, sameK1, Bool.true_and]
      exact deepB_same k _ _ _ _ h.2
    · simp only [Bool.and_eq_true] at h
      have a := deepB_same k _ _ _ _ h.1.2
      have b := deepB_same k _ _ _ _ h.2
      have := sameK_app a b
      rwa [List.take_append_drop, List.take_append_drop] at this
    · cases h
theorem fieldsOf_of {t : TypeId} {gs : Array Field} (h : P.underlying t = some (.struct gs)) : P.fieldsOf t = gs := by
  unfold Program.fieldsOf
  rw [h]
theorem run_partS {t : TypeId} {gs : Array Field} {cs : Array Value} {i : Nat} (h : P.underlying t = some (.struct gs)) (hi : (P.info? t).isSome = true) : (part t cs i).run P w = .ok (.agg (cs.extract i (i + P.cellsOf t))) w := by
  obtain ⟨q, hq⟩ := Option.isSome_iff_exists.1 hi
  unfold part isAgg
  simp only [Sem.run_bind, run_underlying h, Result.andThen_ok, Sem.run_pure, if_true, run_sizeOf w hq]
theorem deep_eq : ∀ (k D i : Nat) (fs : List Field) (us vs : List Value) (xs ys : Array Value), deepB P k i fs us vs = true → k ≤ D → (∀ j, us[j]? = xs[i + j]? ∨ us.length ≤ j) → (∀ j, vs[j]? = ys[i + j]? ∨ vs.length ≤ j) →
    (Op.eqFields (D + 1) xs ys fs).run P w = .ok (eqvs us vs) w
  | 0, _, _, _, _, _, _, _, h, _, _, _ => by simp [deepB] at h
  | k + 1, _, _, [], us, vs, _, _, h, _, _, _ => by
    simp only [deepB, Bool.and_eq_true, List.isEmpty_iff] at h
    obtain ⟨rfl, rfl⟩ := h
    simp [Op.eqFields, eqvs]
  | k + 1, D, i, f :: fs, us, vs, xs, ys, h, hD, hx, hy => by
    simp only [deepB, Bool.and_eq_true, bne_iff_ne, ne_eq, beq_iff_eq] at h
    obtain ⟨⟨hn, ho⟩, h⟩ := h
    have step : ∀ (n : Nat) (zs : List Value) (cs : Array Value), (∀ j, zs[j]? = cs[i + j]? ∨ zs.length ≤ j) → ∀ j, (zs.drop n)[j]? = cs[i + n + j]? ∨ (zs.drop n).length ≤ j := fun n zs cs hz j => by
      rcases hz (n + j) with h | h
      · left; rw [List.getElem?_drop, h, Nat.add_assoc]
      · right; rw [List.length_drop]; omega
    split at h
    · rename_i kk hty
      simp only [Bool.and_eq_true] at h
      obtain ⟨a, x, y, us', vs', rfl, rfl⟩ := headI_of h.1
      have hx0 : xs[i]? = some (.int a x) := by rcases hx 0 with h | h; simpa using h.symm; simp at h
      have hy0 : ys[i]? = some (.int a y) := by rcases hy 0 with h | h; simpa using h.symm; simp at h
      have ih := deep_eq k D (i + 1) fs us' vs' xs ys h.2 (by omega) (by simpa using step 1 _ xs hx) (by simpa using step 1 _ ys hy)
      have pa := run_part1 (P := P) (w := w) (t := f.type) (cs := xs) (i := f.offset) (v := .int a x) (by rw [hty]) (by rw [ho]; exact hx0)
      have pb := run_part1 (P := P) (w := w) (t := f.type) (cs := ys) (i := f.offset) (v := .int a y) (by rw [hty]) (by rw [ho]; exact hy0)
      rw [Op.eqFields]
      simp only [if_pos hn, Sem.run_bind, pa, pb, run_equalIn_int w D f.type a kk x y hty, Result.andThen_ok]
      cases hab : (x == y)
      · simp [eqvs, hab]
      · simp [eqvs, hab, ih]
    · rename_i hty
      simp only [Bool.and_eq_true] at h
      obtain ⟨x, y, us', vs', rfl, rfl⟩ := headB_of h.1
      have hx0 : xs[i]? = some (.bool x) := by rcases hx 0 with h | h; simpa using h.symm; simp at h
      have hy0 : ys[i]? = some (.bool y) := by rcases hy 0 with h | h; simpa using h.symm; simp at h
      have ih := deep_eq k D (i + 1) fs us' vs' xs ys h.2 (by omega) (by simpa using step 1 _ xs hx) (by simpa using step 1 _ ys hy)
      have pa := run_part1 (P := P) (w := w) (t := f.type) (cs := xs) (i := f.offset) (v := .bool x) (by rw [hty]) (by rw [ho]; exact hx0)
      have pb := run_part1 (P := P) (w := w) (t := f.type) (cs := ys) (i := f.offset) (v := .bool y) (by rw [hty]) (by rw [ho]; exact hy0)
      rw [Op.eqFields]
      simp only [if_pos hn, Sem.run_bind, pa, pb, run_equalIn_bool' w D f.type x y hty, Result.andThen_ok]
      cases hab : (x == y)
      · simp [eqvs, hab]
      · simp [eqvs, hab, ih]
    · rename_i gs hty
      simp only [Bool.and_eq_true, Bool.not_eq_true', Nat.ble_eq] at h
      obtain ⟨⟨⟨⟨⟨hi, hp⟩, hu⟩, hv⟩, h1⟩, h2⟩ := h
      obtain ⟨D, rfl⟩ : ∃ m, D = m + 1 := ⟨D - 1, by omega⟩
      have cut : ∀ (zs : List Value) (cs : Array Value), P.cellsOf f.type ≤ zs.length → (∀ j, zs[j]? = cs[i + j]? ∨ zs.length ≤ j) → ∀ j, (zs.take (P.cellsOf f.type))[j]? = (cs.extract i (i + P.cellsOf f.type))[0 + j]? ∨ (zs.take (P.cellsOf f.type)).length ≤ j := fun zs cs hl hz j => by
        by_cases hj : j < P.cellsOf f.type
        · left
          rcases hz j with h | h
          · rw [List.getElem?_take, if_pos hj, h, Nat.zero_add, Array.getElem?_extract]
            split
            · rfl
            · rename_i hc
              refine Array.getElem?_eq_none ?_
              omega
          · omega
        · right; rw [List.length_take]; omega
      have ih1 := deep_eq k D 0 _ _ _ _ _ h1 (by omega) (cut us xs hu hx) (cut vs ys hv hy)
      have ih2 := deep_eq k (D + 1) (i + P.cellsOf f.type) fs _ _ xs ys h2 (by omega) (step _ _ xs hx) (step _ _ ys hy)
      have pa := run_partS (P := P) (w := w) (cs := xs) (i := f.offset) hty hi
      have pb := run_partS (P := P) (w := w) (cs := ys) (i := f.offset) hty hi
      have heq := run_equalIn_struct (P := P) w (D + 1) f.type (xs.extract i (i + P.cellsOf f.type)) (ys.extract i (i + P.cellsOf f.type)) (by rw [fieldsOf_of hty]; exact hty) hp
      rw [ih1] at heq
      have hs := eqvs_app (b := us.drop (P.cellsOf f.type)) (d := vs.drop (P.cellsOf f.type)) (deepB_same _ _ _ _ _ h1)
      rw [List.take_append_drop, List.take_append_drop] at hs
      rw [Op.eqFields, hs]
      rw [ho] at pa pb
      simp only [if_pos hn, Sem.run_bind, ho, pa, pb, heq, Result.andThen_ok]
      cases hab : eqvs (us.take (P.cellsOf f.type)) (vs.take (P.cellsOf f.type))
      · simp
      · simp [ih2]
    · cases h
theorem reqd {x y : Operand} {us vs : List Value} {T T' : TypeId} (ho : o.op = .binOp .eql T x y T') (hx : evE e x = .agg us.toArray) (hy : evE e y = .agg vs.toArray) (hm : P.eqGuardType P.depth T = false) (hp : P.stoodInHeld T = false)
    (hu : P.underlying T = some (.struct (P.fieldsOf T))) (hf : deepB P 64 0 (P.fieldsOf T).toList us vs = true) : (execOp (evE e) o).run P w = .ok (.value (.bool (eqvs us vs))) w := by
  unfold execOp
  have h1 := run_equalIn_struct (P := P) w 9999 T us.toArray vs.toArray hu hp
  rw [deep_eq (P := P) (w := w) 64 9998 0 (P.fieldsOf T).toList us vs us.toArray vs.toArray hf (by decide) (fun j => by left; simp) (fun j => by left; simp)] at h1
  simp [ho, hx, hy, run_eqGuard_agg (P := P) w .eql T x y us.toArray vs.toArray hm, run_eql_struct, h1]
theorem rned {x y : Operand} {us vs : List Value} {T T' : TypeId} (ho : o.op = .binOp .neq T x y T') (hx : evE e x = .agg us.toArray) (hy : evE e y = .agg vs.toArray) (hm : P.eqGuardType P.depth T = false) (hp : P.stoodInHeld T = false)
    (hu : P.underlying T = some (.struct (P.fieldsOf T))) (hf : deepB P 64 0 (P.fieldsOf T).toList us vs = true) : (execOp (evE e) o).run P w = .ok (.value (.bool (!(eqvs us vs)))) w := by
  unfold execOp
  have h1 := run_equalIn_struct (P := P) w 9999 T us.toArray vs.toArray hu hp
  rw [deep_eq (P := P) (w := w) 64 9998 0 (P.fieldsOf T).toList us vs us.toArray vs.toArray hf (by decide) (fun j => by left; simp) (fun j => by left; simp)] at h1
  simp [ho, hx, hy, run_eqGuard_agg (P := P) w .neq T x y us.toArray vs.toArray hm, run_neq_struct, h1]
end
end Go.Proofs.YtpikpffbcjpmcaaGreatDoor.GX
