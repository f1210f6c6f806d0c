/- The words of the models: what a function computes, told as a plain Lean function that answers an Option; rules for rows without opening them. No program is named here. -/
import Derived.Test.YtpikpffbcjpmcaaGreatDoorFlo
import Derived.Test.YtpikpffbcjpmcaaGreatDoorFull
import Derived.Test.YtpikpffbcjpmcaaGreatDoorEq
namespace Go.Proofs.YtpikpffbcjpmcaaGreatDoor.GX
open Go Go.RowKit Go.Proofs.YtpikpffbcjpmcaaGreatDoor.SL
set_option linter.unusedVariables false

/-! ### options -/
theorem gd {γ : Type} {p : Prop} [Decidable p] {x : Option γ} {r : γ} (h : (if p then x else none) = some r) : p ∧ x = some r := by
  by_cases c : p
  · rw [if_pos c] at h; exact ⟨c, h⟩
  · rw [if_neg c] at h; cases h
theorem ifT {γ : Type} {p : Prop} [Decidable p] {x y : Option γ} {r : γ} (c : p) (h : (if p then x else y) = some r) : x = some r := by rw [if_pos c] at h; exact h
theorem ifF {γ : Type} {p : Prop} [Decidable p] {x y : Option γ} {r : γ} (c : ¬ p) (h : (if p then x else y) = some r) : y = some r := by rw [if_neg c] at h; exact h
theorem bF {b : Bool} (h : ¬ b = true) : b = false := by cases b <;> simp_all
theorem sinj {γ : Type} {x y : γ} (h : some x = some y) : x = y := Option.some.inj h
theorem sinj' {γ : Type} {x y : γ} (h : some x = some y) : y = x := (Option.some.inj h).symm

def ob0  {γ : Type} (o : Option (Unit)) (f : Option γ) : Option γ := match o with | some () => f | none => none
@[simp] theorem ob0_some  {γ : Type}  (f : Option γ) : ob0 (some ()) f = f := rfl
@[simp] theorem ob0_none  {γ : Type} (f : Option γ) : ob0 none f = none := rfl
theorem bd0  {γ : Type} {o : Option (Unit)} {f : Option γ} {r : γ} (h : ob0 o f = some r) : o = some () ∧ f = some r := by
  match o, h with | some (), h => exact ⟨rfl, h⟩
def jn0  {γ : Type} (o : Option ((Unit) ⊕ γ)) (f : Option γ) : Option γ := match o with | some (.inl ()) => f | some (.inr r) => some r | none => none
@[simp] theorem jn0_inl  {γ : Type}  (f : Option γ) : jn0 (some (.inl ())) f = f := rfl
@[simp] theorem jn0_inr  {γ : Type} (r : γ) (f : Option γ) : jn0 (some (.inr r)) f = some r := rfl
@[simp] theorem jn0_none  {γ : Type} (f : Option γ) : jn0 none f = none := rfl
def jc0  {γ : Type} (o : (Unit) ⊕ γ) (f : Option γ) (r : γ) : Prop := match o with | .inl () => f = some r | .inr x => x = r
theorem jd0  {γ : Type} {o : Option ((Unit) ⊕ γ)} {f : Option γ} {r : γ} (h : jn0 o f = some r) : ∃ o', o = some o' ∧ jc0 o' f r := by
  match o, h with | some (.inl ()), h => exact ⟨_, rfl, h⟩ | some (.inr x), h => exact ⟨_, rfl, sinj h⟩
theorem jx0  {γ : Type} {o : (Unit) ⊕ γ} {f : Option γ} {r x : γ} (h : some (.inr x) = some o) (k : jc0 o f r) : some x = some r := by
  have e := sinj h; subst e; exact congrArg some k
def kc0  {γ : Type} (o : Unit) (f : Option γ) (r : γ) : Prop := match o with | () => f = some r
theorem kd0  {γ : Type} {o : Option (Unit)} {f : Option γ} {r : γ} (h : ob0 o f = some r) : ∃ o', o = some o' ∧ kc0 o' f r := by
  match o, h with | some (), h => exact ⟨_, rfl, h⟩
theorem jk0  {γ : Type} {f : Option γ} {r : γ}  (k : jc0 (γ := γ) (.inl ()) f r) : f = some r := k
theorem kk0  {γ : Type} {f : Option γ} {r : γ}  (k : kc0 (γ := γ) () f r) : f = some r := k
def ob1 {α0 : Type} {γ : Type} (o : Option (α0)) (f : α0 → Option γ) : Option γ := match o with | some x0 => f x0 | none => none
@[simp] theorem ob1_some {α0 : Type} {γ : Type} (x0 : α0) (f : α0 → Option γ) : ob1 (some x0) f = f x0 := rfl
@[simp] theorem ob1_none {α0 : Type} {γ : Type} (f : α0 → Option γ) : ob1 none f = none := rfl
theorem bd1 {α0 : Type} {γ : Type} {o : Option (α0)} {f : α0 → Option γ} {r : γ} (h : ob1 o f = some r) : ∃ x0, o = some x0 ∧ f x0 = some r := by
  match o, h with | some x0, h => exact ⟨x0, rfl, h⟩
theorem ej1 {α0 : Type} {x0 y0 : α0} (h : some x0 = some y0) : x0 = y0 := by
  exact Option.some.inj h
def jn1 {α0 : Type} {γ : Type} (o : Option ((α0) ⊕ γ)) (f : α0 → Option γ) : Option γ := match o with | some (.inl x0) => f x0 | some (.inr r) => some r | none => none
@[simp] theorem jn1_inl {α0 : Type} {γ : Type} (x0 : α0) (f : α0 → Option γ) : jn1 (some (.inl x0)) f = f x0 := rfl
@[simp] theorem jn1_inr {α0 : Type} {γ : Type} (r : γ) (f : α0 → Option γ) : jn1 (some (.inr r)) f = some r := rfl
@[simp] theorem jn1_none {α0 : Type} {γ : Type} (f : α0 → Option γ) : jn1 none f = none := rfl
def jc1 {α0 : Type} {γ : Type} (o : (α0) ⊕ γ) (f : α0 → Option γ) (r : γ) : Prop := match o with | .inl x0 => f x0 = some r | .inr x => x = r
theorem jd1 {α0 : Type} {γ : Type} {o : Option ((α0) ⊕ γ)} {f : α0 → Option γ} {r : γ} (h : jn1 o f = some r) : ∃ o', o = some o' ∧ jc1 o' f r := by
  match o, h with | some (.inl x0), h => exact ⟨_, rfl, h⟩ | some (.inr x), h => exact ⟨_, rfl, sinj h⟩
theorem jx1 {α0 : Type} {γ : Type} {o : (α0) ⊕ γ} {f : α0 → Option γ} {r x : γ} (h : some (.inr x) = some o) (k : jc1 o f r) : some x = some r := by
  have e := sinj h; subst e; exact congrArg some k
def kc1 {α0 : Type} {γ : Type} (o : α0) (f : α0 → Option γ) (r : γ) : Prop := match o with | x0 => f x0 = some r
theorem kd1 {α0 : Type} {γ : Type} {o : Option (α0)} {f : α0 → Option γ} {r : γ} (h : ob1 o f = some r) : ∃ o', o = some o' ∧ kc1 o' f r := by
  match o, h with | some x0, h => exact ⟨_, rfl, h⟩
theorem jk1 {α0 : Type} {γ : Type} {f : α0 → Option γ} {r : γ} {x0 : α0} (k : jc1 (γ := γ) (.inl x0) f r) : f x0 = some r := k
theorem kk1 {α0 : Type} {γ : Type} {f : α0 → Option γ} {r : γ} {x0 : α0} (k : kc1 (γ := γ) x0 f r) : f x0 = some r := k
def ob2 {α0 α1 : Type} {γ : Type} (o : Option (α0 × α1)) (f : α0 → α1 → Option γ) : Option γ := match o with | some (x0, x1) => f x0 x1 | none => none
@[simp] theorem ob2_some {α0 α1 : Type} {γ : Type} (x0 : α0) (x1 : α1) (f : α0 → α1 → Option γ) : ob2 (some (x0, x1)) f = f x0 x1 := rfl
@[simp] theorem ob2_none {α0 α1 : Type} {γ : Type} (f : α0 → α1 → Option γ) : ob2 none f = none := rfl
theorem bd2 {α0 α1 : Type} {γ : Type} {o : Option (α0 × α1)} {f : α0 → α1 → Option γ} {r : γ} (h : ob2 o f = some r) : ∃ x0 x1, o = some (x0, x1) ∧ f x0 x1 = some r := by
  match o, h with | some (x0, x1), h => exact ⟨x0, x1, rfl, h⟩
theorem ej2 {α0 α1 : Type} {x0 y0 : α0} {x1 y1 : α1} (h : some (x0, x1) = some (y0, y1)) : x0 = y0 ∧ x1 = y1 := by
  simpa using h
def jn2 {α0 α1 : Type} {γ : Type} (o : Option ((α0 × α1) ⊕ γ)) (f : α0 → α1 → Option γ) : Option γ := match o with | some (.inl (x0, x1)) => f x0 x1 | some (.inr r) => some r | none => none
@[simp] theorem jn2_inl {α0 α1 : Type} {γ : Type} (x0 : α0) (x1 : α1) (f : α0 → α1 → Option γ) : jn2 (some (.inl (x0, x1))) f = f x0 x1 := rfl
@[simp] theorem jn2_inr {α0 α1 : Type} {γ : Type} (r : γ) (f : α0 → α1 → Option γ) : jn2 (some (.inr r)) f = some r := rfl
@[simp] theorem jn2_none {α0 α1 : Type} {γ : Type} (f : α0 → α1 → Option γ) : jn2 none f = none := rfl
def jc2 {α0 α1 : Type} {γ : Type} (o : (α0 × α1) ⊕ γ) (f : α0 → α1 → Option γ) (r : γ) : Prop := match o with | .inl (x0, x1) => f x0 x1 = some r | .inr x => x = r
theorem jd2 {α0 α1 : Type} {γ : Type} {o : Option ((α0 × α1) ⊕ γ)} {f : α0 → α1 → Option γ} {r : γ} (h : jn2 o f = some r) : ∃ o', o = some o' ∧ jc2 o' f r := by
  match o, h with | some (.inl (x0, x1)), h => exact ⟨_, rfl, h⟩ | some (.inr x), h => exact ⟨_, rfl, sinj h⟩
theorem jx2 {α0 α1 : Type} {γ : Type} {o : (α0 × α1) ⊕ γ} {f : α0 → α1 → Option γ} {r x : γ} (h : some (.inr x) = some o) (k : jc2 o f r) : some x = some r := by
  have e := sinj h; subst e; exact congrArg some k
def kc2 {α0 α1 : Type} {γ : Type} (o : α0 × α1) (f : α0 → α1 → Option γ) (r : γ) : Prop := match o with | (x0, x1) => f x0 x1 = some r
theorem kd2 {α0 α1 : Type} {γ : Type} {o : Option (α0 × α1)} {f : α0 → α1 → Option γ} {r : γ} (h : ob2 o f = some r) : ∃ o', o = some o' ∧ kc2 o' f r := by
  match o, h with | some (x0, x1), h => exact ⟨_, rfl, h⟩
theorem jk2 {α0 α1 : Type} {γ : Type} {f : α0 → α1 → Option γ} {r : γ} {x0 : α0} {x1 : α1} (k : jc2 (γ := γ) (.inl (x0, x1)) f r) : f x0 x1 = some r := k
theorem kk2 {α0 α1 : Type} {γ : Type} {f : α0 → α1 → Option γ} {r : γ} {x0 : α0} {x1 : α1} (k : kc2 (γ := γ) (x0, x1) f r) : f x0 x1 = some r := k
def ob3 {α0 α1 α2 : Type} {γ : Type} (o : Option (α0 × α1 × α2)) (f : α0 → α1 → α2 → Option γ) : Option γ := match o with | some (x0, x1, x2) => f x0 x1 x2 | none => none
@[simp] theorem ob3_some {α0 α1 α2 : Type} {γ : Type} (x0 : α0) (x1 : α1) (x2 : α2) (f : α0 → α1 → α2 → Option γ) : ob3 (some (x0, x1, x2)) f = f x0 x1 x2 := rfl
@[simp] theorem ob3_none {α0 α1 α2 : Type} {γ : Type} (f : α0 → α1 → α2 → Option γ) : ob3 none f = none := rfl
theorem bd3 {α0 α1 α2 : Type} {γ : Type} {o : Option (α0 × α1 × α2)} {f : α0 → α1 → α2 → Option γ} {r : γ} (h : ob3 o f = some r) : ∃ x0 x1 x2, o = some (x0, x1, x2) ∧ f x0 x1 x2 = some r := by
  match o, h with | some (x0, x1, x2), h => exact ⟨x0, x1, x2, rfl, h⟩
theorem ej3 {α0 α1 α2 : Type} {x0 y0 : α0} {x1 y1 : α1} {x2 y2 : α2} (h : some (x0, x1, x2) = some (y0, y1, y2)) : x0 = y0 ∧ x1 = y1 ∧ x2 = y2 := by
  simpa using h
def jn3 {α0 α1 α2 : Type} {γ : Type} (o : Option ((α0 × α1 × α2) ⊕ γ)) (f : α0 → α1 → α2 → Option γ) : Option γ := match o with | some (.inl (x0, x1, x2)) => f x0 x1 x2 | some (.inr r) => some r | none => none
@[simp] theorem jn3_inl {α0 α1 α2 : Type} {γ : Type} (x0 : α0) (x1 : α1) (x2 : α2) (f : α0 → α1 → α2 → Option γ) : jn3 (some (.inl (x0, x1, x2))) f = f x0 x1 x2 := rfl
@[simp] theorem jn3_inr {α0 α1 α2 : Type} {γ : Type} (r : γ) (f : α0 → α1 → α2 → Option γ) : jn3 (some (.inr r)) f = some r := rfl
@[simp] theorem jn3_none {α0 α1 α2 : Type} {γ : Type} (f : α0 → α1 → α2 → Option γ) : jn3 none f = none := rfl
def jc3 {α0 α1 α2 : Type} {γ : Type} (o : (α0 × α1 × α2) ⊕ γ) (f : α0 → α1 → α2 → Option γ) (r : γ) : Prop := match o with | .inl (x0, x1, x2) => f x0 x1 x2 = some r | .inr x => x = r
theorem jd3 {α0 α1 α2 : Type} {γ : Type} {o : Option ((α0 × α1 × α2) ⊕ γ)} {f : α0 → α1 → α2 → Option γ} {r : γ} (h : jn3 o f = some r) : ∃ o', o = some o' ∧ jc3 o' f r := by
  match o, h with | some (.inl (x0, x1, x2)), h => exact ⟨_, rfl, h⟩ | some (.inr x), h => exact ⟨_, rfl, sinj h⟩
theorem jx3 {α0 α1 α2 : Type} {γ : Type} {o : (α0 × α1 × α2) ⊕ γ} {f : α0 → α1 → α2 → Option γ} {r x : γ} (h : some (.inr x) = some o) (k : jc3 o f r) : some x = some r := by
  have e := sinj h; subst e; exact congrArg some k
def kc3 {α0 α1 α2 : Type} {γ : Type} (o : α0 × α1 × α2) (f : α0 → α1 → α2 → Option γ) (r : γ) : Prop := match o with | (x0, x1, x2) => f x0 x1 x2 = some r
theorem kd3 {α0 α1 α2 : Type} {γ : Type} {o : Option (α0 × α1 × α2)} {f : α0 → α1 → α2 → Option γ} {r : γ} (h : ob3 o f = some r) : ∃ o', o = some o' ∧ kc3 o' f r := by
  match o, h with | some (x0, x1, x2), h => exact ⟨_, rfl, h⟩
theorem jk3 {α0 α1 α2 : Type} {γ : Type} {f : α0 → α1 → α2 → Option γ} {r : γ} {x0 : α0} {x1 : α1} {x2 : α2} (k : jc3 (γ := γ) (.inl (x0, x1, x2)) f r) : f x0 x1 x2 = some r := k
theorem kk3 {α0 α1 α2 : Type} {γ : Type} {f : α0 → α1 → α2 → Option γ} {r : γ} {x0 : α0} {x1 : α1} {x2 : α2} (k : kc3 (γ := γ) (x0, x1, x2) f r) : f x0 x1 x2 = some r := k
def ob4 {α0 α1 α2 α3 : Type} {γ : Type} (o : Option (α0 × α1 × α2 × α3)) (f : α0 → α1 → α2 → α3 → Option γ) : Option γ := match o with | some (x0, x1, x2, x3) => f x0 x1 x2 x3 | none => none
@[simp] theorem ob4_some {α0 α1 α2 α3 : Type} {γ : Type} (x0 : α0) (x1 : α1) (x2 : α2) (x3 : α3) (f : α0 → α1 → α2 → α3 → Option γ) : ob4 (some (x0, x1, x2, x3)) f = f x0 x1 x2 x3 := rfl
@[simp] theorem ob4_none {α0 α1 α2 α3 : Type} {γ : Type} (f : α0 → α1 → α2 → α3 → Option γ) : ob4 none f = none := rfl
theorem bd4 {α0 α1 α2 α3 : Type} {γ : Type} {o : Option (α0 × α1 × α2 × α3)} {f : α0 → α1 → α2 → α3 → Option γ} {r : γ} (h : ob4 o f = some r) : ∃ x0 x1 x2 x3, o = some (x0, x1, x2, x3) ∧ f x0 x1 x2 x3 = some r := by
  match o, h with | some (x0, x1, x2, x3), h => exact ⟨x0, x1, x2, x3, rfl, h⟩
theorem ej4 {α0 α1 α2 α3 : Type} {x0 y0 : α0} {x1 y1 : α1} {x2 y2 : α2} {x3 y3 : α3} (h : some (x0, x1, x2, x3) = some (y0, y1, y2, y3)) : x0 = y0 ∧ x1 = y1 ∧ x2 = y2 ∧ x3 = y3 := by
  simpa using h
def jn4 {α0 α1 α2 α3 : Type} {γ : Type} (o : Option ((α0 × α1 × α2 × α3) ⊕ γ)) (f : α0 → α1 → α2 → α3 → Option γ) : Option γ := match o with | some (.inl (x0, x1, x2, x3)) => f x0 x1 x2 x3 | some (.inr r) => some r | none => none
@[simp] theorem jn4_inl {α0 α1 α2 α3 : Type} {γ : Type} (x0 : α0) (x1 : α1) (x2 : α2) (x3 : α3) (f : α0 → α1 → α2 → α3 → Option γ) : jn4 (some (.inl (x0, x1, x2, x3))) f = f x0 x1 x2 x3 := rfl
@[simp] theorem jn4_inr {α0 α1 α2 α3 : Type} {γ : Type} (r : γ) (f : α0 → α1 → α2 → α3 → Option γ) : jn4 (some (.inr r)) f = some r := rfl
@[simp] theorem jn4_none {α0 α1 α2 α3 : Type} {γ : Type} (f : α0 → α1 → α2 → α3 → Option γ) : jn4 none f = none := rfl
def jc4 {α0 α1 α2 α3 : Type} {γ : Type} (o : (α0 × α1 × α2 × α3) ⊕ γ) (f : α0 → α1 → α2 → α3 → Option γ) (r : γ) : Prop := match o with | .inl (x0, x1, x2, x3) => f x0 x1 x2 x3 = some r | .inr x => x = r
theorem jd4 {α0 α1 α2 α3 : Type} {γ : Type} {o : Option ((α0 × α1 × α2 × α3) ⊕ γ)} {f : α0 → α1 → α2 → α3 → Option γ} {r : γ} (h : jn4 o f = some r) : ∃ o', o = some o' ∧ jc4 o' f r := by
  match o, h with | some (.inl (x0, x1, x2, x3)), h => exact ⟨_, rfl, h⟩ | some (.inr x), h => exact ⟨_, rfl, sinj h⟩
theorem jx4 {α0 α1 α2 α3 : Type} {γ : Type} {o : (α0 × α1 × α2 × α3) ⊕ γ} {f : α0 → α1 → α2 → α3 → Option γ} {r x : γ} (h : some (.inr x) = some o) (k : jc4 o f r) : some x = some r := by
  have e := sinj h; subst e; exact congrArg some k
def kc4 {α0 α1 α2 α3 : Type} {γ : Type} (o : α0 × α1 × α2 × α3) (f : α0 → α1 → α2 → α3 → Option γ) (r : γ) : Prop := match o with | (x0, x1, x2, x3) => f x0 x1 x2 x3 = some r
theorem kd4 {α0 α1 α2 α3 : Type} {γ : Type} {o : Option (α0 × α1 × α2 × α3)} {f : α0 → α1 → α2 → α3 → Option γ} {r : γ} (h : ob4 o f = some r) : ∃ o', o = some o' ∧ kc4 o' f r := by
  match o, h with | some (x0, x1, x2, x3), h => exact ⟨_, rfl, h⟩
theorem jk4 {α0 α1 α2 α3 : Type} {γ : Type} {f : α0 → α1 → α2 → α3 → Option γ} {r : γ} {x0 : α0} {x1 : α1} {x2 : α2} {x3 : α3} (k : jc4 (γ := γ) (.inl (x0, x1, x2, x3)) f r) : f x0 x1 x2 x3 = some r := k
theorem kk4 {α0 α1 α2 α3 : Type} {γ : Type} {f : α0 → α1 → α2 → α3 → Option γ} {r : γ} {x0 : α0} {x1 : α1} {x2 : α2} {x3 : α3} (k : kc4 (γ := γ) (x0, x1, x2, x3) f r) : f x0 x1 x2 x3 = some r := k
def ob5 {α0 α1 α2 α3 α4 : Type} {γ : Type} (o : Option (α0 × α1 × α2 × α3 × α4)) (f : α0 → α1 → α2 → α3 → α4 → Option γ) : Option γ := match o with | some (x0, x1, x2, x3, x4) => f x0 x1 x2 x3 x4 | none => none
@[simp] theorem ob5_some {α0 α1 α2 α3 α4 : Type} {γ : Type} (x0 : α0) (x1 : α1) (x2 : α2) (x3 : α3) (x4 : α4) (f : α0 → α1 → α2 → α3 → α4 → Option γ) : ob5 (some (x0, x1, x2, x3, x4)) f = f x0 x1 x2 x3 x4 := rfl
@[simp] theorem ob5_none {α0 α1 α2 α3 α4 : Type} {γ : Type} (f : α0 → α1 → α2 → α3 → α4 → Option γ) : ob5 none f = none := rfl
theorem bd5 {α0 α1 α2 α3 α4 : Type} {γ : Type} {o : Option (α0 × α1 × α2 × α3 × α4)} {f : α0 → α1 → α2 → α3 → α4 → Option γ} {r : γ} (h : ob5 o f = some r) : ∃ x0 x1 x2 x3 x4, o = some (x0, x1, x2, x3, x4) ∧ f x0 x1 x2 x3 x4 = some r := by
  match o, h with | some (x0, x1, x2, x3, x4), h => exact ⟨x0, x1, x2, x3, x4, rfl, h⟩
theorem ej5 {α0 α1 α2 α3 α4 : Type} {x0 y0 : α0} {x1 y1 : α1} {x2 y2 : α2} {x3 y3 : α3} {x4 y4 : α4} (h : some (x0, x1, x2, x3, x4) = some (y0, y1, y2, y3, y4)) : x0 = y0 ∧ x1 = y1 ∧ x2 = y2 ∧ x3 = y3 ∧ x4 = y4 := by
  simpa using h
def jn5 {α0 α1 α2 α3 α4 : Type} {γ : Type} (o : Option ((α0 × α1 × α2 × α3 × α4) ⊕ γ)) (f : α0 → α1 → α2 → α3 → α4 → Option γ) : Option γ := match o with | some (.inl (x0, x1, x2, x3, x4)) => f x0 x1 x2 x3 x4 | some (.inr r) => some r | none => none
@[simp] theorem jn5_inl {α0 α1 α2 α3 α4 : Type} {γ : Type} (x0 : α0) (x1 : α1) (x2 : α2) (x3 : α3) (x4 : α4) (f : α0 → α1 → α2 → α3 → α4 → Option γ) : jn5 (some (.inl (x0, x1, x2, x3, x4))) f = f x0 x1 x2 x3 x4 := rfl
@[simp] theorem jn5_inr {α0 α1 α2 α3 α4 : Type} {γ : Type} (r : γ) (f : α0 → α1 → α2 → α3 → α4 → Option γ) : jn5 (some (.inr r)) f = some r := rfl
@[simp] theorem jn5_none {α0 α1 α2 α3 α4 : Type} {γ : Type} (f : α0 → α1 → α2 → α3 → α4 → Option γ) : jn5 none f = none := rfl
def jc5 {α0 α1 α2 α3 α4 : Type} {γ : Type} (o : (α0 × α1 × α2 × α3 × α4) ⊕ γ) (f : α0 → α1 → α2 → α3 → α4 → Option γ) (r : γ) : Prop := match o with | .inl (x0, x1, x2, x3, x4) => f x0 x1 x2 x3 x4 = some r | .inr x => x = r
theorem jd5 {α0 α1 α2 α3 α4 : Type} {γ : Type} {o : Option ((α0 × α1 × α2 × α3 × α4) ⊕ γ)} {f : α0 → α1 → α2 → α3 → α4 → Option γ} {r : γ} (h : jn5 o f = some r) : ∃ o', o = some o' ∧ jc5 o' f r := by
  match o, h with | some (.inl (x0, x1, x2, x3, x4)), h => exact ⟨_, rfl, h⟩ | some (.inr x), h => exact ⟨_, rfl, sinj h⟩
theorem jx5 {α0 α1 α2 α3 α4 : Type} {γ : Type} {o : (α0 × α1 × α2 × α3 × α4) ⊕ γ} {f : α0 → α1 → α2 → α3 → α4 → Option γ} {r x : γ} (h : some (.inr x) = some o) (k : jc5 o f r) : some x = some r := by
  have e := sinj h; subst e; exact congrArg some k
def kc5 {α0 α1 α2 α3 α4 : Type} {γ : Type} (o : α0 × α1 × α2 × α3 × α4) (f : α0 → α1 → α2 → α3 → α4 → Option γ) (r : γ) : Prop := match o with | (x0, x1, x2, x3, x4) => f x0 x1 x2 x3 x4 = some r
theorem kd5 {α0 α1 α2 α3 α4 : Type} {γ : Type} {o : Option (α0 × α1 × α2 × α3 × α4)} {f : α0 → α1 → α2 → α3 → α4 → Option γ} {r : γ} (h : ob5 o f = some r) : ∃ o', o = some o' ∧ kc5 o' f r := by
  match o, h with | some (x0, x1, x2, x3, x4), h => exact ⟨_, rfl, h⟩
theorem jk5 {α0 α1 α2 α3 α4 : Type} {γ : Type} {f : α0 → α1 → α2 → α3 → α4 → Option γ} {r : γ} {x0 : α0} {x1 : α1} {x2 : α2} {x3 : α3} {x4 : α4} (k : jc5 (γ := γ) (.inl (x0, x1, x2, x3, x4)) f r) : f x0 x1 x2 x3 x4 = some r := k
theorem kk5 {α0 α1 α2 α3 α4 : Type} {γ : Type} {f : α0 → α1 → α2 → α3 → α4 → Option γ} {r : γ} {x0 : α0} {x1 : α1} {x2 : α2} {x3 : α3} {x4 : α4} (k : kc5 (γ := γ) (x0, x1, x2, x3, x4) f r) : f x0 x1 x2 x3 x4 = some r := k
def ob6 {α0 α1 α2 α3 α4 α5 : Type} {γ : Type} (o : Option (α0 × α1 × α2 × α3 × α4 × α5)) (f : α0 → α1 → α2 → α3 → α4 → α5 → Option γ) : Option γ := match o with | some (x0, x1, x2, x3, x4, x5) => f x0 x1 x2 x3 x4 x5 | none => none
@[simp] theorem ob6_some {α0 α1 α2 α3 α4 α5 : Type} {γ : Type} (x0 : α0) (x1 : α1) (x2 : α2) (x3 : α3) (x4 : α4) (x5 : α5) (f : α0 → α1 → α2 → α3 → α4 → α5 → Option γ) : ob6 (some (x0, x1, x2, x3, x4, x5)) f = f x0 x1 x2 x3 x4 x5 := rfl
@[simp] theorem ob6_none {α0 α1 α2 α3 α4 α5 : Type} {γ : Type} (f : α0 → α1 → α2 → α3 → α4 → α5 → Option γ) : ob6 none f = none := rfl
theorem bd6 {α0 α1 α2 α3 α4 α5 : Type} {γ : Type} {o : Option (α0 × α1 × α2 × α3 × α4 × α5)} {f : α0 → α1 → α2 → α3 → α4 → α5 → Option γ} {r : γ} (h : ob6 o f = some r) : ∃ x0 x1 x2 x3 x4 x5, o = some (x0, x1, x2, x3, x4, x5) ∧ f x0 x1 x2 x3 x4 x5 = some r := by
  match o, h with | some (x0, x1, x2, x3, x4, x5), h => exact ⟨x0, x1, x2, x3, x4, x5, rfl, h⟩
theorem ej6 {α0 α1 α2 α3 α4 α5 : Type} {x0 y0 : α0} {x1 y1 : α1} {x2 y2 : α2} {x3 y3 : α3} {x4 y4 : α4} {x5 y5 : α5} (h : some (x0, x1, x2, x3, x4, x5) = some (y0, y1, y2, y3, y4, y5)) : x0 = y0 ∧ x1 = y1 ∧ x2 = y2 ∧ x3 = y3 ∧ x4 = y4 ∧ x5 = y5 := by
  simpa using h
def jn6 {α0 α1 α2 α3 α4 α5 : Type} {γ : Type} (o : Option ((α0 × α1 × α2 × α3 × α4 × α5) ⊕ γ)) (f : α0 → α1 → α2 → α3 → α4 → α5 → Option γ) : Option γ := match o with | some (.inl (x0, x1, x2, x3, x4, x5)) => f x0 x1 x2 x3 x4 x5 | some (.inr r) => some r | none => none
@[simp] theorem jn6_inl {α0 α1 α2 α3 α4 α5 : Type} {γ : Type} (x0 : α0) (x1 : α1) (x2 : α2) (x3 : α3) (x4 : α4) (x5 : α5) (f : α0 → α1 → α2 → α3 → α4 → α5 → Option γ) : jn6 (some (.inl (x0, x1, x2, x3, x4, x5))) f = f x0 x1 x2 x3 x4 x5 := rfl
@[simp] theorem jn6_inr {α0 α1 α2 α3 α4 α5 : Type} {γ : Type} (r : γ) (f : α0 → α1 → α2 → α3 → α4 → α5 → Option γ) : jn6 (some (.inr r)) f = some r := rfl
@[simp] theorem jn6_none {α0 α1 α2 α3 α4 α5 : Type} {γ : Type} (f : α0 → α1 → α2 → α3 → α4 → α5 → Option γ) : jn6 none f = none := rfl
def jc6 {α0 α1 α2 α3 α4 α5 : Type} {γ : Type} (o : (α0 × α1 × α2 × α3 × α4 × α5) ⊕ γ) (f : α0 → α1 → α2 → α3 → α4 → α5 → Option γ) (r : γ) : Prop := match o with | .inl (x0, x1, x2, x3, x4, x5) => f x0 x1 x2 x3 x4 x5 = some r | .inr x => x = r
theorem jd6 {α0 α1 α2 α3 α4 α5 : Type} {γ : Type} {o : Option ((α0 × α1 × α2 × α3 × α4 × α5) ⊕ γ)} {f : α0 → α1 → α2 → α3 → α4 → α5 → Option γ} {r : γ} (h : jn6 o f = some r) : ∃ o', o = some o' ∧ jc6 o' f r := by
  match o, h with | some (.inl (x0, x1, x2, x3, x4, x5)), h => exact ⟨_, rfl, h⟩ | some (.inr x), h => exact ⟨_, rfl, sinj h⟩
theorem jx6 {α0 α1 α2 α3 α4 α5 : Type} {γ : Type} {o : (α0 × α1 × α2 × α3 × α4 × α5) ⊕ γ} {f : α0 → α1 → α2 → α3 → α4 → α5 → Option γ} {r x : γ} (h : some (.inr x) = some o) (k : jc6 o f r) : some x = some r := by
  have e := sinj h; subst e; exact congrArg some k
def kc6 {α0 α1 α2 α3 α4 α5 : Type} {γ : Type} (o : α0 × α1 × α2 × α3 × α4 × α5) (f : α0 → α1 → α2 → α3 → α4 → α5 → Option γ) (r : γ) : Prop := match o with | (x0, x1, x2, x3, x4, x5) => f x0 x1 x2 x3 x4 x5 = some r
theorem kd6 {α0 α1 α2 α3 α4 α5 : Type} {γ : Type} {o : Option (α0 × α1 × α2 × α3 × α4 × α5)} {f : α0 → α1 → α2 → α3 → α4 → α5 → Option γ} {r : γ} (h : ob6 o f = some r) : ∃ o', o = some o' ∧ kc6 o' f r := by
  match o, h with | some (x0, x1, x2, x3, x4, x5), h => exact ⟨_, rfl, h⟩
theorem jk6 {α0 α1 α2 α3 α4 α5 : Type} {γ : Type} {f : α0 → α1 → α2 → α3 → α4 → α5 → Option γ} {r : γ} {x0 : α0} {x1 : α1} {x2 : α2} {x3 : α3} {x4 : α4} {x5 : α5} (k : jc6 (γ := γ) (.inl (x0, x1, x2, x3, x4, x5)) f r) : f x0 x1 x2 x3 x4 x5 = some r := k
theorem kk6 {α0 α1 α2 α3 α4 α5 : Type} {γ : Type} {f : α0 → α1 → α2 → α3 → α4 → α5 → Option γ} {r : γ} {x0 : α0} {x1 : α1} {x2 : α2} {x3 : α3} {x4 : α4} {x5 : α5} (k : kc6 (γ := γ) (x0, x1, x2, x3, x4, x5) f r) : f x0 x1 x2 x3 x4 x5 = some r := k
def ob7 {α0 α1 α2 α3 α4 α5 α6 : Type} {γ : Type} (o : Option (α0 × α1 × α2 × α3 × α4 × α5 × α6)) (f : α0 → α1 → α2 → α3 → α4 → α5 → α6 → Option γ) : Option γ := match o with | some (x0, x1, x2, x3, x4, x5, x6) => f x0 x1 x2 x3 x4 x5 x6 | none => none
@[simp] theorem ob7_some {α0 α1 α2 α3 α4 α5 α6 : Type} {γ : Type} (x0 : α0) (x1 : α1) (x2 : α2) (x3 : α3) (x4 : α4) (x5 : α5) (x6 : α6) (f : α0 → α1 → α2 → α3 → α4 → α5 → α6 → Option γ) : ob7 (some (x0, x1, x2, x3, x4, x5, x6)) f = f x0 x1 x2 x3 x4 x5 x6 := rfl
@[simp] theorem ob7_none {α0 α1 α2 α3 α4 α5 α6 : Type} {γ : Type} (f : α0 → α1 → α2 → α3 → α4 → α5 → α6 → Option γ) : ob7 none f = none := rfl
theorem bd7 {α0 α1 α2 α3 α4 α5 α6 : Type} {γ : Type} {o : Option (α0 × α1 × α2 × α3 × α4 × α5 × α6)} {f : α0 → α1 → α2 → α3 → α4 → α5 → α6 → Option γ} {r : γ} (h : ob7 o f = some r) : ∃ x0 x1 x2 x3 x4 x5 x6, o = some (x0, x1, x2, x3, x4, x5, x6) ∧ f x0 x1 x2 x3 x4 x5 x6 = some r := by
  match o, h with | some (x0, x1, x2, x3, x4, x5, x6), h => exact ⟨x0, x1, x2, x3, x4, x5, x6, rfl, h⟩
theorem ej7 {α0 α1 α2 α3 α4 α5 α6 : Type} {x0 y0 : α0} {x1 y1 : α1} {x2 y2 : α2} {x3 y3 : α3} {x4 y4 : α4} {x5 y5 : α5} {x6 y6 : α6} (h : some (x0, x1, x2, x3, x4, x5, x6) = some (y0, y1, y2, y3, y4, y5, y6)) : x0 = y0 ∧ x1 = y1 ∧ x2 = y2 ∧ x3 = y3 ∧ x4 = y4 ∧ x5 = y5 ∧ x6 = y6 := by
  simpa using h
def jn7 {α0 α1 α2 α3 α4 α5 α6 : Type} {γ : Type} (o : Option ((α0 × α1 × α2 × α3 × α4 × α5 × α6) ⊕ γ)) (f : α0 → α1 → α2 → α3 → α4 → α5 → α6 → Option γ) : Option γ := match o with | some (.inl (x0, x1, x2, x3, x4, x5, x6)) => f x0 x1 x2 x3 x4 x5 x6 | some (.inr r) => some r | none => none
@[simp] theorem jn7_inl {α0 α1 α2 α3 α4 α5 α6 : Type} {γ : Type} (x0 : α0) (x1 : α1) (x2 : α2) (x3 : α3) (x4 : α4) (x5 : α5) (x6 : α6) (f : α0 → α1 → α2 → α3 → α4 → α5 → α6 → Option γ) : jn7 (some (.inl (x0, x1, x2, x3, x4, x5, x6))) f = f x0 x1 x2 x3 x4 x5 x6 := rfl
@[simp] theorem jn7_inr {α0 α1 α2 α3 α4 α5 α6 : Type} {γ : Type} (r : γ) (f : α0 → α1 → α2 → α3 → α4 → α5 → α6 → Option γ) : jn7 (some (.inr r)) f = some r := rfl
@[simp] theorem jn7_none {α0 α1 α2 α3 α4 α5 α6 : Type} {γ : Type} (f : α0 → α1 → α2 → α3 → α4 → α5 → α6 → Option γ) : jn7 none f = none := rfl
def jc7 {α0 α1 α2 α3 α4 α5 α6 : Type} {γ : Type} (o : (α0 × α1 × α2 × α3 × α4 × α5 × α6) ⊕ γ) (f : α0 → α1 → α2 → α3 → α4 → α5 → α6 → Option γ) (r : γ) : Prop := match o with | .inl (x0, x1, x2, x3, x4, x5, x6) => f x0 x1 x2 x3 x4 x5 x6 = some r | .inr x => x = r
theorem jd7 {α0 α1 α2 α3 α4 α5 α6 : Type} {γ : Type} {o : Option ((α0 × α1 × α2 × α3 × α4 × α5 × α6) ⊕ γ)} {f : α0 → α1 → α2 → α3 → α4 → α5 → α6 → Option γ} {r : γ} (h : jn7 o f = some r) : ∃ o', o = some o' ∧ jc7 o' f r := by
  match o, h with | some (.inl (x0, x1, x2, x3, x4, x5, x6)), h => exact ⟨_, rfl, h⟩ | some (.inr x), h => exact ⟨_, rfl, sinj h⟩
theorem jx7 {α0 α1 α2 α3 α4 α5 α6 : Type} {γ : Type} {o : (α0 × α1 × α2 × α3 × α4 × α5 × α6) ⊕ γ} {f : α0 → α1 → α2 → α3 → α4 → α5 → α6 → Option γ} {r x : γ} (h : some (.inr x) = some o) (k : jc7 o f r) : some x = some r := by
  have e := sinj h; subst e; exact congrArg some k
def kc7 {α0 α1 α2 α3 α4 α5 α6 : Type} {γ : Type} (o : α0 × α1 × α2 × α3 × α4 × α5 × α6) (f : α0 → α1 → α2 → α3 → α4 → α5 → α6 → Option γ) (r : γ) : Prop := match o with | (x0, x1, x2, x3, x4, x5, x6) => f x0 x1 x2 x3 x4 x5 x6 = some r
theorem kd7 {α0 α1 α2 α3 α4 α5 α6 : Type} {γ : Type} {o : Option (α0 × α1 × α2 × α3 × α4 × α5 × α6)} {f : α0 → α1 → α2 → α3 → α4 → α5 → α6 → Option γ} {r : γ} (h : ob7 o f = some r) : ∃ o', o = some o' ∧ kc7 o' f r := by
  match o, h with | some (x0, x1, x2, x3, x4, x5, x6), h => exact ⟨_, rfl, h⟩
theorem jk7 {α0 α1 α2 α3 α4 α5 α6 : Type} {γ : Type} {f : α0 → α1 → α2 → α3 → α4 → α5 → α6 → Option γ} {r : γ} {x0 : α0} {x1 : α1} {x2 : α2} {x3 : α3} {x4 : α4} {x5 : α5} {x6 : α6} (k : jc7 (γ := γ) (.inl (x0, x1, x2, x3, x4, x5, x6)) f r) : f x0 x1 x2 x3 x4 x5 x6 = some r := k
theorem kk7 {α0 α1 α2 α3 α4 α5 α6 : Type} {γ : Type} {f : α0 → α1 → α2 → α3 → α4 → α5 → α6 → Option γ} {r : γ} {x0 : α0} {x1 : α1} {x2 : α2} {x3 : α3} {x4 : α4} {x5 : α5} {x6 : α6} (k : kc7 (γ := γ) (x0, x1, x2, x3, x4, x5, x6) f r) : f x0 x1 x2 x3 x4 x5 x6 = some r := k
def ob8 {α0 α1 α2 α3 α4 α5 α6 α7 : Type} {γ : Type} (o : Option (α0 × α1 × α2 × α3 × α4 × α5 × α6 × α7)) (f : α0 → α1 → α2 → α3 → α4 → α5 → α6 → α7 → Option γ) : Option γ := match o with | some (x0, x1, x2, x3, x4, x5, x6, x7) => f x0 x1 x2 x3 x4 x5 x6 x7 | none => none
@[simp] theorem ob8_some {α0 α1 α2 α3 α4 α5 α6 α7 : Type} {γ : Type} (x0 : α0) (x1 : α1) (x2 : α2) (x3 : α3) (x4 : α4) (x5 : α5) (x6 : α6) (x7 : α7) (f : α0 → α1 → α2 → α3 → α4 → α5 → α6 → α7 → Option γ) : ob8 (some (x0, x1, x2, x3, x4, x5, x6, x7)) f = f x0 x1 x2 x3 x4 x5 x6 x7 := rfl
@[simp] theorem ob8_none {α0 α1 α2 α3 α4 α5 α6 α7 : Type} {γ : Type} (f : α0 → α1 → α2 → α3 → α4 → α5 → α6 → α7 → Option γ) : ob8 none f = none := rfl
theorem bd8 {α0 α1 α2 α3 α4 α5 α6 α7 : Type} {γ : Type} {o : Option (α0 × α1 × α2 × α3 × α4 × α5 × α6 × α7)} {f : α0 → α1 → α2 → α3 → α4 → α5 → α6 → α7 → Option γ} {r : γ} (h : ob8 o f = some r) : ∃ x0 x1 x2 x3 x4 x5 x6 x7, o = some (x0, x1, x2, x3, x4, x5, x6, x7) ∧ f x0 x1 x2 x3 x4 x5 x6 x7 = some r := by
  match o, h with | some (x0, x1, x2, x3, x4, x5, x6, x7), h => exact ⟨x0, x1, x2, x3, x4, x5, x6, x7, rfl, h⟩
theorem ej8 {α0 α1 α2 α3 α4 α5 α6 α7 : Type} {x0 y0 : α0} {x1 y1 : α1} {x2 y2 : α2} {x3 y3 : α3} {x4 y4 : α4} {x5 y5 : α5} {x6 y6 : α6} {x7 y7 : α7} (h : some (x0, x1, x2, x3, x4, x5, x6, x7) = some (y0, y1, y2, y3, y4, y5, y6, y7)) : x0 = y0 ∧ x1 = y1 ∧ x2 = y2 ∧ x3 = y3 ∧ x4 = y4 ∧ x5 = y5 ∧ x6 = y6 ∧ x7 = y7 := by
  simpa using h
def jn8 {α0 α1 α2 α3 α4 α5 α6 α7 : Type} {γ : Type} (o : Option ((α0 × α1 × α2 × α3 × α4 × α5 × α6 × α7) ⊕ γ)) (f : α0 → α1 → α2 → α3 → α4 → α5 → α6 → α7 → Option γ) : Option γ := match o with | some (.inl (x0, x1, x2, x3, x4, x5, x6, x7)) => f x0 x1 x2 x3 x4 x5 x6 x7 | some (.inr r) => some r | none => none
@[simp] theorem jn8_inl {α0 α1 α2 α3 α4 α5 α6 α7 : Type} {γ : Type} (x0 : α0) (x1 : α1) (x2 : α2) (x3 : α3) (x4 : α4) (x5 : α5) (x6 : α6) (x7 : α7) (f : α0 → α1 → α2 → α3 → α4 → α5 → α6 → α7 → Option γ) : jn8 (some (.inl (x0, x1, x2, x3, x4, x5, x6, x7))) f = f x0 x1 x2 x3 x4 x5 x6 x7 := rfl
@[simp] theorem jn8_inr {α0 α1 α2 α3 α4 α5 α6 α7 : Type} {γ : Type} (r : γ) (f : α0 → α1 → α2 → α3 → α4 → α5 → α6 → α7 → Option γ) : jn8 (some (.inr r)) f = some r := rfl
@[simp] theorem jn8_none {α0 α1 α2 α3 α4 α5 α6 α7 : Type} {γ : Type} (f : α0 → α1 → α2 → α3 → α4 → α5 → α6 → α7 → Option γ) : jn8 none f = none := rfl
def jc8 {α0 α1 α2 α3 α4 α5 α6 α7 : Type} {γ : Type} (o : (α0 × α1 × α2 × α3 × α4 × α5 × α6 × α7) ⊕ γ) (f : α0 → α1 → α2 → α3 → α4 → α5 → α6 → α7 → Option γ) (r : γ) : Prop := match o with | .inl (x0, x1, x2, x3, x4, x5, x6, x7) => f x0 x1 x2 x3 x4 x5 x6 x7 = some r | .inr x => x = r
theorem jd8 {α0 α1 α2 α3 α4 α5 α6 α7 : Type} {γ : Type} {o : Option ((α0 × α1 × α2 × α3 × α4 × α5 × α6 × α7) ⊕ γ)} {f : α0 → α1 → α2 → α3 → α4 → α5 → α6 → α7 → Option γ} {r : γ} (h : jn8 o f = some r) : ∃ o', o = some o' ∧ jc8 o' f r := by
  match o, h with | some (.inl (x0, x1, x2, x3, x4, x5, x6, x7)), h => exact ⟨_, rfl, h⟩ | some (.inr x), h => exact ⟨_, rfl, sinj h⟩
theorem jx8 {α0 α1 α2 α3 α4 α5 α6 α7 : Type} {γ : Type} {o : (α0 × α1 × α2 × α3 × α4 × α5 × α6 × α7) ⊕ γ} {f : α0 → α1 → α2 → α3 → α4 → α5 → α6 → α7 → Option γ} {r x : γ} (h : some (.inr x) = some o) (k : jc8 o f r) : some x = some r := by
  have e := sinj h; subst e; exact congrArg some k
def kc8 {α0 α1 α2 α3 α4 α5 α6 α7 : Type} {γ : Type} (o : α0 × α1 × α2 × α3 × α4 × α5 × α6 × α7) (f : α0 → α1 → α2 → α3 → α4 → α5 → α6 → α7 → Option γ) (r : γ) : Prop := match o with | (x0, x1, x2, x3, x4, x5, x6, x7) => f x0 x1 x2 x3 x4 x5 x6 x7 = some r
theorem kd8 {α0 α1 α2 α3 α4 α5 α6 α7 : Type} {γ : Type} {o : Option (α0 × α1 × α2 × α3 × α4 × α5 × α6 × α7)} {f : α0 → α1 → α2 → α3 → α4 → α5 → α6 → α7 → Option γ} {r : γ} (h : ob8 o f = some r) : ∃ o', o = some o' ∧ kc8 o' f r := by
  match o, h with | some (x0, x1, x2, x3, x4, x5, x6, x7), h => exact ⟨_, rfl, h⟩
theorem jk8 {α0 α1 α2 α3 α4 α5 α6 α7 : Type} {γ : Type} {f : α0 → α1 → α2 → α3 → α4 → α5 → α6 → α7 → Option γ} {r : γ} {x0 : α0} {x1 : α1} {x2 : α2} {x3 : α3} {x4 : α4} {x5 : α5} {x6 : α6} {x7 : α7} (k : jc8 (γ := γ) (.inl (x0, x1, x2, x3, x4, x5, x6, x7)) f r) : f x0 x1 x2 x3 x4 x5 x6 x7 = some r := k
theorem kk8 {α0 α1 α2 α3 α4 α5 α6 α7 : Type} {γ : Type} {f : α0 → α1 → α2 → α3 → α4 → α5 → α6 → α7 → Option γ} {r : γ} {x0 : α0} {x1 : α1} {x2 : α2} {x3 : α3} {x4 : α4} {x5 : α5} {x6 : α6} {x7 : α7} (k : kc8 (γ := γ) (x0, x1, x2, x3, x4, x5, x6, x7) f r) : f x0 x1 x2 x3 x4 x5 x6 x7 = some r := k
def ob9 {α0 α1 α2 α3 α4 α5 α6 α7 α8 : Type} {γ : Type} (o : Option (α0 × α1 × α2 × α3 × α4 × α5 × α6 × α7 × α8)) (f : α0 → α1 → α2 → α3 → α4 → α5 → α6 → α7 → α8 → Option γ) : Option γ := match o with | some (x0, x1, x2, x3, x4, x5, x6, x7, x8) => f x0 x1 x2 x3 x4 x5 x6 x7 x8 | none => none
@[simp] theorem ob9_some {α0 α1 α2 α3 α4 α5 α6 α7 α8 : Type} {γ : Type} (x0 : α0) (x1 : α1) (x2 : α2) (x3 : α3) (x4 : α4) (x5 : α5) (x6 : α6) (x7 : α7) (x8 : α8) (f : α0 → α1 → α2 → α3 → α4 → α5 → α6 → α7 → α8 → Option γ) : ob9 (some (x0, x1, x2, x3, x4, x5, x6, x7, x8)) f = f x0 x1 x2 x3 x4 x5 x6 x7 x8 := rfl
@[simp] theorem ob9_none {α0 α1 α2 α3 α4 α5 α6 α7 α8 : Type} {γ : Type} (f : α0 → α1 → α2 → α3 → α4 → α5 → α6 → α7 → α8 → Option γ) : ob9 none f = none := rfl
theorem bd9 {α0 α1 α2 α3 α4 α5 α6 α7 α8 : Type} {γ : Type} {o : Option (α0 × α1 × α2 × α3 × α4 × α5 × α6 × α7 × α8)} {f : α0 → α1 → α2 → α3 → α4 → α5 → α6 → α7 → α8 → Option γ} {r : γ} (h : ob9 o f = some r) : ∃ x0 x1 x2 x3 x4 x5 x6 x7 x8, o = some (x0, x1, x2, x3, x4, x5, x6, x7, x8) ∧ f x0 x1 x2 x3 x4 x5 x6 x7 x8 = some r := by
  match o, h with | some (x0, x1, x2, x3, x4, x5, x6, x7, x8), h => exact ⟨x0, x1, x2, x3, x4, x5, x6, x7, x8, rfl, h⟩
theorem ej9 {α0 α1 α2 α3 α4 α5 α6 α7 α8 : Type} {x0 y0 : α0} {x1 y1 : α1} {x2 y2 : α2} {x3 y3 : α3} {x4 y4 : α4} {x5 y5 : α5} {x6 y6 : α6} {x7 y7 : α7} {x8 y8 : α8} (h : some (x0, x1, x2, x3, x4, x5, x6, x7, x8) = some (y0, y1, y2, y3, y4, y5, y6, y7, y8)) : x0 = y0 ∧ x1 = y1 ∧ x2 = y2 ∧ x3 = y3 ∧ x4 = y4 ∧ x5 = y5 ∧ x6 = y6 ∧ x7 = y7 ∧ x8 = y8 := by
  simpa using h
def jn9 {α0 α1 α2 α3 α4 α5 α6 α7 α8 : Type} {γ : Type} (o : Option ((α0 × α1 × α2 × α3 × α4 × α5 × α6 × α7 × α8) ⊕ γ)) (f : α0 → α1 → α2 → α3 → α4 → α5 → α6 → α7 → α8 → Option γ) : Option γ := match o with | some (.inl (x0, x1, x2, x3, x4, x5, x6, x7, x8)) => f x0 x1 x2 x3 x4 x5 x6 x7 x8 | some (.inr r) => some r | none => none
@[simp] theorem jn9_inl {α0 α1 α2 α3 α4 α5 α6 α7 α8 : Type} {γ : Type} (x0 : α0) (x1 : α1) (x2 : α2) (x3 : α3) (x4 : α4) (x5 : α5) (x6 : α6) (x7 : α7) (x8 : α8) (f : α0 → α1 → α2 → α3 → α4 → α5 → α6 → α7 → α8 → Option γ) : jn9 (some (.inl (x0, x1, x2, x3, x4, x5, x6, x7, x8))) f = f x0 x1 x2 x3 x4 x5 x6 x7 x8 := rfl
@[simp] theorem jn9_inr {α0 α1 α2 α3 α4 α5 α6 α7 α8 : Type} {γ : Type} (r : γ) (f : α0 → α1 → α2 → α3 → α4 → α5 → α6 → α7 → α8 → Option γ) : jn9 (some (.inr r)) f = some r := rfl
@[simp] theorem jn9_none {α0 α1 α2 α3 α4 α5 α6 α7 α8 : Type} {γ : Type} (f : α0 → α1 → α2 → α3 → α4 → α5 → α6 → α7 → α8 → Option γ) : jn9 none f = none := rfl
def jc9 {α0 α1 α2 α3 α4 α5 α6 α7 α8 : Type} {γ : Type} (o : (α0 × α1 × α2 × α3 × α4 × α5 × α6 × α7 × α8) ⊕ γ) (f : α0 → α1 → α2 → α3 → α4 → α5 → α6 → α7 → α8 → Option γ) (r : γ) : Prop := match o with | .inl (x0, x1, x2, x3, x4, x5, x6, x7, x8) => f x0 x1 x2 x3 x4 x5 x6 x7 x8 = some r | .inr x => x = r
theorem jd9 {α0 α1 α2 α3 α4 α5 α6 α7 α8 : Type} {γ : Type} {o : Option ((α0 × α1 × α2 × α3 × α4 × α5 × α6 × α7 × α8) ⊕ γ)} {f : α0 → α1 → α2 → α3 → α4 → α5 → α6 → α7 → α8 → Option γ} {r : γ} (h : jn9 o f = some r) : ∃ o', o = some o' ∧ jc9 o' f r := by
  match o, h with | some (.inl (x0, x1, x2, x3, x4, x5, x6, x7, x8)), h => exact ⟨_, rfl, h⟩ | some (.inr x), h => exact ⟨_, rfl, sinj h⟩
theorem jx9 {α0 α1 α2 α3 α4 α5 α6 α7 α8 : Type} {γ : Type} {o : (α0 × α1 × α2 × α3 × α4 × α5 × α6 × α7 × α8) ⊕ γ} {f : α0 → α1 → α2 → α3 → α4 → α5 → α6 → α7 → α8 → Option γ} {r x : γ} (h : some (.inr x) = some o) (k : jc9 o f r) : some x = some r := by
  have e := sinj h; subst e; exact congrArg some k
def kc9 {α0 α1 α2 α3 α4 α5 α6 α7 α8 : Type} {γ : Type} (o : α0 × α1 × α2 × α3 × α4 × α5 × α6 × α7 × α8) (f : α0 → α1 → α2 → α3 → α4 → α5 → α6 → α7 → α8 → Option γ) (r : γ) : Prop := match o with | (x0, x1, x2, x3, x4, x5, x6, x7, x8) => f x0 x1 x2 x3 x4 x5 x6 x7 x8 = some r
theorem kd9 {α0 α1 α2 α3 α4 α5 α6 α7 α8 : Type} {γ : Type} {o : Option (α0 × α1 × α2 × α3 × α4 × α5 × α6 × α7 × α8)} {f : α0 → α1 → α2 → α3 → α4 → α5 → α6 → α7 → α8 → Option γ} {r : γ} (h : ob9 o f = some r) : ∃ o', o = some o' ∧ kc9 o' f r := by
  match o, h with | some (x0, x1, x2, x3, x4, x5, x6, x7, x8), h => exact ⟨_, rfl, h⟩
theorem jk9 {α0 α1 α2 α3 α4 α5 α6 α7 α8 : Type} {γ : Type} {f : α0 → α1 → α2 → α3 → α4 → α5 → α6 → α7 → α8 → Option γ} {r : γ} {x0 : α0} {x1 : α1} {x2 : α2} {x3 : α3} {x4 : α4} {x5 : α5} {x6 : α6} {x7 : α7} {x8 : α8} (k : jc9 (γ := γ) (.inl (x0, x1, x2, x3, x4, x5, x6, x7, x8)) f r) : f x0 x1 x2 x3 x4 x5 x6 x7 x8 = some r := k
theorem kk9 {α0 α1 α2 α3 α4 α5 α6 α7 α8 : Type} {γ : Type} {f : α0 → α1 → α2 → α3 → α4 → α5 → α6 → α7 → α8 → Option γ} {r : γ} {x0 : α0} {x1 : α1} {x2 : α2} {x3 : α3} {x4 : α4} {x5 : α5} {x6 : α6} {x7 : α7} {x8 : α8} (k : kc9 (γ := γ) (x0, x1, x2, x3, x4, x5, x6, x7, x8) f r) : f x0 x1 x2 x3 x4 x5 x6 x7 x8 = some r := k
def ob10 {α0 α1 α2 α3 α4 α5 α6 α7 α8 α9 : Type} {γ : Type} (o : Option (α0 × α1 × α2 × α3 × α4 × α5 × α6 × α7 × α8 × α9)) (f : α0 → α1 → α2 → α3 → α4 → α5 → α6 → α7 → α8 → α9 → Option γ) : Option γ := match o with | some (x0, x1, x2, x3, x4, x5, x6, x7, x8, x9) => f x0 x1 x2 x3 x4 x5 x6 x7 x8 x9 | none => none
@[simp] theorem ob10_some {α0 α1 α2 α3 α4 α5 α6 α7 α8 α9 : Type} {γ : Type} (x0 : α0) (x1 : α1) (x2 : α2) (x3 : α3) (x4 : α4) (x5 : α5) (x6 : α6) (x7 : α7) (x8 : α8) (x9 : α9) (f : α0 → α1 → α2 → α3 → α4 → α5 → α6 → α7 → α8 → α9 → Option γ) : ob10 (some (x0, x1, x2, x3, x4, x5, x6, x7, x8, x9)) f = f x0 x1 x2 x3 x4 x5 x6 x7 x8 x9 := rfl
@[simp] theorem ob10_none {α0 α1 α2 α3 α4 α5 α6 α7 α8 α9 : Type} {γ : Type} (f : α0 → α1 → α2 → α3 → α4 → α5 → α6 → α7 → α8 → α9 → Option γ) : ob10 none f = none := rfl
theorem bd10 {α0 α1 α2 α3 α4 α5 α6 α7 α8 α9 : Type} {γ : Type} {o : Option (α0 × α1 × α2 × α3 × α4 × α5 × α6 × α7 × α8 × α9)} {f : α0 → α1 → α2 → α3 → α4 → α5 → α6 → α7 → α8 → α9 → Option γ} {r : γ} (h : ob10 o f = some r) : ∃ x0 x1 x2 x3 x4 x5 x6 x7 x8 x9, o = some (x0, x1, x2, x3, x4, x5, x6, x7, x8, x9) ∧ f x0 x1 x2 x3 x4 x5 x6 x7 x8 x9 = some r := by
  match o, h with | some (x0, x1, x2, x3, x4, x5, x6, x7, x8, x9), h => exact ⟨x0, x1, x2, x3, x4, x5, x6, x7, x8, x9, rfl, h⟩
theorem ej10 {α0 α1 α2 α3 α4 α5 α6 α7 α8 α9 : Type} {x0 y0 : α0} {x1 y1 : α1} {x2 y2 : α2} {x3 y3 : α3} {x4 y4 : α4} {x5 y5 : α5} {x6 y6 : α6} {x7 y7 : α7} {x8 y8 : α8} {x9 y9 : α9} (h : some (x0, x1, x2, x3, x4, x5, x6, x7, x8, x9) = some (y0, y1, y2, y3, y4, y5, y6, y7, y8, y9)) : x0 = y0 ∧ x1 = y1 ∧ x2 = y2 ∧ x3 = y3 ∧ x4 = y4 ∧ x5 = y5 ∧ x6 = y6 ∧ x7 = y7 ∧ x8 = y8 ∧ x9 = y9 := by
  simpa using h
def jn10 {α0 α1 α2 α3 α4 α5 α6 α7 α8 α9 : Type} {γ : Type} (o : Option ((α0 × α1 × α2 × α3 × α4 × α5 × α6 × α7 × α8 × α9) ⊕ γ)) (f : α0 → α1 → α2 → α3 → α4 → α5 → α6 → α7 → α8 → α9 → Option γ) : Option γ := match o with | some (.inl (x0, x1, x2, x3, x4, x5, x6, x7, x8, x9)) => f x0 x1 x2 x3 x4 x5 x6 x7 x8 x9 | some (.inr r) => some r | none => none
@[simp] theorem jn10_inl {α0 α1 α2 α3 α4 α5 α6 α7 α8 α9 : Type} {γ : Type} (x0 : α0) (x1 : α1) (x2 : α2) (x3 : α3) (x4 : α4) (x5 : α5) (x6 : α6) (x7 : α7) (x8 : α8) (x9 : α9) (f : α0 → α1 → α2 → α3 → α4 → α5 → α6 → α7 → α8 → α9 → Option γ) : jn10 (some (.inl (x0, x1, x2, x3, x4, x5, x6, x7, x8, x9))) f = f x0 x1 x2 x3 x4 x5 x6 x7 x8 x9 := rfl
@[simp] theorem jn10_inr {α0 α1 α2 α3 α4 α5 α6 α7 α8 α9 : Type} {γ : Type} (r : γ) (f : α0 → α1 → α2 → α3 → α4 → α5 → α6 → α7 → α8 → α9 → Option γ) : jn10 (some (.inr r)) f = some r := rfl
@[simp] theorem jn10_none {α0 α1 α2 α3 α4 α5 α6 α7 α8 α9 : Type} {γ : Type} (f : α0 → α1 → α2 → α3 → α4 → α5 → α6 → α7 → α8 → α9 → Option γ) : jn10 none f = none := rfl
def jc10 {α0 α1 α2 α3 α4 α5 α6 α7 α8 α9 : Type} {γ : Type} (o : (α0 × α1 × α2 × α3 × α4 × α5 × α6 × α7 × α8 × α9) ⊕ γ) (f : α0 → α1 → α2 → α3 → α4 → α5 → α6 → α7 → α8 → α9 → Option γ) (r : γ) : Prop := match o with | .inl (x0, x1, x2, x3, x4, x5, x6, x7, x8, x9) => f x0 x1 x2 x3 x4 x5 x6 x7 x8 x9 = some r | .inr x => x = r
theorem jd10 {α0 α1 α2 α3 α4 α5 α6 α7 α8 α9 : Type} {γ : Type} {o : Option ((α0 × α1 × α2 × α3 × α4 × α5 × α6 × α7 × α8 × α9) ⊕ γ)} {f : α0 → α1 → α2 → α3 → α4 → α5 → α6 → α7 → α8 → α9 → Option γ} {r : γ} (h : jn10 o f = some r) : ∃ o', o = some o' ∧ jc10 o' f r := by
  match o, h with | some (.inl (x0, x1, x2, x3, x4, x5, x6, x7, x8, x9)), h => exact ⟨_, rfl, h⟩ | some (.inr x), h => exact ⟨_, rfl, sinj h⟩
theorem jx10 {α0 α1 α2 α3 α4 α5 α6 α7 α8 α9 : Type} {γ : Type} {o : (α0 × α1 × α2 × α3 × α4 × α5 × α6 × α7 × α8 × α9) ⊕ γ} {f : α0 → α1 → α2 → α3 → α4 → α5 → α6 → α7 → α8 → α9 → Option γ} {r x : γ} (h : some (.inr x) = some o) (k : jc10 o f r) : some x = some r := by
  have e := sinj h; subst e; exact congrArg some k
def kc10 {α0 α1 α2 α3 α4 α5 α6 α7 α8 α9 : Type} {γ : Type} (o : α0 × α1 × α2 × α3 × α4 × α5 × α6 × α7 × α8 × α9) (f : α0 → α1 → α2 → α3 → α4 → α5 → α6 → α7 → α8 → α9 → Option γ) (r : γ) : Prop := match o with | (x0, x1, x2, x3, x4, x5, x6, x7, x8, x9) => f x0 x1 x2 x3 x4 x5 x6 x7 x8 x9 = some r
theorem kd10 {α0 α1 α2 α3 α4 α5 α6 α7 α8 α9 : Type} {γ : Type} {o : Option (α0 × α1 × α2 × α3 × α4 × α5 × α6 × α7 × α8 × α9)} {f : α0 → α1 → α2 → α3 → α4 → α5 → α6 → α7 → α8 → α9 → Option γ} {r : γ} (h : ob10 o f = some r) : ∃ o', o = some o' ∧ kc10 o' f r := by
  match o, h with | some (x0, x1, x2, x3, x4, x5, x6, x7, x8, x9), h => exact ⟨_, rfl, h⟩
theorem jk10 {α0 α1 α2 α3 α4 α5 α6 α7 α8 α9 : Type} {γ : Type} {f : α0 → α1 → α2 → α3 → α4 → α5 → α6 → α7 → α8 → α9 → Option γ} {r : γ} {x0 : α0} {x1 : α1} {x2 : α2} {x3 : α3} {x4 : α4} {x5 : α5} {x6 : α6} {x7 : α7} {x8 : α8} {x9 : α9} (k : jc10 (γ := γ) (.inl (x0, x1, x2, x3, x4, x5, x6, x7, x8, x9)) f r) : f x0 x1 x2 x3 x4 x5 x6 x7 x8 x9 = some r := k
theorem kk10 {α0 α1 α2 α3 α4 α5 α6 α7 α8 α9 : Type} {γ : Type} {f : α0 → α1 → α2 → α3 → α4 → α5 → α6 → α7 → α8 → α9 → Option γ} {r : γ} {x0 : α0} {x1 : α1} {x2 : α2} {x3 : α3} {x4 : α4} {x5 : α5} {x6 : α6} {x7 : α7} {x8 : α8} {x9 : α9} (k : kc10 (γ := γ) (x0, x1, x2, x3, x4, x5, x6, x7, x8, x9) f r) : f x0 x1 x2 x3 x4 x5 x6 x7 x8 x9 = some r := k
def ob11 {α0 α1 α2 α3 α4 α5 α6 α7 α8 α9 α10 : Type} {γ : Type} (o : Option (α0 × α1 × α2 × α3 × α4 × α5 × α6 × α7 × α8 × α9 × α10)) (f : α0 → α1 → α2 → α3 → α4 → α5 → α6 → α7 → α8 → α9 → α10 → Option γ) : Option γ := match o with | some (x0, x1, x2, x3, x4, x5, x6, x7, x8, x9, x10) => f x0 x1 x2 x3 x4 x5 x6 x7 x8 x9 x10 | none => none
@[simp] theorem ob11_some {α0 α1 α2 α3 α4 α5 α6 α7 α8 α9 α10 : Type} {γ : Type} (x0 : α0) (x1 : α1) (x2 : α2) (x3 : α3) (x4 : α4) (x5 : α5) (x6 : α6) (x7 : α7) (x8 : α8) (x9 : α9) (x10 : α10) (f : α0 → α1 → α2 → α3 → α4 → α5 → α6 → α7 → α8 → α9 → α10 → Option γ) : ob11 (some (x0, x1, x2, x3, x4, x5, x6, x7, x8, x9, x10)) f = f x0 x1 x2 x3 x4 x5 x6 x7 x8 x9 x10 := rfl
@[simp] theorem ob11_none {α0 α1 α2 α3 α4 α5 α6 α7 α8 α9 α10 : Type} {γ : Type} (f : α0 → α1 → α2 → α3 → α4 → α5 → α6 → α7 → α8 → α9 → α10 → Option γ) : ob11 none f = none := rfl
theorem bd11 {α0 α1 α2 α3 α4 α5 α6 α7 α8 α9 α10 : Type} {γ : Type} {o : Option (α0 × α1 × α2 × α3 × α4 × α5 × α6 × α7 × α8 × α9 × α10)} {f : α0 → α1 → α2 → α3 → α4 → α5 → α6 → α7 → α8 → α9 → α10 → Option γ} {r : γ} (h : ob11 o f = some r) : ∃ x0 x1 x2 x3 x4 x5 x6 x7 x8 x9 x10, o = some (x0, x1, x2, x3, x4, x5, x6, x7, x8, x9, x10) ∧ f x0 x1 x2 x3 x4 x5 x6 x7 x8 x9 x10 = some r := by
  match o, h with | some (x0, x1, x2, x3, x4, x5, x6, x7, x8, x9, x10), h => exact ⟨x0, x1, x2, x3, x4, x5, x6, x7, x8, x9, x10, rfl, h⟩
theorem ej11 {α0 α1 α2 α3 α4 α5 α6 α7 α8 α9 α10 : Type} {x0 y0 : α0} {x1 y1 : α1} {x2 y2 : α2} {x3 y3 : α3} {x4 y4 : α4} {x5 y5 : α5} {x6 y6 : α6} {x7 y7 : α7} {x8 y8 : α8} {x9 y9 : α9} {x10 y10 : α10} (h : some (x0, x1, x2, x3, x4, x5, x6, x7, x8, x9, x10) = some (y0, y1, y2, y3, y4, y5, y6, y7, y8, y9, y10)) : x0 = y0 ∧ x1 = y1 ∧ x2 = y2 ∧ x3 = y3 ∧ x4 = y4 ∧ x5 = y5 ∧ x6 = y6 ∧ x7 = y7 ∧ x8 = y8 ∧ x9 = y9 ∧ x10 = y10 := by
  simpa using h
def jn11 {α0 α1 α2 α3 α4 α5 α6 α7 α8 α9 α10 : Type} {γ : Type} (o : Option ((α0 × α1 × α2 × α3 × α4 × α5 × α6 × α7 × α8 × α9 × α10) ⊕ γ)) (f : α0 → α1 → α2 → α3 → α4 → α5 → α6 → α7 → α8 → α9 → α10 → Option γ) : Option γ := match o with | some (.inl (x0, x1, x2, x3, x4, x5, x6, x7, x8, x9, x10)) => f x0 x1 x2 x3 x4 x5 x6 x7 x8 x9 x10 | some (.inr r) => some r | none => none
@[simp] theorem jn11_inl {α0 α1 α2 α3 α4 α5 α6 α7 α8 α9 α10 : Type} {γ : Type} (x0 : α0) (x1 : α1) (x2 : α2) (x3 : α3) (x4 : α4) (x5 : α5) (x6 : α6) (x7 : α7) (x8 : α8) (x9 : α9) (x10 : α10) (f : α0 → α1 → α2 → α3 → α4 → α5 → α6 → α7 → α8 → α9 → α10 → Option γ) : jn11 (some (.inl (x0, x1, x2, x3, x4, x5, x6, x7, x8, x9, x10))) f = f x0 x1 x2 x3 x4 x5 x6 x7 x8 x9 x10 := rfl
@[simp] theorem jn11_inr {α0 α1 α2 α3 α4 α5 α6 α7 α8 α9 α10 : Type} {γ : Type} (r : γ) (f : α0 → α1 → α2 → α3 → α4 → α5 → α6 → α7 → α8 → α9 → α10 → Option γ) : jn11 (some (.inr r)) f = some r := rfl
@[simp] theorem jn11_none {α0 α1 α2 α3 α4 α5 α6 α7 α8 α9 α10 : Type} {γ : Type} (f : α0 → α1 → α2 → α3 → α4 → α5 → α6 → α7 → α8 → α9 → α10 → Option γ) : jn11 none f = none := rfl
def jc11 {α0 α1 α2 α3 α4 α5 α6 α7 α8 α9 α10 : Type} {γ : Type} (o : (α0 × α1 × α2 × α3 × α4 × α5 × α6 × α7 × α8 × α9 × α10) ⊕ γ) (f : α0 → α1 → α2 → α3 → α4 → α5 → α6 → α7 → α8 → α9 → α10 → Option γ) (r : γ) : Prop := match o with | .inl (x0, x1, x2, x3, x4, x5, x6, x7, x8, x9, x10) => f x0 x1 x2 x3 x4 x5 x6 x7 x8 x9 x10 = some r | .inr x => x = r
theorem jd11 {α0 α1 α2 α3 α4 α5 α6 α7 α8 α9 α10 : Type} {γ : Type} {o : Option ((α0 × α1 × α2 × α3 × α4 × α5 × α6 × α7 × α8 × α9 × α10) ⊕ γ)} {f : α0 → α1 → α2 → α3 → α4 → α5 → α6 → α7 → α8 → α9 → α10 → Option γ} {r : γ} (h : jn11 o f = some r) : ∃ o', o = some o' ∧ jc11 o' f r := by
  match o, h with | some (.inl (x0, x1, x2, x3, x4, x5, x6, x7, x8, x9, x10)), h => exact ⟨_, rfl, h⟩ | some (.inr x), h => exact ⟨_, rfl, sinj h⟩
theorem jx11 {α0 α1 α2 α3 α4 α5 α6 α7 α8 α9 α10 : Type} {γ : Type} {o : (α0 × α1 × α2 × α3 × α4 × α5 × α6 × α7 × α8 × α9 × α10) ⊕ γ} {f : α0 → α1 → α2 → α3 → α4 → α5 → α6 → α7 → α8 → α9 → α10 → Option γ} {r x : γ} (h : some (.inr x) = some o) (k : jc11 o f r) : some x = some r := by
  have e := sinj h; subst e; exact congrArg some k
def kc11 {α0 α1 α2 α3 α4 α5 α6 α7 α8 α9 α10 : Type} {γ : Type} (o : α0 × α1 × α2 × α3 × α4 × α5 × α6 × α7 × α8 × α9 × α10) (f : α0 → α1 → α2 → α3 → α4 → α5 → α6 → α7 → α8 → α9 → α10 → Option γ) (r : γ) : Prop := match o with | (x0, x1, x2, x3, x4, x5, x6, x7, x8, x9, x10) => f x0 x1 x2 x3 x4 x5 x6 x7 x8 x9 x10 = some r
theorem kd11 {α0 α1 α2 α3 α4 α5 α6 α7 α8 α9 α10 : Type} {γ : Type} {o : Option (α0 × α1 × α2 × α3 × α4 × α5 × α6 × α7 × α8 × α9 × α10)} {f : α0 → α1 → α2 → α3 → α4 → α5 → α6 → α7 → α8 → α9 → α10 → Option γ} {r : γ} (h : ob11 o f = some r) : ∃ o', o = some o' ∧ kc11 o' f r := by
  match o, h with | some (x0, x1, x2, x3, x4, x5, x6, x7, x8, x9, x10), h => exact ⟨_, rfl, h⟩
theorem jk11 {α0 α1 α2 α3 α4 α5 α6 α7 α8 α9 α10 : Type} {γ : Type} {f : α0 → α1 → α2 → α3 → α4 → α5 → α6 → α7 → α8 → α9 → α10 → Option γ} {r : γ} {x0 : α0} {x1 : α1} {x2 : α2} {x3 : α3} {x4 : α4} {x5 : α5} {x6 : α6} {x7 : α7} {x8 : α8} {x9 : α9} {x10 : α10} (k : jc11 (γ := γ) (.inl (x0, x1, x2, x3, x4, x5, x6, x7, x8, x9, x10)) f r) : f x0 x1 x2 x3 x4 x5 x6 x7 x8 x9 x10 = some r := k
theorem kk11 {α0 α1 α2 α3 α4 α5 α6 α7 α8 α9 α10 : Type} {γ : Type} {f : α0 → α1 → α2 → α3 → α4 → α5 → α6 → α7 → α8 → α9 → α10 → Option γ} {r : γ} {x0 : α0} {x1 : α1} {x2 : α2} {x3 : α3} {x4 : α4} {x5 : α5} {x6 : α6} {x7 : α7} {x8 : α8} {x9 : α9} {x10 : α10} (k : kc11 (γ := γ) (x0, x1, x2, x3, x4, x5, x6, x7, x8, x9, x10) f r) : f x0 x1 x2 x3 x4 x5 x6 x7 x8 x9 x10 = some r := k
def ob12 {α0 α1 α2 α3 α4 α5 α6 α7 α8 α9 α10 α11 : Type} {γ : Type} (o : Option (α0 × α1 × α2 × α3 × α4 × α5 × α6 × α7 × α8 × α9 × α10 × α11)) (f : α0 → α1 → α2 → α3 → α4 → α5 → α6 → α7 → α8 → α9 → α10 → α11 → Option γ) : Option γ := match o with | some (x0, x1, x2, x3, x4, x5, x6, x7, x8, x9, x10, x11) => f x0 x1 x2 x3 x4 x5 x6 x7 x8 x9 x10 x11 | none => none
@[simp] theorem ob12_some {α0 α1 α2 α3 α4 α5 α6 α7 α8 α9 α10 α11 : Type} {γ : Type} (x0 : α0) (x1 : α1) (x2 : α2) (x3 : α3) (x4 : α4) (x5 : α5) (x6 : α6) (x7 : α7) (x8 : α8) (x9 : α9) (x10 : α10) (x11 : α11) (f : α0 → α1 → α2 → α3 → α4 → α5 → α6 → α7 → α8 → α9 → α10 → α11 → Option γ) : ob12 (some (x0, x1, x2, x3, x4, x5, x6, x7, x8, x9, x10, x11)) f = f x0 x1 x2 x3 x4 x5 x6 x7 x8 x9 x10 x11 := rfl
@[simp] theorem ob12_none {α0 α1 α2 α3 α4 α5 α6 α7 α8 α9 α10 α11 : Type} {γ : Type} (f : α0 → α1 → α2 → α3 → α4 → α5 → α6 → α7 → α8 → α9 → α10 → α11 → Option γ) : ob12 none f = none := rfl
theorem bd12 {α0 α1 α2 α3 α4 α5 α6 α7 α8 α9 α10 α11 : Type} {γ : Type} {o : Option (α0 × α1 × α2 × α3 × α4 × α5 × α6 × α7 × α8 × α9 × α10 × α11)} {f : α0 → α1 → α2 → α3 → α4 → α5 → α6 → α7 → α8 → α9 → α10 → α11 → Option γ} {r : γ} (h : ob12 o f = some r) : ∃ x0 x1 x2 x3 x4 x5 x6 x7 x8 x9 x10 x11, o = some (x0, x1, x2, x3, x4, x5, x6, x7, x8, x9, x10, x11) ∧ f x0 x1 x2 x3 x4 x5 x6 x7 x8 x9 x10 x11 = some r := by
  match o, h with | some (x0, x1, x2, x3, x4, x5, x6, x7, x8, x9, x10, x11), h => exact ⟨x0, x1, x2, x3, x4, x5, x6, x7, x8, x9, x10, x11, rfl, h⟩
theorem ej12 {α0 α1 α2 α3 α4 α5 α6 α7 α8 α9 α10 α11 : Type} {x0 y0 : α0} {x1 y1 : α1} {x2 y2 : α2} {x3 y3 : α3} {x4 y4 : α4} {x5 y5 : α5} {x6 y6 : α6} {x7 y7 : α7} {x8 y8 : α8} {x9 y9 : α9} {x10 y10 : α10} {x11 y11 : α11} (h : some (x0, x1, x2, x3, x4, x5, x6, x7, x8, x9, x10, x11) = some (y0, y1, y2, y3, y4, y5, y6, y7, y8, y9, y10, y11)) : x0 = y0 ∧ x1 = y1 ∧ x2 = y2 ∧ x3 = y3 ∧ x4 = y4 ∧ x5 = y5 ∧ x6 = y6 ∧ x7 = y7 ∧ x8 = y8 ∧ x9 = y9 ∧ x10 = y10 ∧ x11 = y11 := by
  simpa using h
def jn12 {α0 α1 α2 α3 α4 α5 α6 α7 α8 α9 α10 α11 : Type} {γ : Type} (o : Option ((α0 × α1 × α2 × α3 × α4 × α5 × α6 × α7 × α8 × α9 × α10 × α11) ⊕ γ)) (f : α0 → α1 → α2 → α3 → α4 → α5 → α6 → α7 → α8 → α9 → α10 → α11 → Option γ) : Option γ := match o with | some (.inl (x0, x1, x2, x3, x4, x5, x6, x7, x8, x9, x10, x11)) => f x0 x1 x2 x3 x4 x5 x6 x7 x8 x9 x10 x11 | some (.inr r) => some r | none => none
@[simp] theorem jn12_inl {α0 α1 α2 α3 α4 α5 α6 α7 α8 α9 α10 α11 : Type} {γ : Type} (x0 : α0) (x1 : α1) (x2 : α2) (x3 : α3) (x4 : α4) (x5 : α5) (x6 : α6) (x7 : α7) (x8 : α8) (x9 : α9) (x10 : α10) (x11 : α11) (f : α0 → α1 → α2 → α3 → α4 → α5 → α6 → α7 → α8 → α9 → α10 → α11 → Option γ) : jn12 (some (.inl (x0, x1, x2, x3, x4, x5, x6, x7, x8, x9, x10, x11))) f = f x0 x1 x2 x3 x4 x5 x6 x7 x8 x9 x10 x11 := rfl
@[simp] theorem jn12_inr {α0 α1 α2 α3 α4 α5 α6 α7 α8 α9 α10 α11 : Type} {γ : Type} (r : γ) (f : α0 → α1 → α2 → α3 → α4 → α5 → α6 → α7 → α8 → α9 → α10 → α11 → Option γ) : jn12 (some (.inr r)) f = some r := rfl
@[simp] theorem jn12_none {α0 α1 α2 α3 α4 α5 α6 α7 α8 α9 α10 α11 : Type} {γ : Type} (f : α0 → α1 → α2 → α3 → α4 → α5 → α6 → α7 → α8 → α9 → α10 → α11 → Option γ) : jn12 none f = none := rfl
def jc12 {α0 α1 α2 α3 α4 α5 α6 α7 α8 α9 α10 α11 : Type} {γ : Type} (o : (α0 × α1 × α2 × α3 × α4 × α5 × α6 × α7 × α8 × α9 × α10 × α11) ⊕ γ) (f : α0 → α1 → α2 → α3 → α4 → α5 → α6 → α7 → α8 → α9 → α10 → α11 → Option γ) (r : γ) : Prop := match o with | .inl (x0, x1, x2, x3, x4, x5, x6, x7, x8, x9, x10, x11) => f x0 x1 x2 x3 x4 x5 x6 x7 x8 x9 x10 x11 = some r | .inr x => x = r
theorem jd12 {α0 α1 α2 α3 α4 α5 α6 α7 α8 α9 α10 α11 : Type} {γ : Type} {o : Option ((α0 × α1 × α2 × α3 × α4 × α5 × α6 × α7 × α8 × α9 × α10 × α11) ⊕ γ)} {f : α0 → α1 → α2 → α3 → α4 → α5 → α6 → α7 → α8 → α9 → α10 → α11 → Option γ} {r : γ} (h : jn12 o f = some r) : ∃ o', o = some o' ∧ jc12 o' f r := by
  match o, h with | some (.inl (x0, x1, x2, x3, x4, x5, x6, x7, x8, x9, x10, x11)), h => exact ⟨_, rfl, h⟩ | some (.inr x), h => exact ⟨_, rfl, sinj h⟩
theorem jx12 {α0 α1 α2 α3 α4 α5 α6 α7 α8 α9 α10 α11 : Type} {γ : Type} {o : (α0 × α1 × α2 × α3 × α4 × α5 × α6 × α7 × α8 × α9 × α10 × α11) ⊕ γ} {f : α0 → α1 → α2 → α3 → α4 → α5 → α6 → α7 → α8 → α9 → α10 → α11 → Option γ} {r x : γ} (h : some (.inr x) = some o) (k : jc12 o f r) : some x = some r := by
  have e := sinj h; subst e; exact congrArg some k
def kc12 {α0 α1 α2 α3 α4 α5 α6 α7 α8 α9 α10 α11 : Type} {γ : Type} (o : α0 × α1 × α2 × α3 × α4 × α5 × α6 × α7 × α8 × α9 × α10 × α11) (f : α0 → α1 → α2 → α3 → α4 → α5 → α6 → α7 → α8 → α9 → α10 → α11 → Option γ) (r : γ) : Prop := match o with | (x0, x1, x2, x3, x4, x5, x6, x7, x8, x9, x10, x11) => f x0 x1 x2 x3 x4 x5 x6 x7 x8 x9 x10 x11 = some r
theorem kd12 {α0 α1 α2 α3 α4 α5 α6 α7 α8 α9 α10 α11 : Type} {γ : Type} {o : Option (α0 × α1 × α2 × α3 × α4 × α5 × α6 × α7 × α8 × α9 × α10 × α11)} {f : α0 → α1 → α2 → α3 → α4 → α5 → α6 → α7 → α8 → α9 → α10 → α11 → Option γ} {r : γ} (h : ob12 o f = some r) : ∃ o', o = some o' ∧ kc12 o' f r := by
  match o, h with | some (x0, x1, x2, x3, x4, x5, x6, x7, x8, x9, x10, x11), h => exact ⟨_, rfl, h⟩
theorem jk12 {α0 α1 α2 α3 α4 α5 α6 α7 α8 α9 α10 α11 : Type} {γ : Type} {f : α0 → α1 → α2 → α3 → α4 → α5 → α6 → α7 → α8 → α9 → α10 → α11 → Option γ} {r : γ} {x0 : α0} {x1 : α1} {x2 : α2} {x3 : α3} {x4 : α4} {x5 : α5} {x6 : α6} {x7 : α7} {x8 : α8} {x9 : α9} {x10 : α10} {x11 : α11} (k : jc12 (γ := γ) (.inl (x0, x1, x2, x3, x4, x5, x6, x7, x8, x9, x10, x11)) f r) : f x0 x1 x2 x3 x4 x5 x6 x7 x8 x9 x10 x11 = some r := k
theorem kk12 {α0 α1 α2 α3 α4 α5 α6 α7 α8 α9 α10 α11 : Type} {γ : Type} {f : α0 → α1 → α2 → α3 → α4 → α5 → α6 → α7 → α8 → α9 → α10 → α11 → Option γ} {r : γ} {x0 : α0} {x1 : α1} {x2 : α2} {x3 : α3} {x4 : α4} {x5 : α5} {x6 : α6} {x7 : α7} {x8 : α8} {x9 : α9} {x10 : α10} {x11 : α11} (k : kc12 (γ := γ) (x0, x1, x2, x3, x4, x5, x6, x7, x8, x9, x10, x11) f r) : f x0 x1 x2 x3 x4 x5 x6 x7 x8 x9 x10 x11 = some r := k

/-! ### numbers -/
abbrev wi (x : Int) : Int := IntKind.i64.wrap x
theorem wi_in {x : Int} (h : -9223372036854775808 ≤ x ∧ x ≤ 9223372036854775807) : wi x = x := i64_in x h
abbrev inr_ (i : Int) (n : Nat) : Prop := 0 ≤ i ∧ i < (n : Int)
theorem at_ok {α : Type} [Inhabited α] {l : List α} {i : Int} (h : inr_ i l.length) : l[i.toNat]? = some (at_ l i.toNat) := get_at (by have := h.1; have := h.2; omega)
theorem at_okL {α : Type} [Inhabited α] {l : List α} {i : Int} (h : inr_ i l.length) : i.toNat < l.length := by have := h.1; have := h.2; omega

def encZ_i64 (x : Int) : List Value := [.int .i64 x]
theorem encZ_i64_ok : Enc encZ_i64 1 := ⟨fun _ => rfl, fun x u h => by simp only [encZ_i64, List.mem_cons, List.not_mem_nil, or_false] at h; subst h; rfl, by decide⟩
def encZ_u8 (x : Int) : List Value := [.int .u8 x]
theorem encZ_u8_ok : Enc encZ_u8 1 := ⟨fun _ => rfl, fun x u h => by simp only [encZ_u8, List.mem_cons, List.not_mem_nil, or_false] at h; subst h; rfl, by decide⟩
def encBo (x : Bool) : List Value := [.bool x]
theorem encBo_ok : Enc encBo 1 := ⟨fun _ => rfl, fun x u h => by simp only [encBo, List.mem_cons, List.not_mem_nil, or_false] at h; subst h; rfl, by decide⟩

/-! ### rows, as they are -/
def blk : Option Addr → Nat | some a => a.block | none => 0
def offs : Option Addr → Nat | some a => a.off | none => 0

section
variable {P : Program} {w0 w : World} {L : List HProp} {α : Type} {E : TypeId} {sz n cc : Nat} {enc : α → List Value} {l : List α} {ca : Option Addr} {o : Oper} {e : Nat → Value} {t : TypeId} {Df : List Deferred}
theorem _root_.Go.Proofs.YtpikpffbcjpmcaaGreatDoor.SL.Fit.row_addr (h : Fit w0 (sepL (rowOf E sz enc (.slice ca n cc) l :: L)) w) (hl : 0 < l.length) : ca = some ⟨blk ca, 0, none⟩ ∧ Fit w0 (sepL (slc E sz enc (blk ca) cc l :: L)) w := by
  obtain ⟨g, e, h'⟩ := h.row_blk hl
  subst e
  exact ⟨rfl, h'⟩
theorem _root_.Go.Proofs.YtpikpffbcjpmcaaGreatDoor.SL.Fit.row_cell (he : Enc enc sz) (h : Fit w0 (sepL (rowOf E sz enc (.slice ca n cc) l :: L)) w) {i f : Nat} {x : α} {u : Value} (hi : l[i]? = some x) (hf : (enc x)[f]? = some u) : w.cell? ⟨blk ca, i * sz + f, none⟩ = some u := by
  have hlt : i < l.length := (List.getElem?_eq_some_iff.1 hi).1
  exact (h.row_addr (by omega)).2.slc_get he i f x u hi hf
theorem _root_.Go.Proofs.YtpikpffbcjpmcaaGreatDoor.SL.Fit.row_free (h : Fit w0 (sepL (rowOf E sz enc (.slice ca n cc) l :: L)) w) (hl : 0 < l.length) (j : Nat) : w.frozen? ⟨blk ca, j, none⟩ = false := (h.row_addr hl).2.slc_free j
theorem _root_.Go.Proofs.YtpikpffbcjpmcaaGreatDoor.SL.Fit.row_again (h : Fit w0 (sepL (slc E sz enc (blk ca) cc l :: L)) w) (hca : ca = some ⟨blk ca, 0, none⟩) (hn : n = l.length) : Fit w0 (sepL (rowOf E sz enc (.slice ca n cc) l :: L)) w := h.unrow_e hca hn
/-- The address of an element. -/
theorem ri_row {w' : World} {x y : Operand} {k : IntKind} {i : Int} (ho : o.op = .indexAddr t x y) (hx : evE e x = .slice ca n cc) (hy : evE e y = .int k i)
    (ht : P.underlying t = some (.slice E)) (hs : (P.info? E).map (·.size) = some sz) (hF : Fit w0 (sepL (rowOf E sz enc (.slice ca n cc) l :: L)) w) (hi : inr_ i l.length) : (execOp (evE e) o).run P w' = .ok (.value (.pointer (some ⟨blk ca, i.toNat * sz, none⟩))) w' := by
  have hn := hF.row_n
  have h0 := hi.1; have h1 := hi.2
  have hca := (hF.row_addr (by omega)).1
  exact ri0e hca ho hx hy ht hs h0 (by omega)
end

section
variable {P : Program} {ops : Array Oper} {Q : Exit → Act → World → Prop} {a : Act} {w w0 w1 : World} {rest : List Oper} {o : Oper} {n d t : Nat} {v : Value} {l : List (Nat × Value)} {j e : Nat → Value} {L : List HProp} {H : HProp} {Df : List Deferred}
variable {α : Type} {E : TypeId} {sz n0 cc : Nat} {enc : α → List Value} {xs : List α} {ca : Option Addr}
/-- A store of one cell into an element. -/
theorem op_store_row {x y : Operand} (hw : Region.wanted o (yielded ops a.tmps) = true) (hd : o.dst = none) (hr : RepD Df n (lk l j) a) (ho : o.op = .store t x y)
    {i f : Nat} (hx : evE (lk l j) x = .pointer (some ⟨blk ca, i * sz + f, none⟩)) (hy : evE (lk l j) y = v) (hv : v.cells = #[v]) (h1 : v.oneCell' = true) (hs : (P.info? t).map (·.size) = some 1)
    (he : Enc enc sz) (hF : Fit w0 (sepL (rowOf E sz enc (.slice ca n0 cc) xs :: L)) w) {p q : α} (hp : xs[i]? = some p) (hf : f < sz) (hq : enc q = (enc p).set f v)
    (k : ∀ w1, Fit w0 (sepL (rowOf E sz enc (.slice ca n0 cc) (xs.set i q) :: L)) w1 → wpList P ops Q rest a w1) : wpList P ops Q (o :: rest) a w := by
  have hlt : i < xs.length := (List.getElem?_eq_some_iff.1 hp).1
  have hn := hF.row_n
  obtain ⟨hca, hF'⟩ := hF.row_addr (by omega)
  exact op_store_slc hw hd hr ho hx hy hv h1 hs he hF' hp hf hq fun w1 h => k w1 (h.row_again hca (by rw [List.length_set]; exact hn))
/-- .. of a whole element. -/
theorem op_stores_row {x y : Operand} {vs : List Value} (hw : Region.wanted o (yielded ops a.tmps) = true) (hd : o.dst = none) (hr : RepD Df n (lk l j) a) (ho : o.op = .store t x y)
    {i : Nat} (hx : evE (lk l j) x = .pointer (some ⟨blk ca, i * sz, none⟩)) (hy : evE (lk l j) y = .agg vs.toArray) (h1 : vs.all (·.oneCell') = true) (hs : (P.info? t).map (·.size) = some vs.length)
    (he : Enc enc sz) (hF : Fit w0 (sepL (rowOf E sz enc (.slice ca n0 cc) xs :: L)) w) {q : α} (hi : i < xs.length) (hq : enc q = vs)
    (k : ∀ w1, Fit w0 (sepL (rowOf E sz enc (.slice ca n0 cc) (xs.set i q) :: L)) w1 → wpList P ops Q rest a w1) : wpList P ops Q (o :: rest) a w := by
  have hn := hF.row_n
  obtain ⟨hca, hF'⟩ := hF.row_addr (by omega)
  exact op_stores_slc hw hd hr ho hx hy h1 hs he hF' hi hq fun w1 h => k w1 (h.row_again hca (by rw [List.length_set]; exact hn))
/-- make, as a row. -/
theorem op_make_row {x y : Operand} {i : Int} {bytes : Nat} {zc : Array Value} (z0 : α) (hw : Region.wanted o (yielded ops a.tmps) = true) (hd : o.dst = some d) (hn : Nat.blt d n = true) (hr : RepD Df n (lk l j) a)
    (ho : o.op = .makeSlice t x y) (hx : evE (lk l j) x = .int .i64 i) (hy : evE (lk l j) y = .int .i64 i) (hi : 0 ≤ i ∧ i * bytes ≤ 140737488355328) (he : Enc enc sz) (hty : P.underlying t = some (.slice E))
    (hinfo : (P.info? E).map (fun i => (i.size, i.bytes, i.zero.map (·.cells))) = some (sz, bytes, some zc)) (hz : zc.toList = enc z0) (hbp : Nat.blt 0 bytes = true) (hF : Fit w0 (sepL L) w)
    (k : ∀ ca w1 a, Fit w0 (sepL (rowOf E sz enc (.slice ca (List.replicate i.toNat z0).length i.toNat) (List.replicate i.toNat z0) :: L)) w1 → RepD Df n (lk ((d, .slice ca (List.replicate i.toNat z0).length i.toNat) :: l) j) a → wpList P ops Q rest a w1) : wpList P ops Q (o :: rest) a w := by
  have hb : i.toNat * bytes ≤ 140737488355328 := by
    have h2 := hi.2
    have e : ((i.toNat * bytes : Nat) : Int) = i * bytes := by rw [Int.natCast_mul, Int.toNat_of_nonneg hi.1]
    omega
  refine op_make (c := i.toNat) z0 hw hd hn hr ho hx hy (by have := hi.1; omega) he hty hinfo hz hb hbp hF fun g w1 a h hr' => ?_
  have hl : (List.replicate i.toNat z0).length = i.toNat := List.length_replicate
  refine k (some ⟨g, 0, none⟩) w1 a (h.unrow_n rfl) ?_
  rw [hl]; exact hr'

/-- copy, of as many. -/
theorem op_copy_row {s x : Operand} {cb : Option Addr} {n1 cd : Nat} {ys : List α} (hw : Region.wanted o (yielded ops a.tmps) = true) (hd : o.dst = some d) (hn : Nat.blt d n = true) (hr : RepD Df n (lk l j) a)
    (ho : o.op = .call { callee := .builtin .copy, args := #[s, x], argTypes := #[t, t] }) (hs : evE (lk l j) s = .slice ca n0 cc) (hx : evE (lk l j) x = .slice cb n1 cd)
    (he : Enc enc sz) (hty : P.underlying t = some (.slice E)) (hsz : (P.info? E).map (·.size) = some sz) (hlen : ys.length = xs.length)
    (hF : Fit w0 (sepL (rowOf E sz enc (.slice ca n0 cc) xs :: rowOf E sz enc (.slice cb n1 cd) ys :: L)) w)
    (k : ∀ w1 a, Fit w0 (sepL (rowOf E sz enc (.slice ca n0 cc) ys :: rowOf E sz enc (.slice cb n1 cd) ys :: L)) w1 → RepD Df n (lk ((d, .int .i64 ((xs.length : Nat) : Int)) :: l) j) a → wpList P ops Q rest a w1) : wpList P ops Q (o :: rest) a w := by
  have hn0 := hF.row_n
  have hn1 := (hF.pick 1).row_n
  rcases hF.rows with ⟨e1, e2, hF'⟩ | ⟨g, cap, e1, _, hF'⟩
  · simp only [Value.slice.injEq] at e1
    obtain ⟨rfl, rfl, rfl⟩ := e1
    subst e2
    obtain rfl : ys = [] := List.eq_nil_of_length_eq_zero hlen
    subst hn1
    refine op_valw (w1 := w) (v := .int .i64 0) hw hd hn hr ?_ (fun a hr => k w a hF (by simpa using hr))
    have hcells : (Builtin.firstCells sz 0 (.slice cb 0 cd)).run P w = .ok #[] w := by
      have := hF.pick 1
      rcases (hF.pick 1).rows with ⟨e3, _, _⟩ | ⟨g', cap', e3, _, _⟩ <;> simp only [Value.slice.injEq] at e3 <;> rw [e3.1]
      · have := run_firstCells_none (P := P) w sz 0 0 cd; simpa using this
      · have := run_firstCells_some (P := P) w sz 0 ⟨g', 0, none⟩ 0 cd [] (by simp) (by intro j u hu; simp at hu); simpa using this
    unfold execOp
    cases hinf : P.info? E with
    | none => simp [hinf] at hsz
    | some q =>
      simp [hinf] at hsz
      simp only [ho, resolve, invoke, builtin, Sem.run_bind, Sem.run_pure, Result.andThen_ok, List.map_toArray, List.map_cons, List.map_nil, hs, hx]
      simp [Builtin.copy_, run_underlying hty, Builtin.lenOf, sizeOf, typeInfo, hinf, hsz, hcells, goInt]
  · simp only [Value.slice.injEq] at e1
    obtain ⟨rfl, _, rfl⟩ := e1
    exact op_copy hw hd hn hr ho hs hx hn0 he hty hsz hlen hF' fun w1 a h hr' => k w1 a (h.unrow_n (by omega)) hr'

/-! ### what is only read -/
theorem _root_.Go.Proofs.YtpikpffbcjpmcaaGreatDoor.SL.Fit.dn {w0 w : World} (k : Nat) {L : List HProp} (h : Fit w0 (sepL L) w) : Fit w0 (sepL (L.drop k)) w := by
  induction k generalizing L with
  | zero => exact h
  | succ k ih =>
    cases L with
    | nil => exact h
    | cons P L => exact ih h.drop
/-- Whatever holds L holds these elements at the slice's address. -/
def RdRow {α : Type} (L : List HProp) (sz : Nat) (enc : α → List Value) (va : Option Addr) (l : List α) : Prop :=
  ∀ i x, l[i]? = some x → va = some ⟨blk va, offs va, none⟩ ∧ ∀ f u, (enc x)[f]? = some u → ∀ z w, Fit z (sepL L) w → w.cell? ⟨blk va, offs va + i * sz + f, none⟩ = some u
theorem RdRow.nil {va : Option Addr} : RdRow L sz enc va ([] : List α) := fun i x h => by simp at h
theorem RdRow.up (k : Nat) {L' : List HProp} {va : Option Addr} {l : List α} (h : RdRow (L'.drop k) sz enc va l) : RdRow L' sz enc va l :=
  fun i x hx => ⟨(h i x hx).1, fun f u hu z w hw => (h i x hx).2 f u hu z w (hw.dn k)⟩
theorem RdRow.of_row {z0 : World} {L' L'' L3 : List HProp} {n cc : Nat} {l : List α} (he : Enc enc sz) (h0 : Fit z0 (sepL (rowOf E sz enc (.slice ca n cc) l :: L'')) w)
    (f : ∀ {z w}, Fit z (sepL L') w → Fit z (sepL (rowOf E sz enc (.slice ca n cc) l :: L3)) w) : RdRow L' sz enc ca l := by
  intro i x hx
  have hlt : i < l.length := (List.getElem?_eq_some_iff.1 hx).1
  have hca := (h0.row_addr (by omega)).1
  have ho : offs ca = 0 := by rw [hca]; rfl
  refine ⟨by rw [ho]; exact hca, fun q u hu z w hw => ?_⟩
  rw [ho, Nat.zero_add]
  exact (f hw).row_cell he hx hu
theorem RdRow.take {va : Option Addr} {l : List α} (h : RdRow L sz enc va l) (k : Nat) : RdRow L sz enc va (l.take k) := by
  intro i x hx
  refine h i x ?_
  rw [List.getElem?_take] at hx
  split at hx
  · exact hx
  · cases hx
theorem ri_rd {x y : Operand} {k : IntKind} {i : Int} {n0 : Nat} {L : List HProp} {va : Option Addr} [Inhabited α] {l : List α} (ho : o.op = .indexAddr t x y) (hx : evE e x = .slice va n0 cc) (hy : evE e y = .int k i) (hn0 : n0 = l.length)
    (ht : P.underlying t = some (.slice E)) (hs : (P.info? E).map (·.size) = some sz) (hF : RdRow L sz enc va l) (hi : inr_ i l.length) : (execOp (evE e) o).run P w = .ok (.value (.pointer (some ⟨blk va, offs va + i.toNat * sz, none⟩))) w := by
  have h0 := hi.1; have h1 := hi.2
  exact rie (hF _ _ (at_ok hi)).1 ho hx hy ht hs h0 (by omega)
theorem RdRow.cell {z : World} {L : List HProp} {va : Option Addr} [Inhabited α] {l : List α} {i : Int} (hF : RdRow L sz enc va l) (hi : inr_ i l.length) (h : Fit z (sepL L) w) (f : Nat) {u : Value} (hu : (enc (at_ l i.toNat))[f]? = some u) : w.cell? ⟨blk va, offs va + i.toNat * sz + f, none⟩ = some u :=
  (hF _ _ (at_ok hi)).2 f u hu z w h

theorem sepL_range : ∀ (n : Nat) (L : List HProp), sepL ((List.range n).map (fun i => L.getD i emp) ++ L.drop n) = sepL L
  | 0, L => by simp
  | n + 1, [] => by
    have e : ∀ n, sepL ((List.range n).map (fun i => ([] : List HProp).getD i emp)) = sepL [] := by
      intro n
      induction n with
      | zero => rfl
      | succ n ih =>
        rw [List.range_succ, List.map_append, sepL_append, ih]
        show sep emp (sep emp emp) = emp
        rw [sep_emp, sep_emp]
    simpa using e (n + 1)
  | n + 1, P :: L => by
    rw [List.range_succ_eq_map, List.map_cons, List.map_map]
    have ih := sepL_range n L
    show sep P (sepL (List.map ((fun i => (P :: L).getD i emp) ∘ Nat.succ) (List.range n) ++ L.drop n)) = sep P (sepL L)
    rw [← ih]
    rfl
def selB (n : Nat) (is : List Nat) : Bool := (is ++ (List.range n).filter (fun i => !is.contains i)).isPerm (List.range n)
/-- The parts in another order; those that are not named are dropped. -/
theorem _root_.Go.Proofs.YtpikpffbcjpmcaaGreatDoor.SL.Fit.sel {w0 w : World} {L L' : List HProp} (h : Fit w0 (sepL L) w) (n : Nat) (is : List Nat) (hB : selB n is = true) (e : is.map (fun i => L.getD i emp) ++ L.drop n = L') : Fit w0 (sepL L') w := by
  subst e
  have hp := (List.isPerm_iff.1 hB).map (fun i => L.getD i emp)
  have h1 : Fit w0 (sepL ((List.range n).map (fun i => L.getD i emp) ++ L.drop n)) w := h.eq (sepL_range n L).symm
  rw [List.map_append] at hp
  have h2 := h1.perm (hp.symm.append_right (L.drop n))
  have h3 := h2.perm (List.perm_append_comm.append_right (L.drop n))
  rw [List.append_assoc] at h3
  generalize ((List.range n).filter (fun i => !is.contains i)).map (fun i => L.getD i emp) = X at h3
  clear h h1 h2 hp hB
  induction X with
  | nil => exact h3
  | cons x X ih => exact ih h3.drop

/-! ### a call walked in place -/
theorem op_inl {f : FuncId} {args : Array Value} (hw : Region.wanted o (yielded ops a.tmps) = true) (hd : o.dst = some d) (hn : Nat.blt d n = true) (hr : RepD Df n (lk l j) a)
    (hrun : (execOp (evE (lk l j)) o).run P w = .ok (.enter f args) w) (hc : Calls P f args w fun e w1 => ∃ v, e = .returned v ∧ ∀ a, RepD Df n (lk ((d, v) :: l) j) a → wpList P ops Q rest a w1) : wpList P ops Q (o :: rest) a w :=
  op_call hw hd hn hr hrun hc fun e w1 h => h
theorem end_ret3 {fn : Func} {R : Ending → World → Prop} {t1 t2 t3 : Nat} {v1 v2 v3 : Value} (hres : fn.results = #[.tmp t1, .tmp t2, .tmp t3]) (hr : Rep n e a) (h1 : e t1 = v1) (h2 : e t2 = v2) (h3 : e t3 = v3) (h : R (.returned (.tuple #[v1, v2, v3])) w) : bodyPost P fn R .ret a w := by
  refine bodyPost_ret ?_ hr.defers h
  have g1 := hr.get t1; have g2 := hr.get t2; have g3 := hr.get t3
  rw [h1, Array.getD_eq_getD_getElem?] at g1
  rw [h2, Array.getD_eq_getD_getElem?] at g2
  rw [h3, Array.getD_eq_getD_getElem?] at g3
  simp [results, hres, g1, g2, g3]

theorem loop_first {β : Type} {c : Code} (μ : β → Nat) (I : β → Act → World → Prop) (h0 : c.wp P (Exit.then (fun a w => ∃ x, I x a w) Q) a w)
    (round : ∀ x a w, I x a w → c.wp P (Exit.then (fun a w => ∃ x', I x' a w ∧ μ x' < μ x) Q) a w) : (Code.loop c).wp P Q a w := by
  have key : ∀ m x a w, μ x = m → I x a w → ∀ b k cs, ∃ e a' w', Q e a' w' ∧ Arrives P (lone (b.at a (.code c :: .inLoop c :: k)) cs w) b k cs e a' w' := by
    intro m
    induction m using Nat.strongRecOn with
    | _ m ih =>
      intro x a w hm hI b k cs
      obtain ⟨e, a1, w1, hq, harr⟩ := round x a w hI b (.inLoop c :: k) cs
      cases e with
      | normal =>
        obtain ⟨x', hI', hlt⟩ := hq
        obtain ⟨e2, a2, w2, hq2, harr2⟩ := ih (μ x') (hm ▸ hlt) x' a1 w1 rfl hI' b k cs
        exact ⟨e2, a2, w2, hq2, .of_steps (Steps.trans harr (.one step_inLoop)) harr2⟩
      | exit id => exact ⟨_, a1, w1, hq, .pass (x := .inLoop c) rfl (fun _ _ => .inl (by simp)) harr⟩
      | goto l => exact ⟨_, a1, w1, hq, .pass (x := .inLoop c) rfl (fun _ _ => .inl (by simp)) harr⟩
      | ret => exact ⟨_, a1, w1, hq, .pass (x := .inLoop c) rfl (fun _ _ => .inl (by simp)) harr⟩
      | panic ch => exact ⟨_, a1, w1, hq, .pass (x := .inLoop c) rfl (fun _ _ => .inl (by simp)) harr⟩
      | outgrown => exact ⟨_, a1, w1, hq, .pass (x := .inLoop c) rfl (fun _ _ => .inl (by simp)) harr⟩
  intro b k cs
  obtain ⟨e, a1, w1, hq, harr⟩ := h0 b (.inLoop c :: k) cs
  cases e with
  | normal =>
    obtain ⟨x, hI⟩ := hq
    obtain ⟨e2, a2, w2, hq2, harr2⟩ := key _ x a1 w1 rfl hI b k cs
    exact ⟨e2, a2, w2, hq2, .of_steps (Steps.trans (.one step_loop) (Steps.trans harr (.one step_inLoop))) harr2⟩
  | exit id => exact ⟨_, a1, w1, hq, .of_steps (.one step_loop) (.pass (x := .inLoop c) rfl (fun _ _ => .inl (by simp)) harr)⟩
  | goto l => exact ⟨_, a1, w1, hq, .of_steps (.one step_loop) (.pass (x := .inLoop c) rfl (fun _ _ => .inl (by simp)) harr)⟩
  | ret => exact ⟨_, a1, w1, hq, .of_steps (.one step_loop) (.pass (x := .inLoop c) rfl (fun _ _ => .inl (by simp)) harr)⟩
  | panic ch => exact ⟨_, a1, w1, hq, .of_steps (.one step_loop) (.pass (x := .inLoop c) rfl (fun _ _ => .inl (by simp)) harr)⟩
  | outgrown => exact ⟨_, a1, w1, hq, .of_steps (.one step_loop) (.pass (x := .inLoop c) rfl (fun _ _ => .inl (by simp)) harr)⟩
/-- xs[:n] -/
theorem rsl {x y : Operand} {k : IntKind} {i : Int} {w' : World} {n : Nat} (ho : o.op = .slice t x none (some y) none) (hx : evE e x = .slice ca n cc) (hy : evE e y = .int k i) (ht : P.underlying t = some (.slice E)) (hs : (P.info? E).map (·.size) = some sz)
    (hF : Fit w0 (sepL (rowOf E sz enc (.slice ca n cc) xs :: L)) w) (hi : 0 ≤ i ∧ i ≤ ((xs.length : Nat) : Int)) : (execOp (evE e) o).run P w' = .ok (.value (.slice ca (xs.take i.toNat).length cc)) w' := by
  obtain ⟨a', c', e1, _, hcc⟩ := hF.row_val
  simp only [Value.slice.injEq] at e1
  obtain ⟨rfl, _, rfl⟩ := e1
  have hl : (xs.take i.toNat).length = i.toNat := by rw [List.length_take]; omega
  have h0 := hi.1
  have h1 : i ≤ (cc : Int) := by omega
  rw [hl]
  unfold execOp
  have ha : ∀ a : Addr, a.add 0 = a := fun a => by unfold Addr.add; rw [if_pos rfl]
  cases hq : P.info? E with
  | none => simp [hq] at hs
  | some q =>
    simp [hq] at hs
    simp [ho, hx, hy, Instr.sliceAt, Instr.slice, Instr.sliceBounds, Instr.sliceBound, run_underlying ht, asIntOf, h0, h1, sizeOf, typeInfo, hq, ha]


/-! ### regions that draw their order: what is read floats over the effects -/
variable {md : Region.Mode}
def wpAnyE (P : Program) (md : Region.Mode) (ops : Array Oper) (Q : Exit → Act → World → Prop) (D : World → Prop) (E : List Nat) : Nat → Array Bool → Act → World → Prop
  | 0, listed, a, w => Region.ready md ops listed = [] ∧ Q .normal a w
  | fuel + 1, listed, a, w => (Region.ready md ops listed = [] → Q .normal a w) ∧
    ∀ i ∈ Region.ready md ops listed, wpOp P ops Q i (fun a w => (i ∈ E → D w) ∧ wpAnyE P md ops Q D E fuel (listed.setIfInBounds i true) a w) a w
theorem wpAny_of_E {D : World → Prop} {E : List Nat} : ∀ (fuel : Nat) (listed : Array Bool) (a : Act) (w : World), wpAnyE P md ops Q D E fuel listed a w → wpAny P md ops Q fuel listed a w
  | 0, _, _, _, h => h
  | f + 1, listed, a, w, h => ⟨h.1, fun i hi => wpOp_mono (fun a w k => wpAny_of_E f _ a w k.2) (h.2 i hi)⟩
def presE (md : Region.Mode) (ops : Array Oper) (E : List Nat) (listed : Array Bool) (i : Nat) : Bool :=
  (List.range ops.size).all fun k => k == i || listed.getD k true || !canB md ops listed i ops.size k || E.contains k || match ops[k]? with | some ok => keepsB ok | none => true

theorem wpOp_putE {D D' : World → Prop} {E E' : List Nat} {k : Nat} {oi ok : Oper} (hk : ops[k]? = some ok) (hap : oi.apart ops ok = true) (hpi : PanInv Q)
    (hsi : ∀ cs b, oi.op ≠ .select cs b) (hsk : ∀ cs b, ok.op ≠ .select cs b) (hDD : ∀ k ∈ E', k ∈ E ∧ ∀ w, D w → D' w) (hDk : ∀ w w', CellsGo w w' → D' w → D' w') (hpres : (∀ w, D' w) ∨ keepsB ok = true ∨ k ∈ E') (hD : D' w) {K : Act → World → Prop}
    (hy : YD P ops D' oi v a) (h : wpOp P ops Q k (fun a w => (k ∈ E → D w) ∧ K a w) (a.put oi.dst v) w) : wpOp P ops Q k (fun a w => (k ∈ E → D w) ∧ D' w ∧ YD P ops D' oi v a ∧ K (a.put oi.dst v) w) a w := by
  obtain ⟨h1, h2, h3⟩ := Oper.apart_spec hap
  have keep : ∀ (a : Act), YD P ops D' oi v a → ∀ u, YD P ops D' oi v (a.put ok.dst u) := fun a hy u => hy.of_same (execOp_put oi hsi a ok.dst u h3) (wanted_put oi a ok.dst u h3)
  unfold wpOp at *
  simp only [hk] at *
  rw [wanted_put ok a oi.dst v h1] at h
  by_cases hw : Region.wanted ok (yielded ops a.tmps) = true
  · rw [if_pos hw] at h ⊢
    rcases h with h | h
    · left
      unfold Oper.wp at *
      rw [execOp_put ok hsk a oi.dst v h1] at h
      have hkeep := fun (hb : keepsB ok = true) x w' hr => keepsB_spec (P := P) hb a.eval w w' x hr
      generalize (execOp a.eval ok).run P w = r at *
      cases r with
      | ok x w' =>
        have hD' : (k ∈ E → D w') → D' w' := by
          intro hE
          rcases hpres with hall | hb | hb
          · exact hall w'
          · exact hDk w w' (hkeep hb x w' rfl).2 hD
          · exact (hDD k hb).2 _ (hE (hDD k hb).1)
        cases x <;> simp only [Oper.upon] at h ⊢
        case value u => exact ⟨h.1, hD' h.1, keep a hy u, by rw [← Act.put_comm a v u h2]; exact h.2⟩
        case skip => exact ⟨h.1, hD' h.1, keep a hy _, by rw [← Act.put_comm a v undef h2]; exact h.2⟩
        case defer df =>
          refine ⟨h.1, hD' h.1, ?_, ?_⟩
          · have : YD P ops D' oi v ({ a with defers := df :: a.defers } : Act) := hy
            exact keep _ this _
          · have e := Act.put_comm ({ a with defers := df :: a.defers } : Act) v undef h2
            rw [← e]
            have e2 : ({ (a.put oi.dst v) with defers := df :: (a.put oi.dst v).defers } : Act) = ({ a with defers := df :: a.defers } : Act).put oi.dst v := by cases oi.dst <;> rfl
            rw [← e2]
            exact h.2
        case enter f args =>
          have hpr : ∀ w'', (k ∈ E → D w'') → D' w'' := by
            intro w'' hE
            rcases hpres with hall | hb | hb
            · exact hall w''
            · obtain ⟨⟨u, hu⟩, _⟩ := hkeep hb _ _ rfl
              cases hu
            · exact (hDD k hb).2 _ (hE (hDD k hb).1)
          refine h.mono fun e w'' he => ?_
          cases e with
          | returned u => exact ⟨he.1, hpr _ he.1, keep a hy u, by rw [← Act.put_comm a v u h2]; exact he.2⟩
          | panicked ch => exact hpi ch a w'' _ _ he
          | outgrown => exact he
        case row rw' args =>
          have hpr : ∀ w'', (k ∈ E → D w'') → D' w'' := by
            intro w'' hE
            rcases hpres with hall | hb | hb
            · exact hall w''
            · obtain ⟨⟨u, hu⟩, _⟩ := hkeep hb _ _ rfl
              cases hu
            · exact (hDD k hb).2 _ (hE (hDD k hb).1)
          refine h.mono fun u w'' he => ?_
          exact ⟨he.1, hpr _ he.1, keep a hy u, by rw [← Act.put_comm a v u h2]; exact he.2⟩
      | halt x w' =>
        cases x <;> simp only [Oper.upon] at h ⊢
        exact hpi _ a w' _ _ h
    · right
      refine ⟨?_, h.2⟩
      have := h.1
      unfold Oper.asks at *
      rw [execOp_put ok hsk a oi.dst v h1] at this
      exact this
  · rw [if_neg hw] at h ⊢
    exact ⟨h.1, hD, keep a hy _, by rw [← Act.put_comm a v undef h2]; exact h.2⟩

theorem wpAnyE_first {D D' : World → Prop} {E E' : List Nat} {i : Nat} {oi : Oper} (hi : ops[i]? = some oi) (hpi : PanInv Q) (hsel : ∀ (k : Nat) (o : Oper) cs b, ops[k]? = some o → o.op ≠ .select cs b) (hiD : i ∈ E → ∀ w, D' w → D w) (hDD : ∀ k ∈ E', k ∈ E ∧ ∀ w, D w → D' w) (hDk : ∀ w w', CellsGo w w' → D' w → D' w')
    (listed0 : Array Bool) (hpres : (∀ w, D' w) ∨ presE md ops E' listed0 i = true) :
    ∀ (fuel : Nat) (listed : Array Bool) (a : Act) (w : World),
      (∀ k ok, ops[k]? = some ok → k ≠ i → listed.getD k true = false → (∀ e ∈ ok.after, Region.binds md e = true → e.on ≠ i) → oi.apart ops ok = true) →
      (∀ k, listed.getD k true = false → listed0.getD k true = false) →
      (∀ k, listed.getD k false = true → listed0.getD k false = true ∨ ∀ f, canB md ops listed0 i f k = true) →
      i ∈ Region.ready md ops listed → D' w → YD P ops D' oi v a →
      wpAnyE P md ops Q D E fuel (listed.setIfInBounds i true) (a.put oi.dst v) w → wpAnyE P md ops Q D E (fuel + 1) listed a w := by
  intro fuel
  have hcan : ∀ (listed : Array Bool), (∀ k, listed.getD k false = true → listed0.getD k false = true ∨ ∀ f, canB md ops listed0 i f k = true) → ∀ k ok, ops[k]? = some ok → k ≠ i → (∀ e ∈ ok.after, Region.binds md e = true → listed.getD e.on false = true) → ∀ f, canB md ops listed0 i f k = true := by
    intro listed hl k ok hk hki hall f
    cases f with
    | zero => rfl
    | succ f =>
      simp only [canB, hk, Bool.and_eq_true, bne_iff_ne, ne_eq, hki, not_false_eq_true, true_and]
      rw [Array.all_eq_true_iff_forall_mem]
      intro e he
      by_cases hb : Region.binds md e = true
      · rcases hl _ (hall e he hb) with h | h
        · simp [h]
        · simp [h f]
      · simp [hb]
  have hp : ∀ (listed : Array Bool), (∀ k, listed.getD k true = false → listed0.getD k true = false) → (∀ k, listed.getD k false = true → listed0.getD k false = true ∨ ∀ f, canB md ops listed0 i f k = true) → ∀ k ok, ops[k]? = some ok → k ≠ i → listed.getD k true = false → (∀ e ∈ ok.after, Region.binds md e = true → listed.getD e.on false = true) → (∀ w, D' w) ∨ keepsB ok = true ∨ k ∈ E' := by
    intro listed hl0 hl k ok hk hki hun hall
    rcases hpres with h | h
    · exact .inl h
    · right
      have hc := hcan listed hl k ok hk hki hall ops.size
      have h1 := List.all_eq_true.1 h k (List.mem_range.2 (Array.getElem?_eq_some_iff.1 hk).1)
      simp only [hk, Bool.or_eq_true, beq_iff_eq, hki, false_or, hl0 k hun, Bool.false_eq_true, hc, Bool.not_true, List.contains_iff_mem] at h1
      exact h1.symm
  induction fuel with
  | zero =>
    intro listed a w _ _ _ hr hD hy H
    refine ⟨fun h => (by rw [h] at hr; cases hr), fun k hk => ?_⟩
    by_cases hki : k = i
    · subst hki; exact hy.wpOp hi hD ⟨fun h => hiD h _ hD, H⟩
    · have := ready_mono hk hki
      rw [H.1] at this
      cases this
  | succ fuel ih =>
    intro listed a w hfree hl0 hl hr hD hy H
    refine ⟨fun h => (by rw [h] at hr; cases hr), fun k hk => ?_⟩
    by_cases hki : k = i
    · subst hki; exact hy.wpOp hi hD ⟨fun h => hiD h _ hD, H⟩
    · have h1 := H.2 k (ready_mono hk hki)
      obtain ⟨hkun, ok, hok, hall⟩ := mem_ready.1 hk
      have hnot : ∀ e ∈ ok.after, Region.binds md e = true → e.on ≠ i := fun e he hb heq => by
        have h1 := hall e he hb
        have h0 := (mem_ready.1 hr).1
        rw [heq] at h1
        rcases Nat.lt_or_ge i listed.size with h' | h'
        · simp [h'] at h0 h1; rw [h0] at h1; cases h1
        · simp [Array.getElem?_eq_none h'] at h1
      have h2 := wpOp_putE (D := D) (E := E) (E' := E') hok (hfree k ok hok hki hkun hnot) hpi (fun cs b => hsel i oi cs b hi) (fun cs b => hsel k ok cs b hok) hDD hDk (hp listed hl0 hl k ok hok hki hkun hall) hD hy h1
      have hfree' : ∀ m om, ops[m]? = some om → m ≠ i → (listed.setIfInBounds k true).getD m true = false →
          (∀ e ∈ om.after, Region.binds md e = true → e.on ≠ i) → oi.apart ops om = true := fun m om hm hmi hun hno => by
        refine hfree m om hm hmi ?_ hno
        by_cases hkm : k = m
        · subst hkm; exact hkun
        · rw [getD_set_ne true hkm] at hun; exact hun
      have hl0' : ∀ m, (listed.setIfInBounds k true).getD m true = false → listed0.getD m true = false := fun m hm => by
        by_cases hkm : k = m
        · subst hkm; exact hl0 k hkun
        · rw [getD_set_ne true hkm] at hm; exact hl0 m hm
      have hl' : ∀ m, (listed.setIfInBounds k true).getD m false = true → listed0.getD m false = true ∨ ∀ f, canB md ops listed0 i f m = true := fun m hm => by
        by_cases hkm : k = m
        · subst hkm; exact .inr (hcan listed hl k ok hok hki hall)
        · rw [getD_set_ne false hkm] at hm; exact hl m hm
      refine wpOp_mono (fun a' w' h3 => ⟨h3.1, ih (listed.setIfInBounds k true) a' w' hfree' hl0' hl' (ready_mono hr (Ne.symm hki)) h3.2.1 h3.2.2.1 ?_⟩) h2
      rw [Array.setIfInBounds_comm _ _ hki]
      exact h3.2.2.2


theorem reg_E {id : Nat} {lo : List Oper} {H : HProp} (D : World → Prop) (E : List Nat) (hF : Fit w0 H w) (hm : P.follows .mixedOrders = true) (k : ∀ w, Fit w0 H w → wpAnyE P .any lo.toArray Q D E lo.toArray.size (Array.replicate lo.toArray.size false) a w) :
    (Code.region id lo.toArray true).wp P Q a w := reg_any hF hm fun w h => wpAny_of_E _ _ _ _ (k w h)
theorem e_val {D : World → Prop} {E : List Nat} {fuel i : Nat} {listed : Array Bool} (hpi : PanInv Q) (hi : ops[i]? = some o) (hns : Region.noSelect ops = true) (hrd : (Region.ready .any ops listed).contains i = true) (hfr : Region.free .any ops listed i = true)
    (hiE : E.contains i = false) (hw : Region.wanted o (yielded ops a.tmps) = true) (hd : o.dst = some d) (hn : Nat.blt d n = true) (hr : RepD Df n (lk l j) a) (hrun : ∀ w, (execOp (evE (lk l j)) o).run P w = .ok (.value v) w)
    (k : ∀ a, RepD Df n (lk ((d, v) :: l) j) a → wpAnyE P .any ops Q D E fuel (listed.setIfInBounds i true) a w) : wpAnyE P .any ops Q D E (fuel + 1) listed a w := by
  refine wpAnyE_first (D := D) (D' := fun _ => True) (E := E) (E' := []) (v := v) hi hpi (Region.noSelect_spec hns) (fun h => absurd h (by simpa using hiE)) (fun _ h => nomatch h) (fun _ _ _ _ => trivial) listed (.inl fun _ => trivial) fuel listed a w (Region.free_spec hi hfr) (fun _ h => h) (fun _ h => .inl h) (by simpa using hrd) trivial ?_ ?_
  · exact .inl ⟨hw, fun w _ => by rw [hr.eval]; exact hrun w⟩
  · rw [hd]; exact k _ (hr.put d v hn)
theorem e_off {D : World → Prop} {E : List Nat} {fuel i : Nat} {listed : Array Bool} (hpi : PanInv Q) (hi : ops[i]? = some o) (hns : Region.noSelect ops = true) (hrd : (Region.ready .any ops listed).contains i = true) (hfr : Region.free .any ops listed i = true)
    (hiE : E.contains i = false) (hw : Region.wanted o (yielded ops a.tmps) = false) (hd : o.dst = some d) (hn : Nat.blt d n = true) (hr : RepD Df n (lk l j) a)
    (k : ∀ a, RepD Df n (lk ((d, undef) :: l) j) a → wpAnyE P .any ops Q D E fuel (listed.setIfInBounds i true) a w) : wpAnyE P .any ops Q D E (fuel + 1) listed a w := by
  refine wpAnyE_first (D := D) (D' := fun _ => True) (E := E) (E' := []) (v := undef) hi hpi (Region.noSelect_spec hns) (fun h => absurd h (by simpa using hiE)) (fun _ h => nomatch h) (fun _ _ _ _ => trivial) listed (.inl fun _ => trivial) fuel listed a w (Region.free_spec hi hfr) (fun _ h => h) (fun _ h => .inl h) (by simpa using hrd) trivial ?_ ?_
  · exact .inr ⟨hw, rfl⟩
  · rw [hd]; exact k _ (hr.put d undef hn)
theorem heldC_go : ∀ (cs : List Value) (b off : Nat) (w w' : World), CellsGo w w' → heldC w b off cs → heldC w' b off cs
  | [], _, _, _, _, _, _ => trivial
  | _ :: cs, b, off, w, w', hg, h => ⟨hg _ _ h.1, heldC_go cs b (off + 1) w w' hg h.2⟩
theorem e_load {D : World → Prop} {E : List Nat} (E' : List Nat) {fuel i : Nat} {listed : Array Bool} {b off : Nat} {cs : List Value} (hpi : PanInv Q) (hDD : ∀ k ∈ E', k ∈ E ∧ ∀ w, D w → heldC w b off cs) (hi : ops[i]? = some o) (hns : Region.noSelect ops = true) (hrd : (Region.ready .any ops listed).contains i = true) (hfr : Region.free .any ops listed i = true)
    (hpr : presE .any ops E' listed i = true) (hiE : E.contains i = false) (hw : Region.wanted o (yielded ops a.tmps) = true) (hd : o.dst = some d) (hn : Nat.blt d n = true) (hr : RepD Df n (lk l j) a)
    (hc : heldC w b off cs) (hrun : ∀ w, heldC w b off cs → (execOp (evE (lk l j)) o).run P w = .ok (.value v) w)
    (k : ∀ a, RepD Df n (lk ((d, v) :: l) j) a → wpAnyE P .any ops Q D E fuel (listed.setIfInBounds i true) a w) : wpAnyE P .any ops Q D E (fuel + 1) listed a w := by
  refine wpAnyE_first (D := D) (D' := fun w => heldC w b off cs) (E := E) (E' := E') (v := v) hi hpi (Region.noSelect_spec hns) (fun h => absurd h (by simpa using hiE)) hDD (fun w w' => heldC_go cs b off w w') listed (.inr hpr) fuel listed a w (Region.free_spec hi hfr) (fun _ h => h) (fun _ h => .inl h) (by simpa using hrd) hc ?_ ?_
  · exact .inl ⟨hw, fun w h => by rw [hr.eval]; exact hrun w h⟩
  · rw [hd]; exact k _ (hr.put d v hn)
theorem e_each {D : World → Prop} {E : List Nat} {fuel : Nat} {listed : Array Bool} (r : List Nat) (hrd : Region.ready .any ops listed = r) (hne : r.isEmpty = false)
    (k : VAll (fun i => ∃ o, ops[i]? = some o ∧ wpList P ops (Exit.then (fun a w => (i ∈ E → D w) ∧ wpAnyE P .any ops Q D E fuel (listed.setIfInBounds i true) a w) Q) [o] a w) r) : wpAnyE P .any ops Q D E (fuel + 1) listed a w := by
  refine ⟨(fun h => by rw [hrd] at h; rw [h] at hne; cases hne), fun k' hk' => ?_⟩
  rw [hrd] at hk'
  obtain ⟨o, hi, k⟩ := VAll.mem k k' hk'
  unfold wpOp
  simp only [hi]
  unfold wpList at k
  have hlo : LetsOut (Exit.then (fun a w => (k' ∈ E → D w) ∧ wpAnyE P .any ops Q D E fuel (listed.setIfInBounds k' true) a w) Q) → LetsOut Q := fun ⟨a, w, h⟩ => ⟨a, w, h⟩
  have hmo : ∀ {x : Act} {y : World} {K : Act → World → Prop}, o.wp P x y K (Exit.then (fun a w => (k' ∈ E → D w) ∧ wpAnyE P .any ops Q D E fuel (listed.setIfInBounds k' true) a w) Q) → o.wp P x y K Q := by
    intro x y K h
    unfold Oper.wp at *
    generalize (execOp x.eval o).run P y = r at *
    cases r with
    | ok z w' =>
      cases z <;> simp only [Oper.upon] at h ⊢ <;> first
        | exact h
        | (refine h.mono fun e w'' he => ?_
           cases e with
           | returned u => exact he
           | panicked ch => exact he
           | outgrown => exact hlo he)
    | halt z w' => cases z <;> simp only [Oper.upon] at h ⊢ <;> exact h
  split
  · rename_i hw
    rw [if_pos hw] at k
    rcases k with k | k
    · exact .inl (Oper.wp_mono (fun _ _ h => h) (hmo k))
    · exact .inr ⟨k.1, hlo k.2⟩
  · rename_i hw
    rw [if_neg hw] at k
    exact k
theorem e_one {D : World → Prop} {E : List Nat} {fuel i : Nat} {listed : Array Bool} (hrd : Region.ready .any ops listed = [i]) (hi : ops[i]? = some o)
    (k : wpList P ops (Exit.then (fun a w => (i ∈ E → D w) ∧ wpAnyE P .any ops Q D E fuel (listed.setIfInBounds i true) a w) Q) [o] a w) : wpAnyE P .any ops Q D E (fuel + 1) listed a w :=
  e_each [i] hrd rfl (vall_cons ⟨o, hi, k⟩ vall_nil)
theorem e_end {D : World → Prop} {E : List Nat} {fuel : Nat} {listed : Array Bool} (hrd : Region.ready .any ops listed = []) (k : Q .normal a w) : wpAnyE P .any ops Q D E fuel listed a w := by
  cases fuel with
  | zero => exact ⟨hrd, k⟩
  | succ f => exact ⟨fun _ => k, fun i hi => by rw [hrd] at hi; cases hi⟩

theorem cut_mid {c : Code} (I : Act → World → Prop) (h : c.wp P (Exit.then I Q) a w) (k : ∀ a w, I a w → Q .normal a w) : c.wp P Q a w :=
  Code.wp_mono (fun e a w q => by
    cases e with
    | normal => exact k a w q
    | _ => exact q) h

/-! ### short forms -/
class PI (Q : Exit → Act → World → Prop) : Prop where
  pi : PanInv Q
instance pi_body {fn : Func} {R : Ending → World → Prop} : PI (bodyPost P fn R) := ⟨paninv_body⟩
instance pi_then {K : Act → World → Prop} [h : PI Q] : PI (Exit.then K Q) := ⟨paninv_then h.pi⟩
instance pi_block {i : Nat} [h : PI Q] : PI (Exit.inBlock i Q) := ⟨paninv_block h.pi⟩
def okB (ops : Array Oper) (E : List Nat) (listed : Array Bool) (i : Nat) : Bool := Region.noSelect ops && (Region.ready .any ops listed).contains i && Region.free .any ops listed i && !E.contains i
theorem okB_s {E : List Nat} {listed : Array Bool} {i : Nat} (h : okB ops E listed i = true) : Region.noSelect ops = true ∧ (Region.ready .any ops listed).contains i = true ∧ Region.free .any ops listed i = true ∧ E.contains i = false := by
  unfold okB at h
  simp only [Bool.and_eq_true, Bool.not_eq_true'] at h
  exact ⟨h.1.1.1, h.1.1.2, h.1.2, h.2⟩
theorem ev {D : World → Prop} {E : List Nat} {listed : Array Bool} [hp : PI Q] (fuel i : Nat) (hi : ops[i]? = some o) (hB : okB ops E listed i = true) (hw : Region.wanted o (yielded ops a.tmps) = true) (hr : RepD Df n (lk l j) a) (v : Value)
    (hrun : ∀ w, (execOp (evE (lk l j)) o).run P w = .ok (.value v) w) (k : ∀ a, RepD Df n (lk ((d, v) :: l) j) a → wpAnyE P .any ops Q D E fuel (listed.setIfInBounds i true) a w) (hd : o.dst = some d := by rfl) (hn : Nat.blt d n = true := by rfl) :
    wpAnyE P .any ops Q D E (fuel + 1) listed a w :=
  have hb := okB_s hB
  e_val hp.pi hi hb.1 hb.2.1 hb.2.2.1 hb.2.2.2 hw hd hn hr hrun k
theorem eo {D : World → Prop} {E : List Nat} {listed : Array Bool} [hp : PI Q] (fuel i : Nat) (hi : ops[i]? = some o) (hB : okB ops E listed i = true) (hw : Region.wanted o (yielded ops a.tmps) = false) (hr : RepD Df n (lk l j) a)
    (k : ∀ a, RepD Df n (lk ((d, undef) :: l) j) a → wpAnyE P .any ops Q D E fuel (listed.setIfInBounds i true) a w) (hd : o.dst = some d := by rfl) (hn : Nat.blt d n = true := by rfl) :
    wpAnyE P .any ops Q D E (fuel + 1) listed a w :=
  have hb := okB_s hB
  e_off hp.pi hi hb.1 hb.2.1 hb.2.2.1 hb.2.2.2 hw hd hn hr k
def okP (ops : Array Oper) (E : List Nat) (listed : Array Bool) (i : Nat) : Bool := Region.noSelect ops && (Region.ready .any ops listed).contains i && Region.free .any ops listed i && presE .any ops E listed i
theorem okP_s {E : List Nat} {listed : Array Bool} {i : Nat} (h : okP ops E listed i = true) : Region.noSelect ops = true ∧ (Region.ready .any ops listed).contains i = true ∧ Region.free .any ops listed i = true ∧ presE .any ops E listed i = true := by
  unfold okP at h
  simp only [Bool.and_eq_true] at h
  exact ⟨h.1.1.1, h.1.1.2, h.1.2, h.2⟩
theorem evD {D : World → Prop} {E : List Nat} {listed : Array Bool} [hp : PI Q] (hgo : ∀ w w', CellsGo w w' → D w → D w') (hDw : D w) (fuel i : Nat) (hi : ops[i]? = some o) (hB : okP ops E listed i = true) (hw : Region.wanted o (yielded ops a.tmps) = true) (hr : RepD Df n (lk l j) a) (v : Value)
    (hrun : ∀ w, (execOp (evE (lk l j)) o).run P w = .ok (.value v) w) (k : ∀ a, RepD Df n (lk ((d, v) :: l) j) a → wpAnyE P .any ops Q D E fuel (listed.setIfInBounds i true) a w) (hd : o.dst = some d := by rfl) (hn : Nat.blt d n = true := by rfl) :
    wpAnyE P .any ops Q D E (fuel + 1) listed a w := by
  have hb := okP_s hB
  refine wpAnyE_first (D := D) (D' := D) (E := E) (E' := E) (v := v) hi hp.pi (Region.noSelect_spec hb.1) (fun _ _ h => h) (fun k hk => ⟨hk, fun _ h => h⟩) hgo listed (.inr hb.2.2.2) fuel listed a w (Region.free_spec hi hb.2.2.1) (fun _ h => h) (fun _ h => .inl h) (by simpa using hb.2.1) hDw ?_ ?_
  · exact .inl ⟨hw, fun w _ => by rw [hr.eval]; exact hrun w⟩
  · rw [hd]; exact k _ (hr.put d v hn)
theorem eoD {D : World → Prop} {E : List Nat} {listed : Array Bool} [hp : PI Q] (hgo : ∀ w w', CellsGo w w' → D w → D w') (hDw : D w) (fuel i : Nat) (hi : ops[i]? = some o) (hB : okP ops E listed i = true) (hw : Region.wanted o (yielded ops a.tmps) = false) (hr : RepD Df n (lk l j) a)
    (k : ∀ a, RepD Df n (lk ((d, undef) :: l) j) a → wpAnyE P .any ops Q D E fuel (listed.setIfInBounds i true) a w) (hd : o.dst = some d := by rfl) (hn : Nat.blt d n = true := by rfl) :
    wpAnyE P .any ops Q D E (fuel + 1) listed a w := by
  have hb := okP_s hB
  refine wpAnyE_first (D := D) (D' := D) (E := E) (E' := E) (v := undef) hi hp.pi (Region.noSelect_spec hb.1) (fun _ _ h => h) (fun k hk => ⟨hk, fun _ h => h⟩) hgo listed (.inr hb.2.2.2) fuel listed a w (Region.free_spec hi hb.2.2.1) (fun _ h => h) (fun _ h => .inl h) (by simpa using hb.2.1) hDw ?_ ?_
  · exact .inr ⟨hw, rfl⟩
  · rw [hd]; exact k _ (hr.put d undef hn)
theorem el {D : World → Prop} {E : List Nat} {listed : Array Bool} (E' : List Nat) {b off : Nat} {cs : List Value} [hp : PI Q] (hDD : ∀ k ∈ E', k ∈ E ∧ ∀ w, D w → heldC w b off cs) (fuel i : Nat) (hi : ops[i]? = some o) (hB : (okB ops E listed i && presE .any ops E' listed i) = true) (hw : Region.wanted o (yielded ops a.tmps) = true) (hr : RepD Df n (lk l j) a) (v : Value)
    (hc : heldC w b off cs) (hrun : ∀ w, heldC w b off cs → (execOp (evE (lk l j)) o).run P w = .ok (.value v) w)
    (k : ∀ a, RepD Df n (lk ((d, v) :: l) j) a → wpAnyE P .any ops Q D E fuel (listed.setIfInBounds i true) a w) (hd : o.dst = some d := by rfl) (hn : Nat.blt d n = true := by rfl) :
    wpAnyE P .any ops Q D E (fuel + 1) listed a w := by
  rw [Bool.and_eq_true] at hB
  have hb := okB_s hB.1
  exact e_load E' hp.pi hDD hi hb.1 hb.2.1 hb.2.2.1 hB.2 hb.2.2.2 hw hd hn hr hc hrun k
theorem ov (hr : RepD Df n (lk l j) a) (v : Value) (hrun : (execOp (evE (lk l j)) o).run P w = .ok (.value v) w) (k : ∀ a, RepD Df n (lk ((d, v) :: l) j) a → wpList P ops Q rest a w)
    (hg : o.guard = none := by rfl) (hd : o.dst = some d := by rfl) (hn : Nat.blt d n = true := by rfl) : wpList P ops Q (o :: rest) a w := op_val (wn hg) hd hn hr hrun k
/-- Several that hang on the slots alone, one behind the other. -/
def runsE (P : Program) (n : Nat) : List Oper → List Value → List (Nat × Value) → (Nat → Value) → World → Bool → Prop
  | o :: os, v :: vs, l, j, w, b => ∃ d, o.guard = none ∧ o.dst = some d ∧ Nat.blt d n = true ∧ (execOp (evE (lk l j)) o).run P w = .ok (.value v) w ∧ runsE P n os vs ((d, v) :: l) j w b
  | _, _, _, _, _, _ => True
def addV : List Oper → List Value → List (Nat × Value) → List (Nat × Value)
  | o :: os, v :: vs, l => addV os vs ((o.dst.getD 0, v) :: l)
  | _, _, l => l
def runsR (P : Program) : List Oper → List Value → List (Nat × Value) → (Nat → Value) → World → List (Option Nat × Option (Nat × Bool) × Result Next)
  | o :: os, v :: vs, l, j, w => (o.dst, o.guard, (execOp (evE (lk l j)) o).run P w) :: runsR P os vs ((o.dst.getD 0, v) :: l) j w
  | _, _, _, _, _ => []
def wantR : List Nat → List Value → World → List (Option Nat × Option (Nat × Bool) × Result Next)
  | d :: ds, v :: vs, w => (some d, none, .ok (.value v) w) :: wantR ds vs w
  | _, _, _ => []
def addD : List Nat → List Value → List (Nat × Value) → List (Nat × Value)
  | d :: ds, v :: vs, l => addD ds vs ((d, v) :: l)
  | _, _, l => l
theorem ovs : ∀ (ds : List Nat) (vs : List Value) {os : List Oper} {a : Act} {l : List (Nat × Value)} (hr : RepD Df n (lk l j) a) (hl : ds.length = vs.length ∧ ds.all (fun d => Nat.blt d n) = true) (hrun : runsR P (os.take ds.length) vs l j w = wantR ds vs w)
    (k : ∀ a, RepD Df n (lk (addD ds vs l) j) a → wpList P ops Q (os.drop ds.length) a w), wpList P ops Q os a w
  | [], [], os, a, l, hr, _, _, k => k a hr
  | d :: ds, v :: vs, [], a, l, hr, hl, hrun, k => by simp [runsR, wantR] at hrun
  | d :: ds, v :: vs, o :: os, a, l, hr, hl, hrun, k => by
    simp only [List.length_cons, List.take_succ_cons, runsR, wantR, List.cons.injEq, Prod.mk.injEq] at hrun
    obtain ⟨⟨h1, h2, h3⟩, h4⟩ := hrun
    obtain ⟨hl1, hl2⟩ := hl
    simp only [List.all_cons, Bool.and_eq_true] at hl2
    refine op_val (wn h2) h1 hl2.1 hr h3 fun a hr => ?_
    rw [h1] at h4
    exact ovs ds vs hr ⟨by simpa using hl1, hl2.2⟩ h4 k
theorem _root_.Go.Proofs.YtpikpffbcjpmcaaGreatDoor.GX.RepD.fold2 {e : Nat → Value} (h : RepD Df n e a) (l : List (Nat × Value)) (hl : l.map (fun p => e p.1) = l.map (·.2)) : ∃ j, RepD Df n (lk l j) a := by
  refine h.fold l ?_
  induction l with
  | nil => trivial
  | cons p l ih => simp only [List.map_cons, List.cons.injEq] at hl; exact ⟨hl.1, ih hl.2⟩
theorem cond_tt {c : Operand} {x y : Code} {e : Nat → Value} (hr : RepD Df n e a) {b : Bool} (hb : b = true) (h : x.wp P Q a w) (hc : evE e c = .bool b := by kernel_rfl) : (Code.cond c x y).wp P Q a w := cond_t hr hc hb h
theorem cond_ff {c : Operand} {x y : Code} {e : Nat → Value} (hr : RepD Df n e a) {b : Bool} (hb : b = false) (h : y.wp P Q a w) (hc : evE e c = .bool b := by kernel_rfl) : (Code.cond c x y).wp P Q a w := cond_f hr hc hb h

/-! ### several that are ready -/
theorem any_each {fuel : Nat} {listed : Array Bool} (r : List Nat) (hrd : Region.ready .any ops listed = r) (hne : r.isEmpty = false)
    (k : VAll (fun i => ∃ o, ops[i]? = some o ∧ wpList P ops (Exit.then (fun a w => wpAny P .any ops Q fuel (listed.setIfInBounds i true) a w) Q) [o] a w) r) : wpAny P .any ops Q (fuel + 1) listed a w := by
  refine ⟨(fun h => by rw [hrd] at h; rw [h] at hne; cases hne), fun k' hk' => ?_⟩
  rw [hrd] at hk'
  obtain ⟨o, hi, k⟩ := VAll.mem k k' hk'
  unfold wpOp
  simp only [hi]
  unfold wpList at k
  have hlo : LetsOut (Exit.then (fun a w => wpAny P .any ops Q fuel (listed.setIfInBounds k' true) a w) Q) → LetsOut Q := fun ⟨a, w, h⟩ => ⟨a, w, h⟩
  have hmo : ∀ {x : Act} {y : World} {K : Act → World → Prop}, o.wp P x y K (Exit.then (fun a w => wpAny P .any ops Q fuel (listed.setIfInBounds k' true) a w) Q) → o.wp P x y K Q := by
    intro x y K h
    unfold Oper.wp at *
    generalize (execOp x.eval o).run P y = r at *
    cases r with
    | ok z w' =>
      cases z <;> simp only [Oper.upon] at h ⊢ <;> first
        | exact h
        | (refine h.mono fun e w'' he => ?_
           cases e with
           | returned u => exact he
           | panicked ch => exact he
           | outgrown => exact hlo he)
    | halt z w' => cases z <;> simp only [Oper.upon] at h ⊢ <;> exact h
  split
  · rename_i hw
    rw [if_pos hw] at k
    rcases k with k | k
    · exact .inl (Oper.wp_mono (fun _ _ h => h) (hmo k))
    · exact .inr ⟨k.1, hlo k.2⟩
  · rename_i hw
    rw [if_neg hw] at k
    exact k
end
end Go.Proofs.YtpikpffbcjpmcaaGreatDoor.GX
