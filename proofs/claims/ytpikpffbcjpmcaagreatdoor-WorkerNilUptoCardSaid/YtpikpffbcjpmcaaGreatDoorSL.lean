/- A small separation logic over the model's heap: what a call owns, what it leaves alone. No program is named here. -/
import Derived.Below
import Derived.OwnWalk
import Derived.Deep.Draws
namespace Go.Proofs.YtpikpffbcjpmcaaGreatDoor.SL
open Go Go.RowKit

/-- A part of the heap. -/
abbrev Hp := Nat → Option Obj
abbrev HProp := Hp → Prop
def Hp.none : Hp := fun _ => Option.none
def Hp.add (a b : Hp) : Hp := fun k => match a k with | some o => some o | Option.none => b k
def Hp.disj (a b : Hp) : Prop := ∀ k, a k = Option.none ∨ b k = Option.none

def emp : HProp := fun h => h = Hp.none
def sep (P Q : HProp) : HProp := fun h => ∃ a b, a.disj b ∧ h = a.add b ∧ P a ∧ Q b
def pts (b : Nat) (o : Obj) : HProp := fun h => h = fun k => if k = b then some o else Option.none
def pur (p : Prop) : HProp := fun h => p ∧ h = Hp.none
def exs {α : Type} (P : α → HProp) : HProp := fun h => ∃ x, P x h
def sepL : List HProp → HProp
  | [] => emp
  | P :: L => sep P (sepL L)

theorem Hp.disj_comm {a b : Hp} (h : a.disj b) : b.disj a := fun k => (h k).symm
theorem Hp.add_comm {a b : Hp} (h : a.disj b) : a.add b = b.add a := by
  funext k
  unfold Hp.add
  rcases h k with h | h <;> rw [h] <;> cases a k <;> cases b k <;> simp_all
theorem Hp.add_assoc (a b c : Hp) : (a.add b).add c = a.add (b.add c) := by
  funext k; unfold Hp.add; cases a k <;> rfl
theorem Hp.disj_add_right {a b c : Hp} (h1 : a.disj b) (h2 : a.disj c) : a.disj (b.add c) := fun k => by
  rcases h1 k with h | h
  · exact .inl h
  · rcases h2 k with h' | h'
    · exact .inl h'
    · exact .inr (by unfold Hp.add; rw [h, h'])
theorem Hp.disj_of_add {a b c : Hp} (h : a.disj (b.add c)) : a.disj b ∧ a.disj c := by
  constructor
  · intro k
    rcases h k with h | h
    · exact .inl h
    · refine .inr ?_
      unfold Hp.add at h
      cases hb : b k with
      | none => rfl
      | some o => rw [hb] at h; exact absurd h (by simp)
  · intro k
    rcases h k with h | h
    · exact .inl h
    · refine .inr ?_
      unfold Hp.add at h
      cases hb : b k with
      | none => rw [hb] at h; exact h
      | some o => rw [hb] at h; exact absurd h (by simp)
theorem Hp.add_none (a : Hp) : a.add Hp.none = a := by funext k; unfold Hp.add Hp.none; cases a k <;> rfl
theorem Hp.none_add (a : Hp) : Hp.none.add a = a := rfl
theorem Hp.disj_none (a : Hp) : a.disj Hp.none := fun _ => .inr rfl
theorem Hp.none_disj (a : Hp) : Hp.none.disj a := fun _ => .inl rfl

theorem sep_comm (P Q : HProp) : sep P Q = sep Q P := by
  funext h
  apply propext
  constructor <;>
  · rintro ⟨a, b, hd, rfl, hp, hq⟩
    exact ⟨b, a, Hp.disj_comm hd, Hp.add_comm hd, hq, hp⟩
theorem sep_assoc (P Q R : HProp) : sep (sep P Q) R = sep P (sep Q R) := by
  funext h
  apply propext
  constructor
  · rintro ⟨ab, c, hd, rfl, ⟨a, b, hd', rfl, hp, hq⟩, hr⟩
    obtain ⟨h1, h2⟩ := Hp.disj_of_add (Hp.disj_comm hd)
    exact ⟨a, b.add c, Hp.disj_add_right hd' (Hp.disj_comm h1), Hp.add_assoc _ _ _, hp, b, c, Hp.disj_comm h2, rfl, hq, hr⟩
  · rintro ⟨a, bc, hd, rfl, hp, b, c, hd', rfl, hq, hr⟩
    obtain ⟨h1, h2⟩ := Hp.disj_of_add hd
    exact ⟨a.add b, c, Hp.disj_comm (Hp.disj_add_right (Hp.disj_comm h2) (Hp.disj_comm hd')), (Hp.add_assoc _ _ _).symm, ⟨a, b, h1, rfl, hp, hq⟩, hr⟩
theorem sep_left_comm (P Q R : HProp) : sep P (sep Q R) = sep Q (sep P R) := by
  rw [← sep_assoc, sep_comm P Q, sep_assoc]
theorem sep_emp (P : HProp) : sep P emp = P := by
  funext h
  apply propext
  constructor
  · rintro ⟨a, b, _, rfl, hp, rfl⟩; rw [Hp.add_none]; exact hp
  · intro hp; exact ⟨h, Hp.none, Hp.disj_none h, (Hp.add_none h).symm, hp, rfl⟩

theorem sepL_append (L M : List HProp) : sepL (L ++ M) = sep (sepL L) (sepL M) := by
  induction L with
  | nil => show sepL M = sep emp (sepL M); rw [sep_comm, sep_emp]
  | cons P L ih => show sep P (sepL (L ++ M)) = sep (sep P (sepL L)) (sepL M); rw [ih, sep_assoc]
theorem sepL_perm {L M : List HProp} (h : L.Perm M) : sepL L = sepL M := by
  induction h with
  | nil => rfl
  | cons P _ ih => show sep P _ = sep P _; rw [ih]
  | swap P Q L => exact sep_left_comm _ _ _
  | trans _ _ h1 h2 => exact h1.trans h2

/-- The i-th goes to the head. -/
def pick (i : Nat) (L : List HProp) : List HProp := match L[i]? with | some P => P :: L.eraseIdx i | Option.none => L
theorem sepL_pick (i : Nat) (L : List HProp) : sepL (pick i L) = sepL L := by
  unfold pick
  induction L generalizing i with
  | nil => rfl
  | cons P L ih =>
    cases i with
    | zero => rfl
    | succ i =>
      have hi := ih i
      simp only [List.getElem?_cons_succ, List.eraseIdx_cons_succ]
      cases hg : L[i]? with
      | none => rfl
      | some Q =>
        rw [hg] at hi
        show sep Q (sep P (sepL (L.eraseIdx i))) = sep P (sepL L)
        rw [← hi]
        exact sep_left_comm _ _ _

/-- The world holds P somewhere; the streams are as in w0, no block has gone. -/
structure Fit (w0 : World) (P : HProp) (w : World) : Prop where
  sat : ∃ h : Hp, (∀ k o, h k = some o → w.heap[k]? = some o) ∧ P h
  os : w.os = w0.os
  tape : w.tape = w0.tape
  output : w.output = w0.output
  size : w0.heap.size ≤ w.heap.size

section
variable {w0 w : World} {L M : List HProp} {P Q : HProp}

theorem Fit.imp (h : Fit w0 P w) (i : ∀ x, P x → Q x) : Fit w0 Q w :=
  let ⟨x, hx, hp⟩ := h.sat
  ⟨⟨x, hx, i x hp⟩, h.os, h.tape, h.output, h.size⟩
theorem Fit.eq (h : Fit w0 P w) (e : P = Q) : Fit w0 Q w := e ▸ h
theorem Fit.perm (h : Fit w0 (sepL L) w) (p : L.Perm M) : Fit w0 (sepL M) w := h.eq (sepL_perm p)
theorem Fit.pick (h : Fit w0 (sepL L) w) (i : Nat) : Fit w0 (sepL (pick i L)) w := h.eq (sepL_pick i L).symm
/-- From w0 to w1, from w1 to w. -/
theorem Fit.trans {w1 : World} {R : HProp} (h : Fit w0 R w1) (k : Fit w1 P w) : Fit w0 P w :=
  ⟨k.sat, k.os.trans h.os, k.tape.trans h.tape, k.output.trans h.output, Nat.le_trans h.size k.size⟩
theorem Fit.self (h : Fit w0 P w) : Fit w P w := ⟨h.sat, rfl, rfl, rfl, Nat.le_refl _⟩

theorem sep_mono {P P' Q Q' : HProp} (hp : ∀ x, P x → P' x) (hq : ∀ x, Q x → Q' x) (x : Hp) (h : sep P Q x) : sep P' Q' x :=
  let ⟨a, b, hd, e, p, q⟩ := h
  ⟨a, b, hd, e, hp a p, hq b q⟩
theorem Fit.head (h : Fit w0 (sepL (P :: L)) w) (i : ∀ x, P x → Q x) : Fit w0 (sepL (Q :: L)) w := h.imp (sep_mono i fun _ q => q)
theorem Fit.drop (h : Fit w0 (sepL (P :: L)) w) : Fit w0 (sepL L) w :=
  let ⟨x, hx, a, b, hd, e, p, q⟩ := h.sat
  ⟨⟨b, fun k o hk => hx k o (by
    rw [e]
    unfold Hp.add
    rcases hd k with h1 | h1
    · rw [h1]; exact hk
    · rw [h1] at hk; cases hk), q⟩, h.os, h.tape, h.output, h.size⟩
theorem Fit.open_exs {α : Type} {F : α → HProp} (h : Fit w0 (sepL (exs F :: L)) w) : ∃ x, Fit w0 (sepL (F x :: L)) w :=
  let ⟨x, hx, a, b, hd, e, ⟨y, p⟩, q⟩ := h.sat
  ⟨y, ⟨⟨x, hx, a, b, hd, e, p, q⟩, h.os, h.tape, h.output, h.size⟩⟩
theorem Fit.shut_exs {α : Type} {F : α → HProp} (x : α) (h : Fit w0 (sepL (F x :: L)) w) : Fit w0 (sepL (exs F :: L)) w := h.head fun _ p => ⟨x, p⟩
theorem Fit.open_pur {p : Prop} (h : Fit w0 (sepL (pur p :: L)) w) : p ∧ Fit w0 (sepL L) w :=
  let ⟨_, _, _, _, _, _, ⟨hp, _⟩, _⟩ := h.sat
  ⟨hp, h.drop⟩
theorem Fit.shut_pur {p : Prop} (hp : p) (h : Fit w0 (sepL L) w) : Fit w0 (sepL (pur p :: L)) w :=
  h.imp fun x hx => ⟨Hp.none, x, Hp.none_disj x, (Hp.none_add x).symm, ⟨hp, rfl⟩, hx⟩
theorem Fit.open_sepL (h : Fit w0 (sepL (sepL M :: L)) w) : Fit w0 (sepL (M ++ L)) w := h.eq (sepL_append M L).symm
theorem Fit.shut_sepL (M L : List HProp) (h : Fit w0 (sepL (M ++ L)) w) : Fit w0 (sepL (sepL M :: L)) w := h.eq (sepL_append M L)

/-! ### blocks -/
theorem Fit.block {b : Nat} {o : Obj} (h : Fit w0 (sepL (pts b o :: L)) w) : w.heap[b]? = some o := by
  obtain ⟨x, hx, a, c, hd, e, p, q⟩ := h.sat
  refine hx b o ?_
  rw [e, p]
  unfold Hp.add
  simp
theorem Fit.lt {b : Nat} {o : Obj} (h : Fit w0 (sepL (pts b o :: L)) w) : b < w.heap.size := (Array.getElem?_eq_some_iff.1 h.block).1
theorem Fit.cell {b : Nat} {cs : Array Value} {t : TypeId} {z : Nat × Nat} (h : Fit w0 (sepL (pts b (.cells cs t z) :: L)) w) (i : Nat) {v : Value} (hv : cs[i]? = some v) : w.cell? ⟨b, i, none⟩ = some v := by
  simp only [World.cell?, h.block]
  simpa using hv
theorem Fit.news {b : Nat} {cs : Array Value} {t : TypeId} {z : Nat × Nat} (h : Fit w0 (sepL (pts b (.cells cs t z) :: L)) w) {xs : List Value} (hx : cs.toList = xs) : ∀ j u, xs[j]? = some u → w.cell? ((⟨b, 0, none⟩ : Addr).add j) = some u := by
  subst hx
  intro j u hu
  have e : (⟨b, 0, none⟩ : Addr).add j = ⟨b, j, none⟩ := by unfold Addr.add; split <;> simp_all
  rw [e]
  exact h.cell j (by simpa using hu)
theorem Fit.free {b : Nat} {cs : Array Value} {t : TypeId} (h : Fit w0 (sepL (pts b (.cells cs t) :: L)) w) (i : Nat) : w.frozen? ⟨b, i, none⟩ = false := by
  simp [World.frozen?, h.block]
theorem Fit.ne {b b' : Nat} {o o' : Obj} (h : Fit w0 (sepL (pts b o :: pts b' o' :: L)) w) : b ≠ b' := by
  obtain ⟨x, hx, a, c, hd, e, p, a', c', hd', e', p', q⟩ := h.sat
  rintro rfl
  rcases hd b with h1 | h1
  · rw [p] at h1; simp at h1
  · rw [e', p'] at h1; unfold Hp.add at h1; simp at h1

theorem Fit.alloc (h : Fit w0 (sepL L) w) (o : Obj) : Fit w0 (sepL (pts w.heap.size o :: L)) (w.alloc o) := by
  obtain ⟨x, hx, hp⟩ := h.sat
  have hlt : ∀ k o', x k = some o' → k < w.heap.size := fun k o' hk => (Array.getElem?_eq_some_iff.1 (hx k o' hk)).1
  refine ⟨⟨_, ?_, (fun k => if k = w.heap.size then some o else Option.none), x, ?_, rfl, rfl, hp⟩, h.os, h.tape, h.output, ?_⟩
  · intro k o' hk
    unfold Hp.add at hk
    by_cases e : k = w.heap.size
    · subst e
      simp at hk
      subst hk
      exact heap_alloc_new w o
    · simp only [e, if_false] at hk
      rw [Below.heap_alloc w o k (hlt k o' hk)]
      exact hx k o' hk
  · intro k
    by_cases e : k = w.heap.size
    · right
      cases hk : x k with
      | none => rfl
      | some o' => have := hlt k o' hk; omega
    · left; simp [e]
  · have := h.size; simp; omega
theorem Fit.drew (h : Fit w0 P w) : Fit w0 P w.drew := ⟨h.sat, h.os, h.tape, h.output, h.size⟩
theorem Fit.drewN (h : Fit w0 P w) (n : Nat) : Fit w0 P (w.drewN n) := ⟨h.sat, h.os, h.tape, h.output, h.size⟩

/-- The block at the head is turned to another object; the rest stands. -/
theorem Fit.turn {b : Nat} {o o' : Obj} {w' : World} (h : Fit w0 (sepL (pts b o :: L)) w) (hb : w'.heap[b]? = some o') (hr : ∀ k, k ≠ b → k < w.heap.size → w'.heap[k]? = w.heap[k]?)
    (hos : w'.os = w.os) (ht : w'.tape = w.tape) (ho : w'.output = w.output) (hs : w.heap.size ≤ w'.heap.size) : Fit w0 (sepL (pts b o' :: L)) w' := by
  obtain ⟨x, hx, a, c, hd, e, p, q⟩ := h.sat
  refine ⟨⟨_, ?_, (fun k => if k = b then some o' else Option.none), c, ?_, rfl, rfl, q⟩, hos.trans h.os, ht.trans h.tape, ho.trans h.output, Nat.le_trans h.size hs⟩
  · intro k o'' hk
    unfold Hp.add at hk
    by_cases ek : k = b
    · subst ek
      simp at hk
      subst hk
      exact hb
    · simp only [ek, if_false] at hk
      have hk' : x k = some o'' := by rw [e, p]; unfold Hp.add; simp [ek, hk]
      have hw := hx k o'' hk'
      rw [hr k ek (Array.getElem?_eq_some_iff.1 hw).1]
      exact hw
  · intro k
    by_cases ek : k = b
    · right
      rcases hd k with h1 | h1
      · rw [p] at h1; simp [ek] at h1
      · exact h1
    · left; simp [ek]
theorem Fit.set {b : Nat} {cs : Array Value} {t : TypeId} (h : Fit w0 (sepL (pts b (.cells cs t) :: L)) w) (i : Nat) (v : Value) :
    Fit w0 (sepL (pts b (.cells (cs.setIfInBounds i v) t) :: L)) (w.setCell ⟨b, i, none⟩ v) := by
  refine h.turn (w' := w.setCell ⟨b, i, none⟩ v) ?_ ?_ rfl rfl rfl (by simp)
  · simp [World.setCell, Array.getElem?_modify, h.block]
  · intro k hk _
    exact Below.heap_setCell _ _ _ _ hk
/-- What stands in w stands in w' where the heap of w' goes on from that of w. -/
theorem Fit.same {w' : World} (h : Fit w0 P w) (hb : ∀ k, k < w.heap.size → w'.heap[k]? = w.heap[k]?) (hos : w'.os = w.os) (ht : w'.tape = w.tape) (ho : w'.output = w.output) (hs : w.heap.size ≤ w'.heap.size) : Fit w0 P w' := by
  obtain ⟨x, hx, p⟩ := h.sat
  exact ⟨⟨x, fun k o hk => by have := hx k o hk; rw [hb k (Array.getElem?_eq_some_iff.1 this).1]; exact this, p⟩, hos.trans h.os, ht.trans h.tape, ho.trans h.output, Nat.le_trans h.size hs⟩
end

/-- All that lay in W is as it was. -/
def old (W : World) : HProp := fun h => h = fun k => W.heap[k]?
theorem Fit.begin (W : World) : Fit W (sepL [old W]) W :=
  ⟨⟨fun k => W.heap[k]?, fun _ _ h => h, by show sep (old W) emp _; rw [sep_emp]; exact rfl⟩, rfl, rfl, rfl, Nat.le_refl _⟩
theorem Fit.below {W w : World} {L : List HProp} (h : Fit W (sepL (old W :: L)) w) : Below W.heap.size W w := by
  obtain ⟨x, hx, a, c, hd, e, p, q⟩ := h.sat
  refine ⟨h.os, h.tape, h.output, h.size, fun k hk => ?_⟩
  have hk' : W.heap[k]? = some W.heap[k] := Array.getElem?_eq_getElem hk
  rw [hk']
  refine hx k _ ?_
  rw [e, p]
  unfold Hp.add
  simp [hk']

theorem Fit.old_block {z W w : World} {L : List HProp} (h : Fit z (sepL (old W :: L)) w) {k : Nat} {o : Obj} (hk : W.heap[k]? = some o) : w.heap[k]? = some o := by
  obtain ⟨x, hx, a, c, hd, e, p, q⟩ := h.sat
  refine hx k _ ?_
  rw [e, p]
  unfold Hp.add
  simp [hk]
theorem Fit.old_cell {z W w : World} {L : List HProp} {ad : Addr} {u : Value} (h : Fit z (sepL (old W :: L)) w) (hc : W.cell? ad = some u) : w.cell? ad = some u := by
  have hlt := World.block_lt_of_cell? W ad hc
  have hk : W.heap[ad.block]? = some W.heap[ad.block] := Array.getElem?_eq_getElem hlt
  have := h.old_block hk
  simp only [World.cell?] at hc ⊢
  rw [this]
  rw [hk] at hc
  exact hc

end Go.Proofs.YtpikpffbcjpmcaaGreatDoor.SL
