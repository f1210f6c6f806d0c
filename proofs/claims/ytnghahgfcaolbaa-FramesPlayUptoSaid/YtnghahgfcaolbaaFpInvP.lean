/- What stays true of the machine of a play, and how many steps it has left. -/
import Derived.Test.YtnghahgfcaolbaaFpSmP
namespace Go.Proofs.Ytnghahgfcaolbaa.Mo
open Go Go.Proofs.Ytnghahgfcaolbaa.SL Go.Proofs.Ytnghahgfcaolbaa.GX
set_option linter.unusedVariables false
set_option linter.unusedSimpArgs false
def isum : List Int → Int
  | [] => 0
  | x :: l => x + isum l
def futl : List Int → Int
  | [] => 0
  | x :: l => 6 * x + 2 + futl l
def pre (q : List Int) (r : Nat) : Int := isum (q.take r)
def fut (q : List Int) (r : Nat) : Int := futl (q.drop r)
theorem drop_cons {α : Type} [Inhabited α] {l : List α} {i : Nat} (h : i < l.length) : l.drop i = at_ l i :: l.drop (i + 1) := by
  rw [List.drop_eq_getElem_cons h]; unfold at_; rw [List.getD_eq_getElem?_getD, List.getElem?_eq_getElem h]; rfl
theorem fut_next {q : List Int} {r : Nat} (h : r < q.length) : fut q r = 6 * at_ q r + 2 + fut q (r + 1) := by
  unfold fut; rw [drop_cons h]; rfl
theorem fut_end {q : List Int} {r : Nat} (h : q.length ≤ r) : fut q r = 0 := by
  unfold fut; rw [List.drop_of_length_le h]; rfl
theorem isum_app (a b : List Int) : isum (a ++ b) = isum a + isum b := by
  induction a with
  | nil => simp [isum]
  | cons x a ih => simp only [List.cons_append, isum, ih]; omega
theorem pre_next {q : List Int} {r : Nat} (h : r < q.length) : pre q (r + 1) = pre q r + at_ q r := by
  unfold pre
  rw [List.take_add_one, isum_app, List.getElem?_eq_getElem h]
  simp only [Option.toList_some, isum]
  unfold at_; rw [List.getD_eq_getElem?_getD, List.getElem?_eq_getElem h]; simp
theorem isum_nn {l : List Int} (h : ∀ x ∈ l, 0 ≤ x) : 0 ≤ isum l := by
  induction l with
  | nil => simp [isum]
  | cons x l ih =>
    have := h x (by simp); have := ih (fun y hy => h y (by simp [hy])); simp only [isum]; omega
theorem at_mem {α : Type} [Inhabited α] {l : List α} {x : α} (h : x ∈ l) : ∃ i, i < l.length ∧ at_ l i = x := by
  obtain ⟨i, hi, he⟩ := List.getElem_of_mem h
  exact ⟨i, hi, by unfold at_; rw [List.getD_eq_getElem?_getD, List.getElem?_eq_getElem hi, he]; rfl⟩
theorem pre_le {q : List Int} (hq : ∀ i, i < q.length → 0 ≤ at_ q i ∧ at_ q i ≤ 8) (r : Nat) : pre q r ≤ isum q ∧ 0 ≤ pre q r := by
  have hm : ∀ x ∈ q, 0 ≤ x := fun x hx => by obtain ⟨i, hi, rfl⟩ := at_mem hx; exact (hq i hi).1
  unfold pre
  have h1 : isum (q.take r) + isum (q.drop r) = isum q := by rw [← isum_app, List.take_append_drop]
  have h2 := isum_nn (l := q.take r) (fun x hx => hm x (List.mem_of_mem_take hx))
  have h3 := isum_nn (l := q.drop r) (fun x hx => hm x (List.mem_of_mem_drop hx))
  omega
def ksum (l : List (Int × Ab)) : Int := match l with
  | [] => 0
  | x :: l => (match x.2 with | .start _ _ _ => 3 | .store _ _ => 2 | .leave _ _ => 1 | _ => 0) + ksum l
def kw (b : Ab) : Int := match b with | .start _ _ _ => 3 | .store _ _ => 2 | .leave _ _ => 1 | _ => 0
theorem ksum_cons (x : Int × Ab) (l : List (Int × Ab)) : ksum (x :: l) = kw x.2 + ksum l := rfl
theorem ksum_app (a b : List (Int × Ab)) : ksum (a ++ b) = ksum a + ksum b := by
  induction a with
  | nil => simp [ksum]
  | cons x a ih => simp only [List.cons_append, ksum_cons, ih]; omega
theorem ksum_set : ∀ (l : List (Int × Ab)) (p : Nat) (x : Int × Ab), p < l.length → ksum (l.set p x) + kw (at_ l p).2 = ksum l + kw x.2
  | [], p, x, h => by simp at h
  | y :: l, 0, x, h => by
    have : at_ (y :: l) 0 = y := rfl
    simp only [List.set_cons_zero, ksum_cons, this]; omega
  | y :: l, p + 1, x, h => by
    have hl : p < l.length := by simpa using h
    have h1 := ksum_set l p x hl
    have h2 : at_ (y :: l) (p + 1) = at_ l p := rfl
    simp only [List.set_cons_succ, ksum_cons, h2]; omega
theorem ksum_erase : ∀ (l : List (Int × Ab)) (p : Nat), p < l.length → ksum (l.eraseIdx p) + kw (at_ l p).2 = ksum l
  | [], p, h => by simp at h
  | y :: l, 0, h => by
    have : at_ (y :: l) 0 = y := rfl
    simp only [List.eraseIdx_cons_zero, ksum_cons, this]; omega
  | y :: l, p + 1, h => by
    have hl : p < l.length := by simpa using h
    have h1 := ksum_erase l p hl
    have h2 : at_ (y :: l) (p + 1) = at_ l p := rfl
    simp only [List.eraseIdx_cons_succ, ksum_cons, h2]; omega
/-- What a child may be. -/
def kok (F : Nat) : Ab → Prop
  | .start fr k v => fr < F ∧ k < 8
  | .store k v => k < 8
  | .leave k v => True
  | _ => False
theorem kok_kid {F : Nat} {b : Ab} (h : kok F b) : kid b = true := by cases b <;> simp [kok] at h <;> rfl
structure Inv (q : List Int) (F : Nat) (s : PM) : Prop where
  q8 : ∀ i, i < q.length → 0 ≤ at_ q i ∧ at_ q i ≤ 8
  q64 : q.length ≤ 64
  fr : (F : Int) = 1 + isum q
  rd : s.rd ≤ q.length
  ml : s.marks.length = F
  mb : ∀ f, f < F → 0 ≤ at_ s.marks f ∧ at_ s.marks f ≤ (s.log.length : Int)
  made : (s.made : Int) ≤ s.log.length + 1
  tk : (s.taken : Int) ≤ F
  hr : s.holders.length = s.reads.length
  rl : s.reads.length ≤ 64
  lv : s.live.length ≤ 10
  ll : s.log.length ≤ 1000000
/-- The modes of a play, with the number of steps that are left. -/
inductive Mode (q : List Int) (F : Nat) (s : PM) : Int → Prop
  | fin : s.done = true → Mode q F s 0
  | ini0 (x : Int) : s.done = false → s.live = [(x, .alloc0)] → s.taken = 0 → s.rd = 0 → s.join = 1 → s.reads.length = 0 → Mode q F s (2 + fut q 0)
  | ini1 (x : Int) : s.done = false → s.live = [(x, .mark0)] → s.taken = 1 → s.rd = 0 → s.join = 1 → s.reads.length = 0 → Mode q F s (1 + fut q 0)
  | fa (p0 : Nat) : s.done = false → p0 < s.live.length → (at_ s.live p0).2 = .alloc → (∀ i, i < s.live.length → i ≠ p0 → kok F (at_ s.live i).2) → s.rd < q.length → (s.pos : Int) < at_ q s.rd → s.join = (s.live.length : Int) →
      (s.taken : Int) = 1 + pre q s.rd + s.pos → s.reads.length = s.rd → (s.live.length : Int) ≤ 1 + s.pos → Mode q F s (5 * (at_ q s.rd - s.pos) + 1 + ksum s.live + (1 + at_ q s.rd + fut q (s.rd + 1)))
  | ff (p0 fr : Nat) : s.done = false → p0 < s.live.length → (at_ s.live p0).2 = .fork fr → fr < F → (∀ i, i < s.live.length → i ≠ p0 → kok F (at_ s.live i).2) → s.rd < q.length → (s.pos : Int) < at_ q s.rd → s.join = (s.live.length : Int) →
      (s.taken : Int) = 2 + pre q s.rd + s.pos → s.reads.length = s.rd → (s.live.length : Int) ≤ 1 + s.pos → Mode q F s (5 * (at_ q s.rd - s.pos) + ksum s.live + (1 + at_ q s.rd + fut q (s.rd + 1)))
  | fs (p0 : Nat) : s.done = false → p0 < s.live.length → (at_ s.live p0).2 = .sync → (∀ i, i < s.live.length → i ≠ p0 → kok F (at_ s.live i).2) → s.rd < q.length → (s.pos : Int) = at_ q s.rd → s.join = (s.live.length : Int) →
      (s.taken : Int) = 1 + pre q s.rd + at_ q s.rd → s.reads.length = s.rd → (s.live.length : Int) ≤ 1 + s.pos → Mode q F s (1 + ksum s.live + (1 + at_ q s.rd + fut q (s.rd + 1)))
  | w : s.done = false → 0 < s.live.length → (∀ i, i < s.live.length → kok F (at_ s.live i).2) → s.rd < q.length → (s.pos : Int) = at_ q s.rd → s.join = (s.live.length : Int) →
      (s.taken : Int) = 1 + pre q s.rd + at_ q s.rd → s.reads.length = s.rd → (s.live.length : Int) ≤ 1 + s.pos → Mode q F s (ksum s.live + (1 + at_ q s.rd + fut q (s.rd + 1)))
  | l (x : Int) (b : Ab) : s.done = false → s.live = [(x, b)] → (b = .back ∨ ∃ k v, b = .last k v) → s.rd < q.length → (s.pos : Int) = at_ q s.rd → s.join = 0 →
      (s.taken : Int) = 1 + pre q s.rd + at_ q s.rd → s.reads.length = s.rd → Mode q F s (1 + at_ q s.rd + fut q (s.rd + 1))
  | r (x : Int) : s.done = false → s.live = [(x, .read)] → s.rd < q.length → (s.pos : Int) < at_ q s.rd → s.join = 1 →
      (s.taken : Int) = 1 + pre q s.rd + at_ q s.rd → s.reads.length = s.rd + 1 → (at_ s.reads s.rd).length = s.pos → Mode q F s (at_ q s.rd - s.pos + fut q (s.rd + 1))
section
variable {q : List Int} {F : Nat} {s : PM}
theorem one_live {l : List (Int × Ab)} {x : Int × Ab} (h : l = [x]) {p : Nat} (hp : p < l.length) : p = 0 := by subst h; simpa using hp
/-- The holder enters a round. -/
theorem enter_mode (hi : Inv q F s) (hd : s.done = false) {x : Int × Ab} (hl : s.live = [x]) (hj : s.join = 1) (ht : (s.taken : Int) = 1 + pre q s.rd) (hr : s.reads.length = s.rd) :
    Inv q F (s.enter q 0) ∧ Mode q F (s.enter q 0) (fut q s.rd) ∧ (s.enter q 0).log = s.log ∧ (s.enter q 0).holders = s.holders := by
  have hrd := hi.rd
  unfold PM.enter
  by_cases h : q.length ≤ s.rd
  · rw [if_pos h, fut_end h]
    exact ⟨⟨hi.q8, hi.q64, hi.fr, hi.rd, hi.ml, hi.mb, hi.made, hi.tk, hi.hr, hi.rl, hi.lv, hi.ll⟩, .fin rfl, rfl, rfl⟩
  · rw [if_neg h, fut_next (by omega)]
    have hq := hi.q8 s.rd (by omega)
    have hset : ∀ b, ((({ s with pos := 0 } : PM).setb 0 b).live) = [(x.1, b)] := fun b => by
      show s.live.set 0 ((at_ s.live 0).1, b) = _
      rw [hl]; rfl
    have hk : ∀ b, kw b = 0 → ksum [(x.1, b)] = 0 := fun b hb => by rw [ksum_cons]; simp [hb, ksum]
    refine ⟨⟨hi.q8, hi.q64, hi.fr, hi.rd, hi.ml, hi.mb, hi.made, hi.tk, hi.hr, hi.rl, by rw [hset]; simp, hi.ll⟩, ?_, rfl, rfl⟩
    by_cases h0 : at_ q s.rd ≤ 0
    · rw [if_pos h0]
      have := Mode.fs (q := q) (F := F) (s := ({ s with pos := 0 } : PM).setb 0 .sync) 0 hd (by rw [hset]; simp) (by rw [hset]; rfl) (fun i hi' he => by rw [hset] at hi'; simp at hi'; omega) (by show s.rd < q.length; omega) (by show ((0 : Nat) : Int) = at_ q s.rd; omega) (by rw [hset]; exact hj) (by show (s.taken : Int) = 1 + pre q s.rd + at_ q s.rd; omega) hr (by rw [hset]; simp; omega)
      rw [hset, hk _ rfl] at this
      have e : (1 : Int) + 0 + (1 + at_ q s.rd + fut q (s.rd + 1)) = 6 * at_ q s.rd + 2 + fut q (s.rd + 1) := by omega
      rw [← e]; exact this
    · rw [if_neg h0]
      have := Mode.fa (q := q) (F := F) (s := ({ s with pos := 0 } : PM).setb 0 .alloc) 0 hd (by rw [hset]; simp) (by rw [hset]; rfl) (fun i hi' he => by rw [hset] at hi'; simp at hi'; omega) (by show s.rd < q.length; omega) (by show ((0 : Nat) : Int) < at_ q s.rd; omega) (by rw [hset]; exact hj) (by show (s.taken : Int) = 1 + pre q s.rd + ((0 : Nat) : Int); omega) hr (by rw [hset]; simp; omega)
      rw [hset, hk _ rfl] at this
      have e : 5 * (at_ q s.rd - ((0 : Nat) : Int)) + 1 + 0 + (1 + at_ q s.rd + fut q (s.rd + 1)) = 6 * at_ q s.rd + 2 + fut q (s.rd + 1) := by omega
      rw [← e]; exact this
theorem rdg_mode (hi : Inv q F s) (hd : s.done = false) {x : Int × Ab} (hl : s.live = [x]) (hj : s.join = 1) (hrd : s.rd < q.length) (hp : (s.pos : Int) ≤ at_ q s.rd) (ht : (s.taken : Int) = 1 + pre q s.rd + at_ q s.rd) (hr : s.reads.length = s.rd + 1) (hlr : (at_ s.reads s.rd).length = s.pos) :
    Inv q F (s.rdg q 0) ∧ Mode q F (s.rdg q 0) (at_ q s.rd - s.pos + fut q (s.rd + 1)) ∧ (s.rdg q 0).log = s.log ∧ (s.rdg q 0).holders = s.holders := by
  unfold PM.rdg
  by_cases h : at_ q s.rd ≤ (s.pos : Int)
  · rw [if_pos h]
    have hi2 : Inv q F ({ s with rd := s.rd + 1 } : PM) := ⟨hi.q8, hi.q64, hi.fr, hrd, hi.ml, hi.mb, hi.made, hi.tk, hi.hr, hi.rl, hi.lv, hi.ll⟩
    obtain ⟨a1, a2, a3, a4⟩ := enter_mode hi2 hd hl hj (by show (s.taken : Int) = 1 + pre q (s.rd + 1); rw [pre_next hrd]; omega) hr
    refine ⟨a1, ?_, a3, a4⟩
    have e : at_ q s.rd - (s.pos : Int) + fut q (s.rd + 1) = fut q (s.rd + 1) := by omega
    rw [e]; exact a2
  · rw [if_neg h]
    have hset : (s.setb 0 .read).live = [(x.1, .read)] := by
      show s.live.set 0 ((at_ s.live 0).1, Ab.read) = _
      rw [hl]; rfl
    exact ⟨⟨hi.q8, hi.q64, hi.fr, hi.rd, hi.ml, hi.mb, hi.made, hi.tk, hi.hr, hi.rl, by rw [hset]; simp, hi.ll⟩, Mode.r (s := s.setb 0 .read) x.1 hd hset hrd (by show (s.pos : Int) < at_ q s.rd; omega) hj ht hr hlr, rfl, rfl⟩
theorem hold_mode (hi : Inv q F s) (hd : s.done = false) {x : Int × Ab} (hl : s.live = [x]) (hj : s.join = 1) (hrd : s.rd < q.length) (ht : (s.taken : Int) = 1 + pre q s.rd + at_ q s.rd) (hr : s.reads.length = s.rd) :
    Inv q F (s.hold q 0) ∧ Mode q F (s.hold q 0) (at_ q s.rd + fut q (s.rd + 1)) ∧ (s.hold q 0).log = s.log := by
  unfold PM.hold
  have hq64 := hi.q64
  have hi2 : Inv q F ({ s with holders := s.holders ++ [(at_ s.live 0).1], reads := s.reads ++ [[]], pos := 0 } : PM) :=
    ⟨hi.q8, hi.q64, hi.fr, hi.rd, hi.ml, hi.mb, hi.made, hi.tk, by show (s.holders ++ [_]).length = (s.reads ++ [[]]).length; rw [List.length_append, List.length_append, hi.hr]; rfl, by show (s.reads ++ [[]]).length ≤ 64; rw [List.length_append, hr]; simp; omega, hi.lv, hi.ll⟩
  obtain ⟨a1, a2, a3, _⟩ := rdg_mode hi2 hd hl hj hrd (by have := (hi.q8 s.rd hrd).1; exact this) ht (by show (s.reads ++ [[]]).length = s.rd + 1; rw [List.length_append, hr]; rfl) (by show (at_ (s.reads ++ [[]]) s.rd).length = 0; rw [← hr, at_app]; rfl)
  refine ⟨a1, ?_, a3⟩
  have e : at_ q s.rd - ((0 : Nat) : Int) + fut q (s.rd + 1) = at_ q s.rd + fut q (s.rd + 1) := by omega
  rw [← e]; exact a2
end
end Go.Proofs.Ytnghahgfcaolbaa.Mo
