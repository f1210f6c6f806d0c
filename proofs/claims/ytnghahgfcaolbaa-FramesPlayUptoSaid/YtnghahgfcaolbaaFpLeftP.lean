/- Each step of the machine keeps what stays true, and leaves one step less. -/
import Derived.Test.YtnghahgfcaolbaaFpInvP
namespace Go.Proofs.Ytnghahgfcaolbaa.Mo
open Go Go.Proofs.Ytnghahgfcaolbaa.SL Go.Proofs.Ytnghahgfcaolbaa.GX
set_option linter.unusedVariables false
set_option linter.unusedSimpArgs false
section
variable {q : List Int} {F : Nat} {s : PM} {P : Int} {p : Nat}
theorem isum_le {l : List Int} (h : ∀ x ∈ l, x ≤ 8) : isum l ≤ 8 * (l.length : Int) := by
  induction l with
  | nil => simp [isum]
  | cons x l ih =>
    have := h x (by simp); have := ih (fun y hy => h y (by simp [hy])); simp only [isum, List.length_cons]; omega
theorem Inv.f (hi : Inv q F s) : 1 ≤ F ∧ F ≤ 513 := by
  have hm : ∀ x ∈ q, 0 ≤ x ∧ x ≤ 8 := fun x hx => by obtain ⟨i, hi', rfl⟩ := at_mem hx; exact hi.q8 i hi'
  have h1 := isum_nn (l := q) (fun x hx => (hm x hx).1)
  have h2 := isum_le (l := q) (fun x hx => (hm x hx).2)
  have h3 := hi.fr; have h4 := hi.q64
  omega
/-- One of the live is no child. -/
def Hd (F : Nat) (l : List (Int × Ab)) (p0 : Nat) (b : Ab) : Prop := p0 < l.length ∧ (at_ l p0).2 = b ∧ ∀ i, i < l.length → i ≠ p0 → kok F (at_ l i).2
theorem Hd.set {l : List (Int × Ab)} {p0 : Nat} {b b' : Ab} {x : Int} (h : Hd F l p0 b) (hp : p < l.length) (hne : p ≠ p0) (hb : kok F b') : Hd F (l.set p (x, b')) p0 b := by
  refine ⟨by rw [List.length_set]; exact h.1, by rw [at_set_ne (by omega)]; exact h.2.1, fun i hi he => ?_⟩
  rw [List.length_set] at hi
  by_cases e : i = p
  · subst e; rw [at_set_same hi]; exact hb
  · rw [at_set_ne (by omega)]; exact h.2.2 i hi he
theorem Hd.erase {l : List (Int × Ab)} {p0 : Nat} {b : Ab} (h : Hd F l p0 b) (hp : p < l.length) (hne : p ≠ p0) : ∃ p1, Hd F (l.eraseIdx p) p1 b := by
  obtain ⟨h1, h2, h3⟩ := h
  have hl : (l.eraseIdx p).length = l.length - 1 := by rw [List.length_eraseIdx, if_pos hp]
  by_cases c : p < p0
  · refine ⟨p0 - 1, by omega, by rw [at_erase_ge (by omega), show p0 - 1 + 1 = p0 by omega]; exact h2, fun i hi he => ?_⟩
    by_cases e : i < p
    · rw [at_erase_lt e]; exact h3 i (by omega) (by omega)
    · rw [at_erase_ge (by omega)]; exact h3 (i + 1) (by omega) (by omega)
  · refine ⟨p0, by omega, by rw [at_erase_lt (by omega)]; exact h2, fun i hi he => ?_⟩
    by_cases e : i < p
    · rw [at_erase_lt e]; exact h3 i (by omega) (by omega)
    · rw [at_erase_ge (by omega)]; exact h3 (i + 1) (by omega) (by omega)
def Kd (F : Nat) (l : List (Int × Ab)) : Prop := ∀ i, i < l.length → kok F (at_ l i).2
theorem Kd.set {l : List (Int × Ab)} {b' : Ab} {x : Int} (h : Kd F l) (hb : kok F b') : Kd F (l.set p (x, b')) := by
  intro i hi
  rw [List.length_set] at hi
  by_cases e : i = p
  · subst e; rw [at_set_same hi]; exact hb
  · rw [at_set_ne (by omega)]; exact h i hi
theorem Kd.erase {l : List (Int × Ab)} (h : Kd F l) (hp : p < l.length) : Kd F (l.eraseIdx p) := by
  intro i hi
  rw [List.length_eraseIdx, if_pos hp] at hi
  by_cases e : i < p
  · rw [at_erase_lt e]; exact h i (by omega)
  · rw [at_erase_ge (by omega)]; exact h (i + 1) (by omega)
theorem Hd.gone {l : List (Int × Ab)} {p0 : Nat} {b : Ab} (h : Hd F l p0 b) : Kd F (l.eraseIdx p0) := by
  obtain ⟨h1, h2, h3⟩ := h
  intro i hi
  rw [List.length_eraseIdx, if_pos h1] at hi
  by_cases e : i < p0
  · rw [at_erase_lt e]; exact h3 i (by omega) (by omega)
  · rw [at_erase_ge (by omega)]; exact h3 (i + 1) (by omega) (by omega)
/-- What a step turns, beside the live. -/
structure Ev (s s' : PM) : Prop where
  rd : s'.rd = s.rd
  pos : s'.pos = s.pos
  taken : s'.taken = s.taken
  made : s'.made = s.made
  holders : s'.holders = s.holders
  reads : s'.reads = s.reads
  done : s'.done = s.done
  log : s'.log.length = s.log.length + 1
/-- A child's step. -/
theorem kid_step (hi : Inv q F s) (hll : s.log.length < 1000000) (hp : p < s.live.length) (hk : kok F (at_ s.live p).2) :
    (∃ b', kok F b' ∧ (s.step q p).live = s.live.set p ((at_ s.live p).1, b') ∧ (s.step q p).join = s.join ∧ kw b' + 1 = kw (at_ s.live p).2 ∧ Ev s (s.step q p) ∧ Inv q F (s.step q p)) ∨
    (∃ k v, (at_ s.live p).2 = .leave k v ∧ s.join - 1 ≠ 0 ∧ (s.step q p).live = s.live.eraseIdx p ∧ (s.step q p).join = s.join - 1 ∧ Ev s (s.step q p) ∧ Inv q F (s.step q p)) ∨
    (∃ k v, (at_ s.live p).2 = .leave k v ∧ s.join - 1 = 0 ∧ (s.step q p).live = s.live.set p ((at_ s.live p).1, .last k v) ∧ (s.step q p).join = s.join - 1 ∧ Ev s (s.step q p) ∧ Inv q F (s.step q p)) := by
  cases hs : (at_ s.live p).2 with
  | start fr k v =>
    rw [hs] at hk
    obtain ⟨k1, k2⟩ := hk
    have hst : s.step q p = (({ s with marks := s.marks.set fr (at_ s.marks fr + 1) } : PM).note (at_ s.live p).1 3 (2 + 10 * (fr : Int)) 1 (at_ s.marks fr + 1)).setb p (.store k v) := by simp only [PM.step, hs]
    left
    refine ⟨.store k v, k2, by rw [hst]; rfl, by rw [hst]; rfl, rfl, ?_, ?_⟩
    · rw [hst]; exact ⟨rfl, rfl, rfl, rfl, rfl, rfl, rfl, by show (s.log ++ [_]).length = _; rw [List.length_append]; rfl⟩
    · rw [hst]
      have hlg : (s.log ++ [(⟨(at_ s.live p).1, 3, 2 + 10 * (fr : Int), 1, at_ s.marks fr + 1, true⟩ : T_api_Access)]).length = s.log.length + 1 := by rw [List.length_append]; rfl
      refine ⟨hi.q8, hi.q64, hi.fr, hi.rd, by show (s.marks.set _ _).length = F; rw [List.length_set]; exact hi.ml, fun f hf => ?_, (by have := hi.made; show (s.made : Int) ≤ ((s.log ++ [_]).length : Int) + 1; rw [hlg]; omega), hi.tk, hi.hr, hi.rl, by show (s.live.set _ _).length ≤ 10; rw [List.length_set]; exact hi.lv, by show (s.log ++ [_]).length ≤ _; rw [hlg]; omega⟩
      show 0 ≤ at_ (s.marks.set fr (at_ s.marks fr + 1)) f ∧ at_ (s.marks.set fr (at_ s.marks fr + 1)) f ≤ ((s.log ++ [(⟨(at_ s.live p).1, 3, 2 + 10 * (fr : Int), 1, at_ s.marks fr + 1, true⟩ : T_api_Access)]).length : Int)
      rw [hlg]
      have hb := hi.mb f hf
      by_cases e : f = fr
      · subst e; rw [at_set_same (by have := hi.ml; omega)]; omega
      · rw [at_set_ne (by omega)]; omega
  | store k v =>
    have hst : s.step q p = (({ s with slots := s.slots.set k v } : PM).note (at_ s.live p).1 1 (3 + (k : Int)) v 0).setb p (.leave k v) := by simp only [PM.step, hs]
    left
    have hlg : (s.log ++ [(⟨(at_ s.live p).1, 1, 3 + (k : Int), v, 0, true⟩ : T_api_Access)]).length = s.log.length + 1 := by rw [List.length_append]; rfl
    refine ⟨.leave k v, trivial, by rw [hst]; rfl, by rw [hst]; rfl, rfl, ?_, ?_⟩
    · rw [hst]; exact ⟨rfl, rfl, rfl, rfl, rfl, rfl, rfl, hlg⟩
    · rw [hst]
      exact ⟨hi.q8, hi.q64, hi.fr, hi.rd, hi.ml, fun f hf => by have := hi.mb f hf; refine ⟨this.1, ?_⟩; show at_ s.marks f ≤ ((s.log ++ [_]).length : Int); rw [hlg]; omega, (by have := hi.made; show (s.made : Int) ≤ ((s.log ++ [_]).length : Int) + 1; rw [hlg]; omega), hi.tk, hi.hr, hi.rl, by show (s.live.set _ _).length ≤ 10; rw [List.length_set]; exact hi.lv, by show (s.log ++ [_]).length ≤ _; rw [hlg]; omega⟩
  | leave k v =>
    right
    have hlg : (s.log ++ [(⟨(at_ s.live p).1, 3, 1, -1, s.join - 1, true⟩ : T_api_Access)]).length = s.log.length + 1 := by rw [List.length_append]; rfl
    by_cases hz : s.join - 1 = 0
    · right
      have hst : s.step q p = (({ s with join := s.join - 1 } : PM).note (at_ s.live p).1 3 1 (-1) (s.join - 1)).setb p (.last k v) := by simp only [PM.step, hs, if_pos hz]
      refine ⟨k, v, rfl, hz, by rw [hst]; rfl, by rw [hst]; rfl, ?_, ?_⟩
      · rw [hst]; exact ⟨rfl, rfl, rfl, rfl, rfl, rfl, rfl, hlg⟩
      · rw [hst]
        exact ⟨hi.q8, hi.q64, hi.fr, hi.rd, hi.ml, fun f hf => by have := hi.mb f hf; refine ⟨this.1, ?_⟩; show at_ s.marks f ≤ ((s.log ++ [_]).length : Int); rw [hlg]; omega, (by have := hi.made; show (s.made : Int) ≤ ((s.log ++ [_]).length : Int) + 1; rw [hlg]; omega), hi.tk, hi.hr, hi.rl, by show (s.live.set _ _).length ≤ 10; rw [List.length_set]; exact hi.lv, by show (s.log ++ [_]).length ≤ _; rw [hlg]; omega⟩
    · left
      have hst : s.step q p = ({ s with join := s.join - 1, live := s.live.eraseIdx p } : PM).note (at_ s.live p).1 3 1 (-1) (s.join - 1) := by simp only [PM.step, hs, if_neg hz]
      refine ⟨k, v, rfl, hz, by rw [hst]; rfl, by rw [hst]; rfl, ?_, ?_⟩
      · rw [hst]; exact ⟨rfl, rfl, rfl, rfl, rfl, rfl, rfl, hlg⟩
      · rw [hst]
        exact ⟨hi.q8, hi.q64, hi.fr, hi.rd, hi.ml, fun f hf => by have := hi.mb f hf; refine ⟨this.1, ?_⟩; show at_ s.marks f ≤ ((s.log ++ [_]).length : Int); rw [hlg]; omega, (by have := hi.made; show (s.made : Int) ≤ ((s.log ++ [_]).length : Int) + 1; rw [hlg]; omega), hi.tk, hi.hr, hi.rl, by show (s.live.eraseIdx _).length ≤ 10; rw [List.length_eraseIdx, if_pos hp]; have := hi.lv; omega, by show (s.log ++ [_]).length ≤ _; rw [hlg]; omega⟩
  | _ => rw [hs] at hk; exact hk.elim
/-- What a step wants is known. -/
theorem ok_of (hi : Inv q F s) (hm : Mode q F s P) (hd : s.done = false) (hp : p < s.live.length) : Ok q F s p := by
  obtain ⟨f1, f2⟩ := hi.f
  have h1 := hi.made; have h2 := hi.tk; have h3 := hi.hr; have h4 := hi.rl; have h5 := hi.lv; have h6 := hi.ll
  have hj : 0 ≤ s.join ∧ s.join ≤ 1000 := by
    cases hm with
    | fin h => rw [hd] at h; cases h
    | _ => omega
  have hoth : ∀ {p0 : Nat}, (∀ i, i < s.live.length → i ≠ p0 → kok F (at_ s.live i).2) → p = p0 → Others s p := fun h e i hi' he => kok_kid (h i hi' (by omega))
  have hkid : kok F (at_ s.live p).2 → (match (at_ s.live p).2 with
    | .alloc0 => s.taken < F
    | .mark0 => (0 ≤ at_ s.marks 0 ∧ at_ s.marks 0 ≤ 1000000) ∧ Others s p
    | .alloc => s.taken < F
    | .fork fr => s.rd < q.length ∧ s.pos < 8 ∧ Others s p
    | .sync => True
    | .back => s.rd < q.length ∧ Others s p
    | .start fr k v => fr < F ∧ 0 ≤ at_ s.marks fr ∧ at_ s.marks fr ≤ 1000000
    | .store k v => k < 8
    | .leave k v => True
    | .last k v => s.rd < q.length ∧ Others s p
    | .read => s.rd < q.length ∧ s.pos < 8 ∧ 0 < s.reads.length ∧ (at_ s.reads (s.reads.length - 1)).length ≤ 1000 ∧ Others s p : Prop) := by
    intro hk
    cases hs : (at_ s.live p).2 with
    | start fr k v => rw [hs] at hk; have := hi.mb fr hk.1; exact ⟨hk.1, this.1, by omega⟩
    | store k v => rw [hs] at hk; exact hk
    | leave k v => trivial
    | _ => rw [hs] at hk; exact hk.elim
  refine ⟨by omega, hj, by omega, by omega, by omega, by omega, hi.q8, hi.q64, by omega, hi.rd, ?_⟩
  cases hm with
  | fin h => rw [hd] at h; cases h
  | ini0 x a1 a2 a3 a4 a5 a6 =>
    have hp0 := one_live a2 hp; subst hp0
    rw [a2]; show s.taken < F; omega
  | ini1 x a1 a2 a3 a4 a5 a6 =>
    have hp0 := one_live a2 hp; subst hp0
    have hb := hi.mb 0 (by omega)
    rw [a2]; exact ⟨⟨hb.1, by omega⟩, fun i hi' he => by rw [a2] at hi'; simp at hi'; omega⟩
  | fa p0 a1 a2 a3 a4 a5 a6 a7 a8 a9 a10 =>
    by_cases e : p = p0
    · subst e
      have hpl := (pre_le hi.q8 (s.rd + 1)).1
      rw [pre_next a5] at hpl
      have hfr := hi.fr
      rw [a3]; show s.taken < F; omega
    · exact hkid (a4 p hp e)
  | ff p0 fr a1 a2 a3 a4 a5 a6 a7 a8 a9 a10 a11 =>
    by_cases e : p = p0
    · have := hi.q8 s.rd a6
      have ho := hoth a5 e
      subst e
      rw [a3]; exact ⟨a6, by omega, ho⟩
    · exact hkid (a5 p hp e)
  | fs p0 a1 a2 a3 a4 a5 a6 a7 a8 a9 a10 =>
    by_cases e : p = p0
    · subst e; rw [a3]; trivial
    · exact hkid (a4 p hp e)
  | w a1 a2 a3 a4 a5 a6 a7 a8 a9 => exact hkid (a3 p hp)
  | l x b a1 a2 a3 a4 a5 a6 a7 a8 =>
    have hp0 := one_live a2 hp; subst hp0
    have ho : Others s 0 := fun i hi' he => by rw [a2] at hi'; simp at hi'; omega
    have hb : (at_ s.live 0).2 = b := by rw [a2]; rfl
    rw [hb]
    rcases a3 with rfl | ⟨k, v, rfl⟩ <;> exact ⟨a4, ho⟩
  | r x a1 a2 a3 a4 a5 a6 a7 a8 =>
    have hp0 := one_live a2 hp; subst hp0
    have ho : Others s 0 := fun i hi' he => by rw [a2] at hi'; simp at hi'; omega
    have hb : (at_ s.live 0).2 = .read := by rw [a2]; rfl
    have := hi.q8 s.rd a3
    rw [hb]
    exact ⟨a3, by omega, by omega, by rw [a7, Nat.add_sub_cancel, a8]; omega, ho⟩
end
end Go.Proofs.Ytnghahgfcaolbaa.Mo
