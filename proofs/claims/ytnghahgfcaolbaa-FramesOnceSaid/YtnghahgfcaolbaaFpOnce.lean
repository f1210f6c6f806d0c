/- Each round is held once: what the log of a play tells. -/
import Derived.Test.YtnghahgfcaolbaaFpAllO
namespace Go.Proofs.Ytnghahgfcaolbaa.Mo
open Go Go.Proofs.Ytnghahgfcaolbaa.SL Go.Proofs.Ytnghahgfcaolbaa.GX
set_option linter.unusedVariables false
set_option linter.unusedSimpArgs false
/-- A log, the holders it tells of, and who owes. -/
inductive On : List T_api_Access → List Int → Int → Prop
  | nil : On [] [] (-1)
  | other {l h o} (e : T_api_Access) : On l h o → e.Addr ≠ 1 → e.Who ≠ o → On (l ++ [e]) h o
  | add {l h o} (e : T_api_Access) : On l h o → e.Addr = 1 → e.Kind = 3 → 0 < e.B → o < 0 → On (l ++ [e]) h o
  | zero {l h o} (e : T_api_Access) : On l h o → e.Addr = 1 → e.Kind = 3 → e.B = 0 → o < 0 → On (l ++ [e]) h e.Who
  | store {l h o} (e : T_api_Access) : On l h o → e.Addr = 1 → e.Kind = 1 → e.Who = o → e.A = 1 → On (l ++ [e]) (h ++ [o]) (-1)
def owes (s : PM) : Int := if s.join = 0 then (at_ s.live 0).1 else -1
def nneg (l : List (Int × Ab)) : Prop := ∀ x ∈ l, 0 ≤ x.1
structure Ro (s : PM) : Prop where
  on : On s.log s.holders (owes s)
  nn : nneg s.live
theorem mem_at {α : Type} [Inhabited α] {l : List α} {i : Nat} (h : i < l.length) : at_ l i ∈ l := by
  unfold at_; rw [List.getD_eq_getElem?_getD, List.getElem?_eq_getElem h]; exact List.getElem_mem h
theorem nn_set {l : List (Int × Ab)} {p : Nat} {b : Ab} (h : nneg l) (hp : p < l.length) : nneg (l.set p ((at_ l p).1, b)) := fun x hx => by
  rcases List.mem_or_eq_of_mem_set hx with h1 | h1
  · exact h x h1
  · rw [h1]; exact (h _ (mem_at hp) : 0 ≤ (at_ l p).1)
theorem nn_erase {l : List (Int × Ab)} {p : Nat} (h : nneg l) : nneg (l.eraseIdx p) := fun x hx => h x (List.mem_of_mem_eraseIdx hx)
section
variable {q : List Int} {F : Nat} {s : PM} {P : Int} {p : Nat}
theorem Ro.of (hj : s.join ≠ 0) (hon : On s.log s.holders (-1)) (hn : nneg s.live) : Ro s := ⟨by rw [show owes s = -1 from if_neg hj]; exact hon, hn⟩
theorem Ro.on1 (h : Ro s) (hj : s.join ≠ 0) : On s.log s.holders (-1) := by have := h.on; rw [show owes s = -1 from if_neg hj] at this; exact this
theorem owes0 (h : s.join = 0) : owes s = (at_ s.live 0).1 := if_pos h
theorem Ro.enter (h : Ro s) (hj : s.join ≠ 0) (hp : p < s.live.length) : Ro (s.enter q p) ∧ (s.enter q p).join = s.join := by
  unfold PM.enter
  split
  · exact ⟨Ro.of hj (h.on1 hj) h.nn, rfl⟩
  · exact ⟨Ro.of hj (h.on1 hj) (nn_set h.nn hp), rfl⟩
theorem Ro.rdg (h : Ro s) (hj : s.join ≠ 0) (hp : p < s.live.length) : Ro (s.rdg q p) := by
  unfold PM.rdg
  split
  · have h2 : Ro ({ s with rd := s.rd + 1 } : PM) := ⟨h.on, h.nn⟩
    exact (h2.enter hj hp).1
  · exact Ro.of hj (h.on1 hj) (nn_set h.nn hp)
/-- Who owes, and who does not. -/
theorem mode_join (hm : Mode q F s P) (hd : s.done = false) (hp : p < s.live.length) :
    (s.join = 0 ∧ s.live.length = 1 ∧ ((at_ s.live p).2 = .back ∨ ∃ k v, (at_ s.live p).2 = .last k v)) ∨
    (0 < s.join ∧ (at_ s.live p).2 ≠ .back ∧ (∀ k v, (at_ s.live p).2 ≠ .last k v) ∧ (((at_ s.live p).2 = .sync ∨ ∃ k v, (at_ s.live p).2 = .leave k v) → s.join = (s.live.length : Int))) := by
  have kd : ∀ {b : Ab}, kok F b → b ≠ .back ∧ (∀ k v, b ≠ .last k v) := fun {b} h => by cases b <;> simp [kok] at h <;> simp
  have one : ∀ {x : Int} {b : Ab}, s.live = [(x, b)] → (at_ s.live p).2 = b := fun {x b} h => by
    have := one_live h hp; subst this; rw [h]; rfl
  cases hm with
  | fin h => rw [hd] at h; cases h
  | ini0 x a1 a2 a3 a4 a5 a6 => right; rw [one a2]; exact ⟨by omega, by simp, by simp, by simp⟩
  | ini1 x a1 a2 a3 a4 a5 a6 => right; rw [one a2]; exact ⟨by omega, by simp, by simp, by simp⟩
  | fa p0 a1 a2 a3 a4 a5 a6 a7 a8 a9 a10 =>
    right
    by_cases e : p = p0
    · subst e; rw [a3]; exact ⟨by omega, by simp, by simp, fun _ => a7⟩
    · obtain ⟨k1, k2⟩ := kd (a4 p hp e); exact ⟨by omega, k1, k2, fun _ => a7⟩
  | ff p0 fr a1 a2 a3 a4 a5 a6 a7 a8 a9 a10 a11 =>
    right
    by_cases e : p = p0
    · subst e; rw [a3]; exact ⟨by omega, by simp, by simp, fun _ => a8⟩
    · obtain ⟨k1, k2⟩ := kd (a5 p hp e); exact ⟨by omega, k1, k2, fun _ => a8⟩
  | fs p0 a1 a2 a3 a4 a5 a6 a7 a8 a9 a10 =>
    right
    by_cases e : p = p0
    · subst e; rw [a3]; exact ⟨by omega, by simp, by simp, fun _ => a7⟩
    · obtain ⟨k1, k2⟩ := kd (a4 p hp e); exact ⟨by omega, k1, k2, fun _ => a7⟩
  | w a1 a2 a3 a4 a5 a6 a7 a8 a9 => right; obtain ⟨k1, k2⟩ := kd (a3 p hp); exact ⟨by omega, k1, k2, fun _ => a6⟩
  | l x b a1 a2 a3 a4 a5 a6 a7 a8 => left; rw [one a2]; exact ⟨a6, by rw [a2]; rfl, a3⟩
  | r x a1 a2 a3 a4 a5 a6 a7 a8 => right; rw [one a2]; exact ⟨by omega, by simp, by simp, by simp⟩
theorem step_on (hi : Inv q F s) (hm : Mode q F s P) (hd : s.done = false) (hp : p < s.live.length) (h : Ro s) : Ro (s.step q p) := by
  have hx : 0 ≤ (at_ s.live p).1 := h.nn _ (mem_at hp)
  have hon := h.on
  rcases mode_join hm hd hp with ⟨j1, j2, j3⟩ | ⟨j1, j2, j3, j4⟩
  · have hp0 : p = 0 := by omega
    subst hp0
    have ho : owes s = (at_ s.live 0).1 := if_pos j1
    rw [ho] at hon
    have h2 : Ro ({ ({ s with join := 1 } : PM).note (at_ s.live 0).1 1 1 1 0 with holders := s.holders ++ [(at_ s.live 0).1], reads := s.reads ++ [[]], pos := 0 } : PM) :=
      Ro.of (show (1 : Int) ≠ 0 by decide) (On.store _ hon rfl rfl rfl rfl) h.nn
    have hst : s.step q 0 = (({ s with join := 1 } : PM).note (at_ s.live 0).1 1 1 1 0).hold q 0 := by
      rcases j3 with hb | ⟨k, v, hb⟩ <;> simp only [PM.step, hb]
    rw [hst]
    exact h2.rdg (show (1 : Int) ≠ 0 by decide) hp
  · have ho : owes s = -1 := if_neg (by omega)
    rw [ho] at hon
    have hne : (at_ s.live p).1 ≠ -1 := by omega
    cases hb : (at_ s.live p).2 with
    | alloc0 =>
      simp only [PM.step, hb]
      exact Ro.of (show s.join ≠ 0 by omega) (On.other _ hon (show (0 : Int) ≠ 1 by decide) hne) (nn_set h.nn hp)
    | mark0 =>
      simp only [PM.step, hb]
      have h2 : Ro (({ s with marks := s.marks.set 0 (at_ s.marks 0 + 1) } : PM).note (at_ s.live p).1 3 2 1 (at_ s.marks 0 + 1)) :=
        Ro.of (show s.join ≠ 0 by omega) (On.other _ hon (show (2 : Int) ≠ 1 by decide) hne) (h.nn)
      exact (h2.enter (show s.join ≠ 0 by omega) hp).1
    | alloc =>
      simp only [PM.step, hb]
      exact Ro.of (show s.join ≠ 0 by omega) (On.other _ hon (show (0 : Int) ≠ 1 by decide) hne) (nn_set h.nn hp)
    | fork fr =>
      simp only [PM.step, hb]
      have hl : nneg (s.live ++ [((s.made : Int), Ab.start fr s.pos (100 * (s.rd : Int) + s.pos))]) := fun x hx => by
        rcases List.mem_append.1 hx with h1 | h1
        · exact h.nn x h1
        · rw [List.mem_singleton.1 h1]; exact Int.natCast_nonneg _
      exact Ro.of (show s.join + 1 ≠ 0 by omega) (On.add _ hon rfl rfl (show 0 < s.join + 1 by omega) (by decide)) (nn_set hl (by rw [List.length_append]; omega))
    | sync =>
      have hj := j4 (.inl hb)
      simp only [PM.step, hb]
      by_cases hz : s.join - 1 = 0
      · rw [if_pos hz]
        have hp0 : p = 0 := by omega
        subst hp0
        have e : owes ((({ s with join := s.join - 1 } : PM).note (at_ s.live 0).1 3 1 (-1) (s.join - 1)).setb 0 .back) = (at_ s.live 0).1 := by
          refine (owes0 (show s.join - 1 = 0 from hz)).trans ?_
          show (at_ (s.live.set 0 ((at_ s.live 0).1, Ab.back)) 0).1 = _
          rw [at_set_same hp]
        exact ⟨by rw [e]; exact On.zero ⟨(at_ s.live 0).1, 3, 1, -1, s.join - 1, true⟩ hon rfl rfl hz (by decide), nn_set h.nn hp⟩
      · rw [if_neg hz]
        exact Ro.of (show s.join - 1 ≠ 0 from hz) (On.add _ hon rfl rfl (show 0 < s.join - 1 by omega) (by decide)) (nn_erase h.nn)
    | back => exact absurd hb j2
    | start fr k v =>
      simp only [PM.step, hb]
      exact Ro.of (show s.join ≠ 0 by omega) (On.other _ hon (show (2 : Int) + 10 * (fr : Int) ≠ 1 by omega) hne) (nn_set h.nn hp)
    | store k v =>
      simp only [PM.step, hb]
      exact Ro.of (show s.join ≠ 0 by omega) (On.other _ hon (show (3 : Int) + (k : Int) ≠ 1 by omega) hne) (nn_set h.nn hp)
    | leave k v =>
      have hj := j4 (.inr ⟨k, v, hb⟩)
      simp only [PM.step, hb]
      by_cases hz : s.join - 1 = 0
      · rw [if_pos hz]
        have hp0 : p = 0 := by omega
        subst hp0
        have e : owes ((({ s with join := s.join - 1 } : PM).note (at_ s.live 0).1 3 1 (-1) (s.join - 1)).setb 0 (.last k v)) = (at_ s.live 0).1 := by
          refine (owes0 (show s.join - 1 = 0 from hz)).trans ?_
          show (at_ (s.live.set 0 ((at_ s.live 0).1, Ab.last k v)) 0).1 = _
          rw [at_set_same hp]
        exact ⟨by rw [e]; exact On.zero ⟨(at_ s.live 0).1, 3, 1, -1, s.join - 1, true⟩ hon rfl rfl hz (by decide), nn_set h.nn hp⟩
      · rw [if_neg hz]
        exact Ro.of (show s.join - 1 ≠ 0 from hz) (On.add _ hon rfl rfl (show 0 < s.join - 1 by omega) (by decide)) (nn_erase h.nn)
    | last k v => exact absurd hb (j3 k v)
    | read =>
      simp only [PM.step, hb]
      have h2 : Ro (({ s with reads := s.reads.set (s.reads.length - 1) (at_ s.reads (s.reads.length - 1) ++ [at_ s.slots s.pos]), pos := s.pos + 1 } : PM).note (at_ s.live p).1 0 (3 + (s.pos : Int)) (at_ s.slots s.pos) 0) :=
        Ro.of (show s.join ≠ 0 by omega) (On.other _ hon (show (3 : Int) + (s.pos : Int) ≠ 1 by omega) hne) (h.nn)
      exact h2.rdg (show s.join ≠ 0 by omega) hp
/-- The play keeps it to its end, and the holder owes no more. -/
theorem mode_end (hm : Mode q F s P) : s.done = true ∨ s.done = false := by cases s.done <;> simp
end
end Go.Proofs.Ytnghahgfcaolbaa.Mo
