/- The program's play, whole, goes by the machine. -/
import Derived.Test.YtnghahgfcaolbaaFpRunP
namespace Go.Proofs.Ytnghahgfcaolbaa.Mo
open Go Go.Proofs.Ytnghahgfcaolbaa.SL Go.Proofs.Ytnghahgfcaolbaa.GX
set_option linter.unusedVariables false
set_option linter.unusedSimpArgs false
theorem ob1_inv {α γ : Type} {o : Option α} {f : α → Option γ} {r : γ} (h : ob1 o f = some r) : ∃ a, o = some a ∧ f a = some r := by
  cases o with
  | none => cases h
  | some a => exact ⟨a, rfl, h⟩
theorem ob2_inv {α β γ : Type} {o : Option (α × β)} {f : α → β → Option γ} {r : γ} (h : ob2 o f = some r) : ∃ a b, o = some (a, b) ∧ f a b = some r := by
  rcases o with _ | ⟨a, b⟩
  · cases h
  · exact ⟨a, b, rfl, h⟩
theorem ob3_inv {α β δ γ : Type} {o : Option (α × β × δ)} {f : α → β → δ → Option γ} {r : γ} (h : ob3 o f = some r) : ∃ a b c, o = some (a, b, c) ∧ f a b c = some r := by
  rcases o with _ | ⟨a, b, c⟩
  · cases h
  · exact ⟨a, b, c, rfl, h⟩
theorem if_inv {γ : Type} {c : Prop} [Decidable c] {a b : Option γ} {r : γ} (h : (if c then a else b) = some r) : (c ∧ a = some r) ∨ (¬c ∧ b = some r) := by
  by_cases e : c
  · rw [if_pos e] at h; exact .inl ⟨e, h⟩
  · rw [if_neg e] at h; exact .inr ⟨e, h⟩
/-! ### what a step leaves as it is -/
section
variable {J J' : T_frames_join} {A A' : T_cells_Arena} {q : List Int} {a a' : T_frames_actor}
theorem enter_steps (h : frames_join_enter J A q a = some (J', a')) : J'.run_Steps = J.run_Steps := by
  unfold frames_join_enter at h
  rcases if_inv h with ⟨_, h⟩ | ⟨_, h⟩
  · cases h; rfl
  · obtain ⟨_, _, h⟩ := ob1_inv h; cases h; rfl
theorem read_steps (h : frames_join_read J A q a = some (J', a')) : J'.run_Steps = J.run_Steps := by
  unfold frames_join_read at h
  rcases if_inv h with ⟨_, h⟩ | ⟨_, h⟩
  · rcases if_inv h with ⟨_, h⟩ | ⟨_, h⟩
    · obtain ⟨_, _, h1, h⟩ := ob2_inv h; cases h; exact (enter_steps h1 :)
    · cases h; rfl
  · cases h
theorem hold_steps (h : frames_join_hold J A q a = some (J', a')) : J'.run_Steps = J.run_Steps := by
  unfold frames_join_hold at h
  rcases if_inv h with ⟨_, h⟩ | ⟨_, h⟩
  · rcases if_inv h with ⟨_, h⟩ | ⟨_, h⟩
    · obtain ⟨_, _, h1, h⟩ := ob2_inv h; cases h; exact (read_steps h1 :)
    · cases h
  · cases h
theorem jj_steps (h : frames_join_join_join J A q a = some J') : J'.run_Steps = J.run_Steps := by
  unfold frames_join_join_join at h
  rcases if_inv h with ⟨_, h⟩ | ⟨_, h⟩
  · cases h; rfl
  · cases h
theorem next_steps {b : Bool} {c v : Int} (h : frames_join_next J A q a c v = some (b, J', a')) : J'.run_Steps = J.run_Steps := by
  unfold frames_join_next at h
  rcases if_inv h with ⟨_, h⟩ | ⟨_, h⟩
  · cases h; rfl
  rcases if_inv h with ⟨_, h⟩ | ⟨_, h⟩
  · rcases if_inv h with ⟨_, h⟩ | ⟨_, h⟩
    · cases h; rfl
    · obtain ⟨_, _, h1, h⟩ := ob2_inv h; cases h; exact enter_steps h1
  rcases if_inv h with ⟨_, h⟩ | ⟨_, h⟩
  · cases h; rfl
  rcases if_inv h with ⟨_, h⟩ | ⟨_, h⟩
  · obtain ⟨_, h1, h⟩ := ob1_inv h
    obtain ⟨_, _, h⟩ := ob1_inv h; cases h; exact jj_steps h1
  rcases if_inv h with ⟨_, h⟩ | ⟨_, h⟩
  · rcases if_inv h with ⟨_, h⟩ | ⟨_, h⟩
    · cases h; rfl
    · obtain ⟨_, _, h1, h⟩ := ob2_inv h; cases h; exact hold_steps h1
  rcases if_inv h with ⟨_, h⟩ | ⟨_, h⟩
  · rcases if_inv h with ⟨_, h⟩ | ⟨_, h⟩
    · cases h; rfl
    · obtain ⟨_, _, h1, h⟩ := ob2_inv h; cases h; exact hold_steps h1
  rcases if_inv h with ⟨_, h⟩ | ⟨_, h⟩
  · rcases if_inv h with ⟨_, h⟩ | ⟨_, h⟩
    · rcases if_inv h with ⟨_, h⟩ | ⟨_, h⟩
      · obtain ⟨_, _, h1, h⟩ := ob2_inv h; cases h; exact (read_steps h1 :)
      · cases h
    · cases h
  · cases h; rfl
theorem step_steps {p : Int} (h : frames_join_step J A q p = some (J', A')) : J'.run_Steps = J.run_Steps := by
  unfold frames_join_step at h
  rcases if_inv h with ⟨_, h⟩ | ⟨_, h⟩
  · obtain ⟨_, _, h⟩ := ob1_inv h
    obtain ⟨_, _, h⟩ := ob1_inv h
    obtain ⟨_, _, _, h⟩ := ob2_inv h
    obtain ⟨_, _, _, h⟩ := ob2_inv h
    rcases if_inv h with ⟨_, h⟩ | ⟨_, h⟩
    · cases h; rfl
    · obtain ⟨_, _, _, h1, h⟩ := ob3_inv h
      have hs := next_steps h1
      rcases if_inv h with ⟨_, h⟩ | ⟨_, h⟩
      · cases h; exact hs
      · rcases if_inv h with ⟨_, h⟩ | ⟨_, h⟩
        · rcases if_inv h with ⟨_, h⟩ | ⟨_, h⟩
          · rcases if_inv h with ⟨_, h⟩ | ⟨_, h⟩
            · rcases if_inv h with ⟨_, h⟩ | ⟨_, h⟩
              · cases h; exact hs
              · cases h
            · cases h
          · cases h
        · cases h
  · cases h
end
/-! ### how many steps are left -/
section
variable {q : List Int} {F : Nat} {s : PM} {P : Int}
theorem futl_nn {l : List Int} (h : ∀ x ∈ l, 0 ≤ x) : 0 ≤ futl l := by
  induction l with
  | nil => simp [futl]
  | cons x l ih =>
    have := h x (by simp); have := ih (fun y hy => h y (by simp [hy])); simp only [futl]; omega
theorem futl_le {l : List Int} (h : ∀ x ∈ l, x ≤ 8) : futl l ≤ 50 * (l.length : Int) := by
  induction l with
  | nil => simp [futl]
  | cons x l ih =>
    have := h x (by simp); have := ih (fun y hy => h y (by simp [hy])); simp only [futl, List.length_cons]; omega
theorem fut_nn (hq : ∀ i, i < q.length → 0 ≤ at_ q i ∧ at_ q i ≤ 8) (r : Nat) : 0 ≤ fut q r := by
  unfold fut
  exact futl_nn fun x hx => by obtain ⟨i, hi, rfl⟩ := at_mem (List.mem_of_mem_drop hx); exact (hq i hi).1
theorem ksum_nn (l : List (Int × Ab)) : 0 ≤ ksum l := by
  induction l with
  | nil => simp [ksum]
  | cons x l ih => rw [ksum_cons]; have : 0 ≤ kw x.2 := by unfold kw; split <;> omega
                   omega
theorem left_pos (hi : Inv q F s) (hm : Mode q F s P) (hd : s.done = false) : 1 ≤ P ∧ 0 < s.live.length := by
  have hk := ksum_nn s.live
  cases hm with
  | fin h => rw [hd] at h; cases h
  | ini0 x a1 a2 a3 a4 a5 a6 => have := fut_nn hi.q8 0; rw [a2]; exact ⟨by omega, by simp⟩
  | ini1 x a1 a2 a3 a4 a5 a6 => have := fut_nn hi.q8 0; rw [a2]; exact ⟨by omega, by simp⟩
  | fa p0 a1 a2 a3 a4 a5 a6 a7 a8 a9 a10 => have := fut_nn hi.q8 (s.rd + 1); have := hi.q8 s.rd a5; exact ⟨by omega, by omega⟩
  | ff p0 fr a1 a2 a3 a4 a5 a6 a7 a8 a9 a10 a11 => have := fut_nn hi.q8 (s.rd + 1); have := hi.q8 s.rd a6; exact ⟨by omega, by omega⟩
  | fs p0 a1 a2 a3 a4 a5 a6 a7 a8 a9 a10 => have := fut_nn hi.q8 (s.rd + 1); have := hi.q8 s.rd a5; exact ⟨by omega, by omega⟩
  | w a1 a2 a3 a4 a5 a6 a7 a8 a9 => have := fut_nn hi.q8 (s.rd + 1); have := hi.q8 s.rd a4; exact ⟨by omega, a2⟩
  | l x b a1 a2 a3 a4 a5 a6 a7 a8 => have := fut_nn hi.q8 (s.rd + 1); have := hi.q8 s.rd a4; rw [a2]; exact ⟨by omega, by simp⟩
  | r x a1 a2 a3 a4 a5 a6 a7 a8 => have := fut_nn hi.q8 (s.rd + 1); rw [a2]; exact ⟨by omega, by simp⟩
theorem left_fin (hm : Mode q F s P) (hd : s.done = true) : P = 0 := by
  cases hm with
  | fin h => rfl
  | ini0 x a1 => rw [a1] at hd; cases hd
  | ini1 x a1 => rw [a1] at hd; cases hd
  | fa p0 a1 => rw [a1] at hd; cases hd
  | ff p0 fr a1 => rw [a1] at hd; cases hd
  | fs p0 a1 => rw [a1] at hd; cases hd
  | w a1 => rw [a1] at hd; cases hd
  | l x b a1 => rw [a1] at hd; cases hd
  | r x a1 => rw [a1] at hd; cases hd
end
/-- Which one a pick names. -/
def pk (x : Int) (m : Nat) : Nat := (x % (m : Int)).toNat
theorem pk_ok (x : Int) {m : Nat} (hm : 0 < m) : ((pk x m : Nat) : Int) = x % (m : Int) ∧ pk x m < m := by
  have h1 := Int.emod_nonneg x (show (m : Int) ≠ 0 by omega)
  have h2 := Int.emod_lt_of_pos x (show (0 : Int) < m by omega)
  unfold pk
  omega
theorem opmod_ok (x : Int) {m : Nat} (hm : 0 < m) (hm2 : m ≤ 1048576) : ops_Mod x (m : Int) = some ((pk x m : Nat) : Int) := by
  unfold ops_Mod
  rw [if_neg (by omega), if_pos (by omega), (pk_ok x hm).1, ← mod_go x (m : Int) (by omega)]
  have h1 := Int.tmod_lt_of_pos x (show (0 : Int) < m by omega)
  have h2 : -(m : Int) < x.tmod m := by
    have := Int.tmod_lt_of_pos (-x) (show (0 : Int) < m by omega)
    rw [Int.neg_tmod] at this
    omega
  by_cases h : x.tmod m < 0
  · rw [if_pos h, if_pos h, wi_in (by omega)]
  · rw [if_neg h, if_neg h]
/-- The machine, played by picks. -/
def go (q picks : List Int) : Nat → Nat → PM → PM
  | 0, _, s => s
  | d + 1, i, s => if s.done = true then s else go q picks d (i + 1) (s.step q (pk (at_ picks i) s.live.length))
theorem Sm.steps {F : Nat} {J : T_frames_join} {A : T_cells_Arena} {s : PM} (h : Sm F J A s) (v : Int) : Sm F { J with run_Steps := v } A s :=
  ⟨h.base, h.frames, h.round, h.made, h.done, h.holders, h.reads, h.marks0, h.len, h.live, h.arena⟩
section
variable {q picks : List Int} {F : Nat}
/-- The picks, one by one. -/
theorem play_l2 {K : Nat} (hn : picks.length ≤ 1048576) :
    ∀ (d k i : Nat) (J : T_frames_join) (A : T_cells_Arena) (s : PM) (P : Int), i + d = picks.length → d < k → Sm F J A s → Inv q F s → Mode q F s P → J.run_Steps = (s.log.length : Int) → P + s.log.length ≤ 10000 →
      ∃ J' A' s' P', frames_Play_l2 K q picks k J A (i : Int) = some (J', A') ∧ Sm F J' A' s' ∧ Inv q F s' ∧ Mode q F s' P' ∧ J'.run_Steps = (s'.log.length : Int) ∧ P' + s'.log.length = P + s.log.length ∧ s'.log.length ≤ s.log.length + d ∧ (s'.done = true ∨ s'.log.length = s.log.length + d) ∧ s' = go q picks d i s
  | d, k, i, J, A, s, P, h, hk, hS, hi, hm, hst, hP => by
    obtain ⟨k, rfl⟩ : ∃ m, k = m + 1 := ⟨k - 1, by omega⟩
    rw [frames_Play_l2]
    by_cases hlt : i < picks.length
    · obtain ⟨d, rfl⟩ : ∃ m, d = m + 1 := ⟨d - 1, by omega⟩
      rw [if_pos (by omega), if_pos ⟨by omega, by omega⟩, hS.done]
      cases hd : s.done with
      | true =>
        rw [if_pos rfl]
        exact ⟨J, A, s, P, rfl, hS, hi, hm, hst, rfl, by omega, .inl hd, by rw [go, if_pos hd]⟩
      | false =>
        rw [if_neg (by decide)]
        obtain ⟨l1, l2⟩ := left_pos hi hm hd
        have hlen := hS.len
        have hlv := hi.lv
        rw [opmod_ok (at_ picks ((i : Int)).toNat) (m := J.live.length) (by omega) (by omega), ob1_some, Int.toNat_natCast, hlen]
        have hp : pk (at_ picks i) s.live.length < s.live.length := (pk_ok _ (by omega)).2
        generalize hpe : pk (at_ picks i) s.live.length = p at *
        have hll : s.log.length < 1000000 := by omega
        obtain ⟨J1, A1, g1, g2⟩ := step_sim hS hd hp (ok_of hi hm hd hp)
        obtain ⟨e1, e2, e3⟩ := step_mode hi hm hd hp hll
        rw [g1, ob2_some]
        have hst1 := step_steps g1
        have hw : wi (J1.run_Steps + 1) = ((s.step q p).log.length : Int) := by rw [hst1, hst, wi_in (by omega), e3]; omega
        rw [hw, wi1 (by omega) (by omega), show ((i : Int) + 1) = ((i + 1 : Nat) : Int) by omega]
        obtain ⟨J', A', s', P', q1, q2, q3, q4, q5, q6, q7, q8, q9⟩ := play_l2 hn d k (i + 1) _ A1 (s.step q p) (P - 1) (by omega) (by omega) (g2.steps _) e1 e2 rfl (by omega) 
        exact ⟨J', A', s', P', q1, q2, q3, q4, q5, by omega, by omega, q8.imp id (fun h => by omega), by rw [go, if_neg (by rw [hd]; decide), hpe]; exact q9⟩
    · rw [if_neg (by omega)]
      obtain rfl : d = 0 := by omega
      exact ⟨J, A, s, P, rfl, hS, hi, hm, hst, rfl, by omega, .inr (by omega), rfl⟩
end
end Go.Proofs.Ytnghahgfcaolbaa.Mo
