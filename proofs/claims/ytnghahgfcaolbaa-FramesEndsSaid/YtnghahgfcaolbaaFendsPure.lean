/- A play is done just when the picks are as many as its steps. -/
import Derived.Test.YtnghahgfcaolbaaFpAllE
namespace Go.Proofs.Ytnghahgfcaolbaa.Mo
open Go Go.Proofs.Ytnghahgfcaolbaa.SL Go.Proofs.Ytnghahgfcaolbaa.GX
set_option linter.unusedVariables false
set_option linter.unusedSimpArgs false
section
variable {q : List Int} {K : Nat}
theorem len_l1 (hq : ∀ i, i < q.length → 0 ≤ at_ q i ∧ at_ q i ≤ 8) (hl : q.length ≤ 64) : ∀ (d k i : Nat) (g : Int), i + d = q.length → d < k → 0 ≤ g → g + fut q i ≤ 10000 → plunderlaw8_length_l1 K q k g (i : Int) = some (g + fut q i)
  | d, k, i, g, h, hk, hg, hb => by
    obtain ⟨k, rfl⟩ : ∃ n, k = n + 1 := ⟨k - 1, by omega⟩
    rw [plunderlaw8_length_l1]
    by_cases hi : i < q.length
    · obtain ⟨d, rfl⟩ : ∃ n, d = n + 1 := ⟨d - 1, by omega⟩
      have h8 := hq i hi
      have hf := fut_next hi
      have hn := fut_nn hq (i + 1)
      rw [if_pos (by omega), if_pos ⟨by omega, by omega⟩, Int.toNat_natCast, wi_in (x := (6 : Int) * at_ q i) (by omega), wi_in (x := g + 6 * at_ q i) (by omega), wi_in (x := g + 6 * at_ q i + 2) (by omega), wi1 (by omega) (by omega), show ((i : Int) + 1) = ((i + 1 : Nat) : Int) by omega]
      rw [len_l1 hq hl d k (i + 1) _ (by omega) (by omega) (by omega) (by omega)]
      congr 1; omega
    · rw [if_neg (by omega), fut_end (by omega)]; congr 1; omega
theorem len_ok (hq : ∀ i, i < q.length → 0 ≤ at_ q i ∧ at_ q i ≤ 8) (hl : q.length ≤ 64) (hK : 100 < K) : plunderlaw8_length K q = some (2 + fut q 0) := by
  have hf : fut q 0 ≤ 50 * (q.length : Int) := by unfold fut; exact futl_le fun x hx => by obtain ⟨i, hi', rfl⟩ := at_mem (l := q) hx; exact (hq i hi').2
  unfold plunderlaw8_length
  have := len_l1 (K := K) hq hl q.length K 0 2 (by omega) (by omega) (by decide) (by omega)
  rw [show ((0 : Nat) : Int) = 0 by rfl] at this
  exact this
theorem ends_at (picks : List Int) (hq : ∀ i, i < q.length → 0 ≤ at_ q i ∧ at_ q i ≤ 8) (hl : q.length ≤ 64) (hn : picks.length ≤ 1048576) (hK : picks.length + 5000 < K) :
    ob1 (plunderlaw8_length K q) (fun r27 => ob2 (frames_Play K q picks) (fun r29 r30 => jn0 ((if r30 = 0 then (if ((r29.Log.length : Nat) : Int) = r29.Steps then some (.inl ()) else some (.inr false)) else some (.inr false))) ((if ((picks.length : Nat) : Int) < r27 then (if r29.Done = true then some false else some (r29.Steps == ((picks.length : Nat) : Int))) else (if r29.Done = true then some (r29.Steps == r27) else some false))))) = some true := by
  obtain ⟨_, s, P, h1, h2, h3, h4, h5, h6, _⟩ := play_ok (K := K) (R := fun _ => True) hq hl hn hK trivial (fun _ _ _ _ _ _ _ _ _ => trivial)
  rw [len_ok hq hl (by omega), ob1_some, h1, ob2_some]
  simp only [reduceIte, jn0_inl]
  cases hd : s.done with
  | true =>
    have := left_fin h3 hd
    rw [if_neg (by omega), if_pos rfl, beq_iff_eq.2 (show (s.log.length : Int) = 2 + fut q 0 by omega)]
  | false =>
    have := (left_pos h2 h3 hd).1
    have h7 : s.log.length = picks.length := by rcases h6 with h | h; · rw [hd] at h; cases h
                                                · exact h
    rw [if_pos (by omega), if_neg (by decide), beq_iff_eq.2 (show (s.log.length : Int) = (picks.length : Int) by omega)]
end
theorem fends_true {K : Nat} (a b : List Int) (ha : a.length ≤ 9223372036854775807) (hK : a.length + b.length + 2000000 < K) : plunderlaw8_FramesEnds K a b = some true := by
  obtain ⟨q, t1, t2, t3⟩ := tidy_ok (K := K) ha (by omega)
  unfold plunderlaw8_FramesEnds
  rw [t1, ob1_some]
  by_cases h : ((b.length : Nat) : Int) > 1048576
  · rw [if_pos h, if_pos ⟨by omega, by omega⟩]
    exact ends_at _ t3 t2 (by rw [List.length_take]; omega) (by rw [List.length_take]; omega)
  · rw [if_neg h]
    exact ends_at _ t3 t2 (by omega) (by omega)
end Go.Proofs.Ytnghahgfcaolbaa.Mo
