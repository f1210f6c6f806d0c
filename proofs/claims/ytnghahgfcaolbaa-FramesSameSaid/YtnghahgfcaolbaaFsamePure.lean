/- Two plays of the same rounds end alike: FramesSame answers true. -/
import Derived.Test.YtnghahgfcaolbaaFpValM
namespace Go.Proofs.Ytnghahgfcaolbaa.Mo
open Go Go.Proofs.Ytnghahgfcaolbaa.SL Go.Proofs.Ytnghahgfcaolbaa.GX
set_option linter.unusedVariables false
set_option linter.unusedSimpArgs false
section
variable {q : List Int} {K : Nat}
theorem len_l1 (hq : ∀ i, i < q.length → 0 ≤ at_ q i ∧ at_ q i ≤ 8) (hl : q.length ≤ 64) : ∀ (d k i : Nat) (g : Int), i + d = q.length → d < k → 0 ≤ g → g + fut q i ≤ 10000 → plunderlaw8_length_l1 K q k g (i : Int) = some (g + fut q i)
  | d, k, i, g, h, hk, hg, hb => by
    obtain ⟨k, rfl⟩ : ∃ n, k = n + 1 := ⟨k - 1, by omega⟩
    rw [plunderlaw8_length_l1]
    by_cases hi : i < q.length
    · obtain ⟨d, rfl⟩ : ∃ n, d = n + 1 := ⟨d - 1, by omega⟩
      have h8 := hq i hi
      have hf := fut_next hi
      have hn := fut_nn hq (i + 1)
      rw [if_pos (by omega), if_pos ⟨by omega, by omega⟩, Int.toNat_natCast, wi_in (x := (6 : Int) * at_ q i) (by omega), wi_in (x := g + 6 * at_ q i) (by omega), wi_in (x := g + 6 * at_ q i + 2) (by omega), wi1 (by omega) (by omega), show ((i : Int) + 1) = ((i + 1 : Nat) : Int) by omega]
      rw [len_l1 hq hl d k (i + 1) _ (by omega) (by omega) (by omega) (by omega)]
      congr 1; omega
    · rw [if_neg (by omega), fut_end (by omega)]; congr 1; omega
theorem len_ok (hq : ∀ i, i < q.length → 0 ≤ at_ q i ∧ at_ q i ≤ 8) (hl : q.length ≤ 64) (hK : 100 < K) : plunderlaw8_length K q = some (2 + fut q 0) := by
  have hf : fut q 0 ≤ 50 * (q.length : Int) := by unfold fut; exact futl_le fun x hx => by obtain ⟨i, hi', rfl⟩ := at_mem (l := q) hx; exact (hq i hi').2
  unfold plunderlaw8_length
  have := len_l1 (K := K) hq hl q.length K 0 2 (by omega) (by omega) (by decide) (by omega)
  rw [show ((0 : Nat) : Int) = 0 by rfl] at this
  exact this
/-- A play of picks, whose number is told. -/
theorem run_ok (picks : List Int) (N : Int) (hN : (picks.length : Int) = N ∨ (picks.length = 1048576 ∧ 1048576 < N)) (hq : ∀ i, i < q.length → 0 ≤ at_ q i ∧ at_ q i ≤ 8) (hl : q.length ≤ 64) (hn : picks.length ≤ 1048576) (hK : picks.length + 5000 < K) :
    ∃ s : PM, frames_Play K q picks = some (⟨s.done, (s.log.length : Int), s.holders, s.reads, s.marks, s.log⟩, 0) ∧ Inv q (nF q) s ∧ Rv q (nF q) s ∧ s.done = decide (N ≥ 2 + fut q 0) ∧ (s.done = true → (s.log.length : Int) = 2 + fut q 0) := by
  have hf : fut q 0 ≤ 50 * (q.length : Int) := by unfold fut; exact futl_le fun x hx => by obtain ⟨i, hi', rfl⟩ := at_mem (l := q) hx; exact (hq i hi').2
  obtain ⟨_, s, P, h1, h2, h3, h4, h5, h6, h7⟩ := play_ok (K := K) (R := Rv q (nF q)) hq hl hn hK ini_val (fun s p P hi hm hd hp _ h => step_val hi hm hd hp h)
  refine ⟨s, h1, h2, h7, ?_, fun hd => by have := left_fin h3 hd; omega⟩
  cases hd : s.done with
  | true =>
    have := left_fin h3 hd
    exact (decide_eq_true (show N ≥ 2 + fut q 0 by omega)).symm
  | false =>
    have := (left_pos h2 h3 hd).1
    have h8 : s.log.length = picks.length := by rcases h6 with h | h; · rw [hd] at h; cases h
                                                · exact h
    exact (decide_eq_false (show ¬ N ≥ 2 + fut q 0 by omega)).symm
theorem sn_l1 {a b : List Int} (hl : a.length = b.length) (h64 : a.length ≤ 100000) (h : ∀ i, i < a.length → at_ a i = at_ b i) : ∀ (d k i : Nat), i + d = a.length → d < k → plunderlaw8_sameNumbers_l1 K a b k (i : Int) = some true
  | d, k, i, hd, hk => by
    obtain ⟨k, rfl⟩ : ∃ n, k = n + 1 := ⟨k - 1, by omega⟩
    rw [plunderlaw8_sameNumbers_l1]
    by_cases hi : i < a.length
    · obtain ⟨d, rfl⟩ : ∃ n, d = n + 1 := ⟨d - 1, by omega⟩
      rw [if_pos (by omega), if_pos ⟨by omega, by omega⟩, if_pos ⟨by omega, by omega⟩, Int.toNat_natCast, if_pos (h i hi), wi1 (by omega) (by omega), show ((i : Int) + 1) = ((i + 1 : Nat) : Int) by omega]
      exact sn_l1 hl h64 h d k (i + 1) (by omega) (by omega)
    · rw [if_neg (by omega)]
theorem sn_ok {a b : List Int} (hl : a.length = b.length) (h64 : a.length ≤ 100000) (hK : a.length < K) (h : ∀ i, i < a.length → at_ a i = at_ b i) : plunderlaw8_sameNumbers K a b = some true := by
  unfold plunderlaw8_sameNumbers
  rw [if_pos (by omega)]
  exact sn_l1 hl h64 h a.length K 0 (by omega) hK
theorem sr_l1 {a b : List (List Int)} (hl : a.length = b.length) (h64 : a.length ≤ 100000) (h : ∀ i, i < a.length → plunderlaw8_sameNumbers K (at_ a i) (at_ b i) = some true) : ∀ (d k i : Nat), i + d = a.length → d < k → plunderlaw8_sameReads_l1 K a b k (i : Int) = some true
  | d, k, i, hd, hk => by
    obtain ⟨k, rfl⟩ : ∃ n, k = n + 1 := ⟨k - 1, by omega⟩
    rw [plunderlaw8_sameReads_l1]
    by_cases hi : i < a.length
    · obtain ⟨d, rfl⟩ : ∃ n, d = n + 1 := ⟨d - 1, by omega⟩
      rw [if_pos (by omega), if_pos ⟨by omega, by omega⟩, if_pos ⟨by omega, by omega⟩, Int.toNat_natCast, h i hi, ob1_some, if_pos rfl, wi1 (by omega) (by omega), show ((i : Int) + 1) = ((i + 1 : Nat) : Int) by omega]
      exact sr_l1 hl h64 h d k (i + 1) (by omega) (by omega)
    · rw [if_neg (by omega)]
theorem sr_ok {a b : List (List Int)} (hl : a.length = b.length) (h64 : a.length ≤ 100000) (hK : a.length < K) (h : ∀ i, i < a.length → plunderlaw8_sameNumbers K (at_ a i) (at_ b i) = some true) : plunderlaw8_sameReads K a b = some true := by
  unfold plunderlaw8_sameReads
  rw [if_pos (by omega)]
  exact sr_l1 hl h64 h a.length K 0 (by omega) hK
theorem same_two (s t : PM) (N M : Int) (hq : ∀ i, i < q.length → 0 ≤ at_ q i ∧ at_ q i ≤ 8) (hl : q.length ≤ 64) (hK : 100000 < K) (si : Inv q (nF q) s) (ti : Inv q (nF q) t) (sv : Rv q (nF q) s) (tv : Rv q (nF q) t) (sd : s.done = decide (N ≥ 2 + fut q 0)) (td : t.done = decide (M ≥ 2 + fut q 0)) (sl : s.done = true → (s.log.length : Int) = 2 + fut q 0) (tl : t.done = true → (t.log.length : Int) = 2 + fut q 0) :
    ob1 (plunderlaw8_length K q) (fun r31 => jn0 ((if (0 : Int) = 0 then (if (0 : Int) = 0 then (if s.done = (decide (N ≥ r31)) then (if t.done = (decide (M ≥ r31)) then some (.inl ()) else some (.inr false)) else some (.inr false)) else some (.inr false)) else some (.inr false))) (jn0 ((if s.done = true then (if t.done = true then some (.inl ()) else some (.inr true)) else some (.inr true))) ((if (s.log.length : Int) = (t.log.length : Int) then ob1 (plunderlaw8_sameReads K s.reads t.reads) (fun r44 => (if r44 = true then ob1 (plunderlaw8_sameNumbers K s.marks t.marks) (fun r47 => some r47) else some false)) else some false)))) = some true := by
  rw [len_ok hq hl (by omega), ob1_some, if_pos rfl, if_pos rfl, if_pos sd, if_pos td, jn0_inl]
  cases hs : s.done with
  | false => rw [if_neg (by decide), jn0_inr]
  | true =>
    rw [if_pos rfl]
    cases ht : t.done with
    | false => rw [if_neg (by decide), jn0_inr]
    | true =>
      rw [if_pos rfl, jn0_inl, if_pos (by rw [sl hs, tl ht])]
      obtain ⟨a1, a2, a3⟩ := sv.dn hs
      obtain ⟨b1, b2, b3⟩ := tv.dn ht
      have f1 := si.f.2
      rw [sr_ok (by omega) (by omega) (by omega) (fun i hi => by
        have c1 := (sv.rd.full i hi).2 (by omega)
        have c2 := (tv.rd.full i (by omega)).2 (by omega)
        have c3 := hq i (by omega)
        exact sn_ok (by omega) (by omega) (by omega) (fun k hk => by rw [sv.rd.val i k hi hk, tv.rd.val i k (by omega) (by omega)])), ob1_some, if_pos rfl, sn_ok (by rw [si.ml, ti.ml]) (by rw [si.ml]; omega) (by rw [si.ml]; omega) (fun i hi => by rw [si.ml] at hi; rw [a3 i hi, b3 i hi]), ob1_some]
end
theorem fsame_true {K : Nat} (a b c : List Int) (ha : a.length ≤ 9223372036854775807) (hK : a.length + b.length + c.length + 2000000 < K) : plunderlaw8_FramesSame K a b c = some true := by
  obtain ⟨q, t1, t2, t3⟩ := tidy_ok (K := K) ha (by omega)
  unfold plunderlaw8_FramesSame
  rw [t1, ob1_some]
  by_cases h : ((b.length : Nat) : Int) > 1048576
  · rw [if_pos h, if_pos ⟨by omega, by omega⟩]
    obtain ⟨s, s1, s2, s3, s4, s5⟩ := run_ok (K := K) (q := q) (b.take 1048576) (b.length : Int) (.inr ⟨by rw [List.length_take]; omega, h⟩) t3 t2 (by rw [List.length_take]; omega) (by rw [List.length_take]; omega)
    rw [s1, ob2_some]
    by_cases h2 : ((c.length : Nat) : Int) > 1048576
    · rw [if_pos h2, if_pos ⟨by omega, by omega⟩]
      obtain ⟨t, u1, u2, u3, u4, u5⟩ := run_ok (K := K) (q := q) (c.take 1048576) (c.length : Int) (.inr ⟨by rw [List.length_take]; omega, h2⟩) t3 t2 (by rw [List.length_take]; omega) (by rw [List.length_take]; omega)
      rw [u1, ob2_some]
      exact same_two s t _ _ t3 t2 (by omega) s2 u2 s3 u3 s4 u4 s5 u5
    · rw [if_neg h2]
      obtain ⟨t, u1, u2, u3, u4, u5⟩ := run_ok (K := K) (q := q) c (c.length : Int) (.inl rfl) t3 t2 (by omega) (by omega)
      rw [u1, ob2_some]
      exact same_two s t _ _ t3 t2 (by omega) s2 u2 s3 u3 s4 u4 s5 u5
  · rw [if_neg h]
    obtain ⟨s, s1, s2, s3, s4, s5⟩ := run_ok (K := K) (q := q) b (b.length : Int) (.inl rfl) t3 t2 (by omega) (by omega)
    rw [s1, ob2_some]
    by_cases h2 : ((c.length : Nat) : Int) > 1048576
    · rw [if_pos h2, if_pos ⟨by omega, by omega⟩]
      obtain ⟨t, u1, u2, u3, u4, u5⟩ := run_ok (K := K) (q := q) (c.take 1048576) (c.length : Int) (.inr ⟨by rw [List.length_take]; omega, h2⟩) t3 t2 (by rw [List.length_take]; omega) (by rw [List.length_take]; omega)
      rw [u1, ob2_some]
      exact same_two s t _ _ t3 t2 (by omega) s2 u2 s3 u3 s4 u4 s5 u5
    · rw [if_neg h2]
      obtain ⟨t, u1, u2, u3, u4, u5⟩ := run_ok (K := K) (q := q) c (c.length : Int) (.inl rfl) t3 t2 (by omega) (by omega)
      rw [u1, ob2_some]
      exact same_two s t _ _ t3 t2 (by omega) s2 u2 s3 u3 s4 u4 s5 u5
end Go.Proofs.Ytnghahgfcaolbaa.Mo
