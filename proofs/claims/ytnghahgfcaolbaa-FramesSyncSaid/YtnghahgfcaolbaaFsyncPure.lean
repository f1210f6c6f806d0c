/- What a play reads is what its children stored, and each frame is marked once: FramesSync answers true. -/
import Derived.Test.YtnghahgfcaolbaaFpValY
namespace Go.Proofs.Ytnghahgfcaolbaa.Mo
open Go Go.Proofs.Ytnghahgfcaolbaa.SL Go.Proofs.Ytnghahgfcaolbaa.GX
set_option linter.unusedVariables false
set_option linter.unusedSimpArgs false
section
variable {q : List Int} {K : Nat}
theorem len_l1 (hq : ∀ i, i < q.length → 0 ≤ at_ q i ∧ at_ q i ≤ 8) (hl : q.length ≤ 64) : ∀ (d k i : Nat) (g : Int), i + d = q.length → d < k → 0 ≤ g → g + fut q i ≤ 10000 → plunderlaw8_length_l1 K q k g (i : Int) = some (g + fut q i)
  | d, k, i, g, h, hk, hg, hb => by
    obtain ⟨k, rfl⟩ : ∃ n, k = n + 1 := ⟨k - 1, by omega⟩
    rw [plunderlaw8_length_l1]
    by_cases hi : i < q.length
    · obtain ⟨d, rfl⟩ : ∃ n, d = n + 1 := ⟨d - 1, by omega⟩
      have h8 := hq i hi
      have hf := fut_next hi
      have hn := fut_nn hq (i + 1)
      rw [if_pos (by omega), if_pos ⟨by omega, by omega⟩, Int.toNat_natCast, wi_in (x := (6 : Int) * at_ q i) (by omega), wi_in (x := g + 6 * at_ q i) (by omega), wi_in (x := g + 6 * at_ q i + 2) (by omega), wi1 (by omega) (by omega), show ((i : Int) + 1) = ((i + 1 : Nat) : Int) by omega]
      rw [len_l1 hq hl d k (i + 1) _ (by omega) (by omega) (by omega) (by omega)]
      congr 1; omega
    · rw [if_neg (by omega), fut_end (by omega)]; congr 1; omega
theorem len_ok (hq : ∀ i, i < q.length → 0 ≤ at_ q i ∧ at_ q i ≤ 8) (hl : q.length ≤ 64) (hK : 100 < K) : plunderlaw8_length K q = some (2 + fut q 0) := by
  have hf : fut q 0 ≤ 50 * (q.length : Int) := by unfold fut; exact futl_le fun x hx => by obtain ⟨i, hi', rfl⟩ := at_mem (l := q) hx; exact (hq i hi').2
  unfold plunderlaw8_length
  have := len_l1 (K := K) hq hl q.length K 0 2 (by omega) (by omega) (by decide) (by omega)
  rw [show ((0 : Nat) : Int) = 0 by rfl] at this
  exact this
/-- A play of picks, whose number is told. -/
theorem run_ok (picks : List Int) (N : Int) (hN : (picks.length : Int) = N ∨ (picks.length = 1048576 ∧ 1048576 < N)) (hq : ∀ i, i < q.length → 0 ≤ at_ q i ∧ at_ q i ≤ 8) (hl : q.length ≤ 64) (hn : picks.length ≤ 1048576) (hK : picks.length + 5000 < K) :
    ∃ s : PM, frames_Play K q picks = some (⟨s.done, (s.log.length : Int), s.holders, s.reads, s.marks, s.log⟩, 0) ∧ Inv q (nF q) s ∧ Rv q (nF q) s ∧ s.done = decide (N ≥ 2 + fut q 0) ∧ (s.done = true → (s.log.length : Int) = 2 + fut q 0) := by
  have hf : fut q 0 ≤ 50 * (q.length : Int) := by unfold fut; exact futl_le fun x hx => by obtain ⟨i, hi', rfl⟩ := at_mem (l := q) hx; exact (hq i hi').2
  obtain ⟨_, s, P, h1, h2, h3, h4, h5, h6, h7⟩ := play_ok (K := K) (R := Rv q (nF q)) hq hl hn hK ini_val (fun s p P hi hm hd hp _ h => step_val hi hm hd hp h)
  refine ⟨s, h1, h2, h7, ?_, fun hd => by have := left_fin h3 hd; omega⟩
  cases hd : s.done with
  | true =>
    have := left_fin h3 hd
    exact (decide_eq_true (show N ≥ 2 + fut q 0 by omega)).symm
  | false =>
    have := (left_pos h2 h3 hd).1
    have h8 : s.log.length = picks.length := by rcases h6 with h | h; · rw [hd] at h; cases h
                                                · exact h
    exact (decide_eq_false (show ¬ N ≥ 2 + fut q 0 by omega)).symm
theorem sum_l1 (hq : ∀ i, i < q.length → 0 ≤ at_ q i ∧ at_ q i ≤ 8) (hl : q.length ≤ 64) : ∀ (d k i : Nat), i + d = q.length → d < k → plunderlaw8_FramesSync_l1 K q k (1 + pre q i) (i : Int) = some (1 + isum q)
  | d, k, i, h, hk => by
    obtain ⟨k, rfl⟩ : ∃ m, k = m + 1 := ⟨k - 1, by omega⟩
    rw [plunderlaw8_FramesSync_l1]
    by_cases hi : i < q.length
    · obtain ⟨d, rfl⟩ : ∃ m, d = m + 1 := ⟨d - 1, by omega⟩
      have hb := hq i hi
      have hp := pre_le hq i
      have hs : isum q ≤ 8 * (q.length : Int) := isum_le fun x hx => by obtain ⟨j, hj, rfl⟩ := at_mem hx; exact (hq j hj).2
      rw [if_pos (by omega), if_pos ⟨by omega, by omega⟩, Int.toNat_natCast, wi_in (by omega), wi1 (by omega) (by omega), show ((i : Int) + 1) = ((i + 1 : Nat) : Int) by omega]
      have := sum_l1 hq hl d k (i + 1) (by omega) (by omega)
      rw [pre_next hi] at this
      rw [← this]; congr 1; omega
    · rw [if_neg (by omega)]
      have : pre q i = isum q := by unfold pre; rw [List.take_of_length_le (by omega)]
      rw [this]
theorem val_l3 {R : T_api_JoinRun} {i : Nat} {b1 b2 : Bool} (hi : i < R.Reads.length) (h64 : R.Reads.length ≤ 64) (hlen : (at_ R.Reads i).length ≤ 8) (hv : ∀ k, k < (at_ R.Reads i).length → at_ (at_ R.Reads i) k = 100 * (i : Int) + (k : Int)) : ∀ (d k j : Nat), j + d = (at_ R.Reads i).length → d < k → plunderlaw8_FramesSync_l3 K R (i : Int) b1 b2 k (j : Int) = some (.inl (b1, b1, b2))
  | d, k, j, h, hk => by
    obtain ⟨k, rfl⟩ : ∃ m, k = m + 1 := ⟨k - 1, by omega⟩
    rw [plunderlaw8_FramesSync_l3, if_pos ⟨by omega, by omega⟩]
    rw [Int.toNat_natCast]
    by_cases hj : j < (at_ R.Reads i).length
    · obtain ⟨d, rfl⟩ : ∃ m, d = m + 1 := ⟨d - 1, by omega⟩
      rw [if_pos (by omega), if_pos ⟨by omega, by omega⟩, Int.toNat_natCast, hv j hj, wi_in (x := (100 : Int) * (i : Int)) (by omega), wi_in (by omega), if_pos rfl, wi1 (by omega) (by omega), show ((j : Int) + 1) = ((j + 1 : Nat) : Int) by omega]
      exact val_l3 hi h64 hlen hv d k (j + 1) (by omega) (by omega)
    · rw [if_neg (by omega)]
theorem rds_l2 {s : PM} {R : T_api_JoinRun} (hRr : R.Reads = s.reads) (hRd : R.Done = s.done) (hi : Inv q (nF q) s) (hv : Rv q (nF q) s) (hK : 100 < K) : ∀ (d k i : Nat), i + d = s.reads.length → d < k → plunderlaw8_FramesSync_l2 K q R k (i : Int) = some (.inl ())
  | d, k, i, h, hk => by
    obtain ⟨k, rfl⟩ : ∃ m, k = m + 1 := ⟨k - 1, by omega⟩
    have h64 := hi.rl
    have hrl := hv.rd.rl
    have hrq := hv.rd.rq
    rw [plunderlaw8_FramesSync_l2]
    by_cases hlt : i < s.reads.length
    · obtain ⟨d, rfl⟩ : ∃ m, d = m + 1 := ⟨d - 1, by omega⟩
      have hf := hv.rd.full i hlt
      have h8 := hi.q8 i (by omega)
      have hl3 : ∀ b1 b2, plunderlaw8_FramesSync_l3 K R (i : Int) b1 b2 K 0 = some (.inl (b1, b1, b2)) := fun b1 b2 => val_l3 (K := K) (R := R) (by rw [hRr]; exact hlt) (by rw [hRr]; exact h64) (by rw [hRr]; omega) (fun k hk => by rw [hRr] at hk ⊢; exact hv.rd.val i k hlt hk) (at_ R.Reads i).length K 0 (by omega) (by rw [hRr]; omega)
      have hrest := rds_l2 hRr hRd hi hv hK d k (i + 1) (by omega) (by omega)
      rw [hRr, if_pos (by omega), wi1 (by omega) (by omega), show ((i : Int) + 1) = ((i + 1 : Nat) : Int) by omega, hRd]
      have fin : ∀ b : Bool, (b = true → ((at_ s.reads i).length : Int) = at_ q i) →
          jn3 (jn1 (if inr_ (i : Int) s.reads.length then if inr_ (i : Int) q.length then (if (((at_ s.reads (i : Int).toNat).length : Nat) : Int) > (at_ q (i : Int).toNat) then some (.inr (.inr (.inr false))) else (if b = true then (if (((at_ s.reads (i : Int).toNat).length : Nat) : Int) = (at_ q (i : Int).toNat) then some (Sum.inl ((((at_ s.reads (i : Int).toNat).length : Nat) : Int) != (at_ q (i : Int).toNat))) else some (.inr (.inr (.inr false)))) else some (.inl false))) else none else none) (fun g54 => plunderlaw8_FramesSync_l3 K R (i : Int) b g54 K 0)) (fun g45 g46 g47 => plunderlaw8_FramesSync_l2 K q R k ((i + 1 : Nat) : Int)) = some (.inl ()) := by
        intro b hb
        rw [if_pos ⟨by omega, by omega⟩, if_pos ⟨by omega, by omega⟩, Int.toNat_natCast, if_neg (show ¬ ((at_ s.reads i).length : Int) > at_ q i by omega)]
        cases b with
        | true => rw [if_pos rfl, if_pos (hb rfl), jn1_inl, hl3, jn3_inl]; exact hrest
        | false => rw [if_neg (by decide), jn1_inl, hl3, jn3_inl]; exact hrest
      cases hd : s.done with
      | true =>
        rw [if_pos rfl, ob1_some]
        exact fin true (fun _ => hf.2 (by have := hv.dn hd; omega))
      | false =>
        rw [if_neg (by decide), ob1_some]
        exact fin (decide (((i + 1 : Nat) : Int) < (s.reads.length : Int))) (fun hb => hf.2 (by have := of_decide_eq_true hb; omega))
    · rw [hRr, if_neg (by omega)]
theorem mks_l4 {s : PM} {R : T_api_JoinRun} (hRm : R.Marks = s.marks) (hRd : R.Done = s.done) (hi : Inv q (nF q) s) (hv : Rv q (nF q) s) : ∀ (d k i : Nat), i + d = nF q → d < k → plunderlaw8_FramesSync_l4 K R ((nF q : Nat) : Int) k (i : Int) = some true
  | d, k, i, h, hk => by
    obtain ⟨k, rfl⟩ : ∃ m, k = m + 1 := ⟨k - 1, by omega⟩
    rw [plunderlaw8_FramesSync_l4]
    have hml := hi.ml
    have hF := hi.f.2
    by_cases hlt : i < nF q
    · obtain ⟨d, rfl⟩ : ∃ m, d = m + 1 := ⟨d - 1, by omega⟩
      have hrest := mks_l4 hRm hRd hi hv d k (i + 1) (by omega) (by omega)
      have hb := (hi.mb i hlt).1
      rw [if_pos (by omega), hRm, if_pos ⟨by omega, by omega⟩, Int.toNat_natCast, wi1 (by omega) (by omega), show ((i : Int) + 1) = ((i + 1 : Nat) : Int) by omega, if_neg (by omega), hRd]
      cases hd : s.done with
      | true =>
        have := (hv.dn hd).2.2 i hlt
        rw [if_neg (by omega), if_pos rfl, if_pos this]; exact hrest
      | false =>
        have h1 := (hv.op hd).2 i hlt
        have h2 : 0 ≤ wsum (wm i) s.live := wsum_nn (fun b => (wm01 i b).1) s.live
        have h3 : at_ s.marks i ≤ 1 := by split at h1 <;> omega
        rw [if_neg (by omega), if_neg (by decide)]; exact hrest
    · rw [if_neg (by omega)]
theorem sync_at_l1 (picks : List Int) (N : Int) (hN : (picks.length : Int) = N ∨ (picks.length = 1048576 ∧ 1048576 < N)) (hq : ∀ i, i < q.length → 0 ≤ at_ q i ∧ at_ q i ≤ 8) (hl : q.length ≤ 64) (hn : picks.length ≤ 1048576) (hK : picks.length + 5000 < K) :
    ob2 (frames_Play K q picks) (fun r7 r8 => jn0 ((if r8 = 0 then (if ((r7.Reads.length : Nat) : Int) = ((r7.Holders.length : Nat) : Int) then (if ((r7.Reads.length : Nat) : Int) > ((q.length : Nat) : Int) then some (.inr false) else some (.inl ())) else some (.inr false)) else some (.inr false))) (jn0 (ob1 (plunderlaw8_length K q) (fun r25 => (if N ≥ r25 then (if r7.Done = true then some (.inl ()) else some (.inr false)) else some (.inl ())))) (ob1 ((plunderlaw8_FramesSync_l1 K q K 1 0)) (fun g29 => jn0 ((if ((r7.Marks.length : Nat) : Int) = g29 then (if r7.Done = true then (if ((r7.Holders.length : Nat) : Int) = ((q.length : Nat) : Int) then some (.inl ()) else some (.inr false)) else some (.inl ())) else some (.inr false))) (jn0 ((plunderlaw8_FramesSync_l2 K q r7 K 0)) ((plunderlaw8_FramesSync_l4 K r7 g29 K 0))))))) = some true := by
  obtain ⟨s, s1, s2, s3, s4, s5⟩ := run_ok (K := K) (q := q) picks N hN hq hl hn hK
  have hsum := sum_l1 (K := K) hq hl q.length K 0 (by omega) (by omega)
  rw [show (1 : Int) + pre q 0 = 1 by rfl, show ((0 : Nat) : Int) = 0 by rfl, ← s2.fr] at hsum
  have hhr := s2.hr
  have hrq := s3.rd.rq
  have hml := s2.ml
  have hF := s2.f.2
  have h64 := s2.rl
  have e2 := rds_l2 (K := K) (s := s) (R := ⟨s.done, (s.log.length : Int), s.holders, s.reads, s.marks, s.log⟩) rfl rfl s2 s3 (by omega) s.reads.length K 0 (by omega) (by omega)
  have e4 := mks_l4 (K := K) (s := s) (R := ⟨s.done, (s.log.length : Int), s.holders, s.reads, s.marks, s.log⟩) rfl rfl s2 s3 (nF q) K 0 (by omega) (by omega)
  rw [show ((0 : Nat) : Int) = 0 by rfl] at e2 e4
  rw [s1, ob2_some, if_pos rfl, if_pos (show (s.reads.length : Int) = (s.holders.length : Int) by omega), if_neg (show ¬ (s.reads.length : Int) > (q.length : Int) by omega), jn0_inl, len_ok hq hl (by omega), ob1_some, hsum, ob1_some, if_pos (show (s.marks.length : Int) = ((nF q : Nat) : Int) by omega), e2, jn0_inl, e4]
  have c1 : (if N ≥ 2 + fut q 0 then (if s.done = true then (some (.inl ()) : Option (Unit ⊕ Bool)) else some (.inr false)) else some (.inl ())) = some (.inl ()) := by
    by_cases hc : N ≥ 2 + fut q 0
    · rw [if_pos hc, if_pos (by rw [s4]; exact decide_eq_true hc)]
    · rw [if_neg hc]
  have c2 : (if s.done = true then (if (s.holders.length : Int) = (q.length : Int) then (some (.inl ()) : Option (Unit ⊕ Bool)) else some (.inr false)) else some (.inl ())) = some (.inl ()) := by
    by_cases hc : s.done = true
    · rw [if_pos hc, if_pos (by have := (s3.dn hc).2.1; omega)]
    · rw [if_neg hc]
  rw [c1, jn0_inl, c2, jn0_inl]
theorem sum_l5 (hq : ∀ i, i < q.length → 0 ≤ at_ q i ∧ at_ q i ≤ 8) (hl : q.length ≤ 64) : ∀ (d k i : Nat), i + d = q.length → d < k → plunderlaw8_FramesSync_l5 K q k (1 + pre q i) (i : Int) = some (1 + isum q)
  | d, k, i, h, hk => by
    obtain ⟨k, rfl⟩ : ∃ m, k = m + 1 := ⟨k - 1, by omega⟩
    rw [plunderlaw8_FramesSync_l5]
    by_cases hi : i < q.length
    · obtain ⟨d, rfl⟩ : ∃ m, d = m + 1 := ⟨d - 1, by omega⟩
      have hb := hq i hi
      have hp := pre_le hq i
      have hs : isum q ≤ 8 * (q.length : Int) := isum_le fun x hx => by obtain ⟨j, hj, rfl⟩ := at_mem hx; exact (hq j hj).2
      rw [if_pos (by omega), if_pos ⟨by omega, by omega⟩, Int.toNat_natCast, wi_in (by omega), wi1 (by omega) (by omega), show ((i : Int) + 1) = ((i + 1 : Nat) : Int) by omega]
      have := sum_l5 hq hl d k (i + 1) (by omega) (by omega)
      rw [pre_next hi] at this
      rw [← this]; congr 1; omega
    · rw [if_neg (by omega)]
      have : pre q i = isum q := by unfold pre; rw [List.take_of_length_le (by omega)]
      rw [this]
theorem val_l7 {R : T_api_JoinRun} {i : Nat} {b1 b2 : Bool} (hi : i < R.Reads.length) (h64 : R.Reads.length ≤ 64) (hlen : (at_ R.Reads i).length ≤ 8) (hv : ∀ k, k < (at_ R.Reads i).length → at_ (at_ R.Reads i) k = 100 * (i : Int) + (k : Int)) : ∀ (d k j : Nat), j + d = (at_ R.Reads i).length → d < k → plunderlaw8_FramesSync_l7 K R (i : Int) b1 b2 k (j : Int) = some (.inl (b1, b1, b2))
  | d, k, j, h, hk => by
    obtain ⟨k, rfl⟩ : ∃ m, k = m + 1 := ⟨k - 1, by omega⟩
    rw [plunderlaw8_FramesSync_l7, if_pos ⟨by omega, by omega⟩]
    rw [Int.toNat_natCast]
    by_cases hj : j < (at_ R.Reads i).length
    · obtain ⟨d, rfl⟩ : ∃ m, d = m + 1 := ⟨d - 1, by omega⟩
      rw [if_pos (by omega), if_pos ⟨by omega, by omega⟩, Int.toNat_natCast, hv j hj, wi_in (x := (100 : Int) * (i : Int)) (by omega), wi_in (by omega), if_pos rfl, wi1 (by omega) (by omega), show ((j : Int) + 1) = ((j + 1 : Nat) : Int) by omega]
      exact val_l7 hi h64 hlen hv d k (j + 1) (by omega) (by omega)
    · rw [if_neg (by omega)]
theorem rds_l6 {s : PM} {R : T_api_JoinRun} (hRr : R.Reads = s.reads) (hRd : R.Done = s.done) (hi : Inv q (nF q) s) (hv : Rv q (nF q) s) (hK : 100 < K) : ∀ (d k i : Nat), i + d = s.reads.length → d < k → plunderlaw8_FramesSync_l6 K q R k (i : Int) = some (.inl ())
  | d, k, i, h, hk => by
    obtain ⟨k, rfl⟩ : ∃ m, k = m + 1 := ⟨k - 1, by omega⟩
    have h64 := hi.rl
    have hrl := hv.rd.rl
    have hrq := hv.rd.rq
    rw [plunderlaw8_FramesSync_l6]
    by_cases hlt : i < s.reads.length
    · obtain ⟨d, rfl⟩ : ∃ m, d = m + 1 := ⟨d - 1, by omega⟩
      have hf := hv.rd.full i hlt
      have h8 := hi.q8 i (by omega)
      have hl3 : ∀ b1 b2, plunderlaw8_FramesSync_l7 K R (i : Int) b1 b2 K 0 = some (.inl (b1, b1, b2)) := fun b1 b2 => val_l7 (K := K) (R := R) (by rw [hRr]; exact hlt) (by rw [hRr]; exact h64) (by rw [hRr]; omega) (fun k hk => by rw [hRr] at hk ⊢; exact hv.rd.val i k hlt hk) (at_ R.Reads i).length K 0 (by omega) (by rw [hRr]; omega)
      have hrest := rds_l6 hRr hRd hi hv hK d k (i + 1) (by omega) (by omega)
      rw [hRr, if_pos (by omega), wi1 (by omega) (by omega), show ((i : Int) + 1) = ((i + 1 : Nat) : Int) by omega, hRd]
      have fin : ∀ b : Bool, (b = true → ((at_ s.reads i).length : Int) = at_ q i) →
          jn3 (jn1 (if inr_ (i : Int) s.reads.length then if inr_ (i : Int) q.length then (if (((at_ s.reads (i : Int).toNat).length : Nat) : Int) > (at_ q (i : Int).toNat) then some (.inr (.inr (.inr false))) else (if b = true then (if (((at_ s.reads (i : Int).toNat).length : Nat) : Int) = (at_ q (i : Int).toNat) then some (Sum.inl ((((at_ s.reads (i : Int).toNat).length : Nat) : Int) != (at_ q (i : Int).toNat))) else some (.inr (.inr (.inr false)))) else some (.inl false))) else none else none) (fun g54 => plunderlaw8_FramesSync_l7 K R (i : Int) b g54 K 0)) (fun g45 g46 g47 => plunderlaw8_FramesSync_l6 K q R k ((i + 1 : Nat) : Int)) = some (.inl ()) := by
        intro b hb
        rw [if_pos ⟨by omega, by omega⟩, if_pos ⟨by omega, by omega⟩, Int.toNat_natCast, if_neg (show ¬ ((at_ s.reads i).length : Int) > at_ q i by omega)]
        cases b with
        | true => rw [if_pos rfl, if_pos (hb rfl), jn1_inl, hl3, jn3_inl]; exact hrest
        | false => rw [if_neg (by decide), jn1_inl, hl3, jn3_inl]; exact hrest
      cases hd : s.done with
      | true =>
        rw [if_pos rfl, ob1_some]
        exact fin true (fun _ => hf.2 (by have := hv.dn hd; omega))
      | false =>
        rw [if_neg (by decide), ob1_some]
        exact fin (decide (((i + 1 : Nat) : Int) < (s.reads.length : Int))) (fun hb => hf.2 (by have := of_decide_eq_true hb; omega))
    · rw [hRr, if_neg (by omega)]
theorem mks_l8 {s : PM} {R : T_api_JoinRun} (hRm : R.Marks = s.marks) (hRd : R.Done = s.done) (hi : Inv q (nF q) s) (hv : Rv q (nF q) s) : ∀ (d k i : Nat), i + d = nF q → d < k → plunderlaw8_FramesSync_l8 K R ((nF q : Nat) : Int) k (i : Int) = some true
  | d, k, i, h, hk => by
    obtain ⟨k, rfl⟩ : ∃ m, k = m + 1 := ⟨k - 1, by omega⟩
    rw [plunderlaw8_FramesSync_l8]
    have hml := hi.ml
    have hF := hi.f.2
    by_cases hlt : i < nF q
    · obtain ⟨d, rfl⟩ : ∃ m, d = m + 1 := ⟨d - 1, by omega⟩
      have hrest := mks_l8 hRm hRd hi hv d k (i + 1) (by omega) (by omega)
      have hb := (hi.mb i hlt).1
      rw [if_pos (by omega), hRm, if_pos ⟨by omega, by omega⟩, Int.toNat_natCast, wi1 (by omega) (by omega), show ((i : Int) + 1) = ((i + 1 : Nat) : Int) by omega, if_neg (by omega), hRd]
      cases hd : s.done with
      | true =>
        have := (hv.dn hd).2.2 i hlt
        rw [if_neg (by omega), if_pos rfl, if_pos this]; exact hrest
      | false =>
        have h1 := (hv.op hd).2 i hlt
        have h2 : 0 ≤ wsum (wm i) s.live := wsum_nn (fun b => (wm01 i b).1) s.live
        have h3 : at_ s.marks i ≤ 1 := by split at h1 <;> omega
        rw [if_neg (by omega), if_neg (by decide)]; exact hrest
    · rw [if_neg (by omega)]
theorem sync_at_l5 (picks : List Int) (N : Int) (hN : (picks.length : Int) = N ∨ (picks.length = 1048576 ∧ 1048576 < N)) (hq : ∀ i, i < q.length → 0 ≤ at_ q i ∧ at_ q i ≤ 8) (hl : q.length ≤ 64) (hn : picks.length ≤ 1048576) (hK : picks.length + 5000 < K) :
    ob2 (frames_Play K q picks) (fun r7 r8 => jn0 ((if r8 = 0 then (if ((r7.Reads.length : Nat) : Int) = ((r7.Holders.length : Nat) : Int) then (if ((r7.Reads.length : Nat) : Int) > ((q.length : Nat) : Int) then some (.inr false) else some (.inl ())) else some (.inr false)) else some (.inr false))) (jn0 (ob1 (plunderlaw8_length K q) (fun r25 => (if N ≥ r25 then (if r7.Done = true then some (.inl ()) else some (.inr false)) else some (.inl ())))) (ob1 ((plunderlaw8_FramesSync_l5 K q K 1 0)) (fun g29 => jn0 ((if ((r7.Marks.length : Nat) : Int) = g29 then (if r7.Done = true then (if ((r7.Holders.length : Nat) : Int) = ((q.length : Nat) : Int) then some (.inl ()) else some (.inr false)) else some (.inl ())) else some (.inr false))) (jn0 ((plunderlaw8_FramesSync_l6 K q r7 K 0)) ((plunderlaw8_FramesSync_l8 K r7 g29 K 0))))))) = some true := by
  obtain ⟨s, s1, s2, s3, s4, s5⟩ := run_ok (K := K) (q := q) picks N hN hq hl hn hK
  have hsum := sum_l5 (K := K) hq hl q.length K 0 (by omega) (by omega)
  rw [show (1 : Int) + pre q 0 = 1 by rfl, show ((0 : Nat) : Int) = 0 by rfl, ← s2.fr] at hsum
  have hhr := s2.hr
  have hrq := s3.rd.rq
  have hml := s2.ml
  have hF := s2.f.2
  have h64 := s2.rl
  have e2 := rds_l6 (K := K) (s := s) (R := ⟨s.done, (s.log.length : Int), s.holders, s.reads, s.marks, s.log⟩) rfl rfl s2 s3 (by omega) s.reads.length K 0 (by omega) (by omega)
  have e4 := mks_l8 (K := K) (s := s) (R := ⟨s.done, (s.log.length : Int), s.holders, s.reads, s.marks, s.log⟩) rfl rfl s2 s3 (nF q) K 0 (by omega) (by omega)
  rw [show ((0 : Nat) : Int) = 0 by rfl] at e2 e4
  rw [s1, ob2_some, if_pos rfl, if_pos (show (s.reads.length : Int) = (s.holders.length : Int) by omega), if_neg (show ¬ (s.reads.length : Int) > (q.length : Int) by omega), jn0_inl, len_ok hq hl (by omega), ob1_some, hsum, ob1_some, if_pos (show (s.marks.length : Int) = ((nF q : Nat) : Int) by omega), e2, jn0_inl, e4]
  have c1 : (if N ≥ 2 + fut q 0 then (if s.done = true then (some (.inl ()) : Option (Unit ⊕ Bool)) else some (.inr false)) else some (.inl ())) = some (.inl ()) := by
    by_cases hc : N ≥ 2 + fut q 0
    · rw [if_pos hc, if_pos (by rw [s4]; exact decide_eq_true hc)]
    · rw [if_neg hc]
  have c2 : (if s.done = true then (if (s.holders.length : Int) = (q.length : Int) then (some (.inl ()) : Option (Unit ⊕ Bool)) else some (.inr false)) else some (.inl ())) = some (.inl ()) := by
    by_cases hc : s.done = true
    · rw [if_pos hc, if_pos (by have := (s3.dn hc).2.1; omega)]
    · rw [if_neg hc]
  rw [c1, jn0_inl, c2, jn0_inl]
end
theorem fsync_true {K : Nat} (a b : List Int) (ha : a.length ≤ 9223372036854775807) (hK : a.length + b.length + 2000000 < K) : plunderlaw8_FramesSync K a b = some true := by
  obtain ⟨q, t1, t2, t3⟩ := tidy_ok (K := K) ha (by omega)
  unfold plunderlaw8_FramesSync
  rw [t1, ob1_some]
  by_cases h : ((b.length : Nat) : Int) > 1048576
  · rw [if_pos h, if_pos ⟨by omega, by omega⟩]
    exact sync_at_l1 _ _ (.inr ⟨by rw [List.length_take]; omega, h⟩) t3 t2 (by rw [List.length_take]; omega) (by rw [List.length_take]; omega)
  · rw [if_neg h]
    exact sync_at_l5 _ _ (.inl rfl) t3 t2 (by omega) (by omega)
end Go.Proofs.Ytnghahgfcaolbaa.Mo
