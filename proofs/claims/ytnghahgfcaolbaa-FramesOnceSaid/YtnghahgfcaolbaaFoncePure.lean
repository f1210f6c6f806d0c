/- Each round is held once: FramesOnce answers true. -/
import Derived.Test.YtnghahgfcaolbaaFpOnce
namespace Go.Proofs.Ytnghahgfcaolbaa.Mo
open Go Go.Proofs.Ytnghahgfcaolbaa.SL Go.Proofs.Ytnghahgfcaolbaa.GX
set_option linter.unusedVariables false
set_option linter.unusedSimpArgs false
section
variable {q : List Int} {K : Nat}
theorem len_l1 (hq : ∀ i, i < q.length → 0 ≤ at_ q i ∧ at_ q i ≤ 8) (hl : q.length ≤ 64) : ∀ (d k i : Nat) (g : Int), i + d = q.length → d < k → 0 ≤ g → g + fut q i ≤ 10000 → plunderlaw8_length_l1 K q k g (i : Int) = some (g + fut q i)
  | d, k, i, g, h, hk, hg, hb => by
    obtain ⟨k, rfl⟩ : ∃ n, k = n + 1 := ⟨k - 1, by omega⟩
    rw [plunderlaw8_length_l1]
    by_cases hi : i < q.length
    · obtain ⟨d, rfl⟩ : ∃ n, d = n + 1 := ⟨d - 1, by omega⟩
      have h8 := hq i hi
      have hf := fut_next hi
      have hn := fut_nn hq (i + 1)
      rw [if_pos (by omega), if_pos ⟨by omega, by omega⟩, Int.toNat_natCast, wi_in (x := (6 : Int) * at_ q i) (by omega), wi_in (x := g + 6 * at_ q i) (by omega), wi_in (x := g + 6 * at_ q i + 2) (by omega), wi1 (by omega) (by omega), show ((i : Int) + 1) = ((i + 1 : Nat) : Int) by omega]
      rw [len_l1 hq hl d k (i + 1) _ (by omega) (by omega) (by omega) (by omega)]
      congr 1; omega
    · rw [if_neg (by omega), fut_end (by omega)]; congr 1; omega
theorem len_ok (hq : ∀ i, i < q.length → 0 ≤ at_ q i ∧ at_ q i ≤ 8) (hl : q.length ≤ 64) (hK : 100 < K) : plunderlaw8_length K q = some (2 + fut q 0) := by
  have hf : fut q 0 ≤ 50 * (q.length : Int) := by unfold fut; exact futl_le fun x hx => by obtain ⟨i, hi', rfl⟩ := at_mem (l := q) hx; exact (hq i hi').2
  unfold plunderlaw8_length
  have := len_l1 (K := K) hq hl q.length K 0 2 (by omega) (by omega) (by decide) (by omega)
  rw [show ((0 : Nat) : Int) = 0 by rfl] at this
  exact this
theorem at_mid {l rest : List T_api_Access} (e : T_api_Access) : at_ (l ++ e :: rest) l.length = e := by
  unfold at_; rw [List.getD_eq_getElem?_getD, List.getElem?_append_right (Nat.le_refl _)]; simp
theorem at_mid2 {h t : List Int} (e : Int) : at_ (h ++ e :: t) h.length = e := by
  unfold at_; rw [List.getD_eq_getElem?_getD, List.getElem?_append_right (Nat.le_refl _)]; simp
theorem once_l1 {r : T_api_JoinRun} (hl : r.Log.length ≤ 1000000) (hh : r.Holders.length ≤ 1000) {l : List T_api_Access} {h : List Int} {o : Int} (hon : On l h o) :
    ∀ (rest : List T_api_Access) (t : List Int) (k : Nat), r.Log = l ++ rest → r.Holders = h ++ t → plunderlaw8_FramesOnce_l1 K r (k + l.length) 0 (-1) 0 = plunderlaw8_FramesOnce_l1 K r k (h.length : Int) o (l.length : Int) := by
  induction hon with
  | nil => intro rest t k _ _; rfl
  | @other l h o e hon h1 h2 ih =>
    intro rest t k e1 e2
    have e1' : r.Log = l ++ (e :: rest) := by rw [e1, List.append_assoc]; rfl
    have hlen : r.Log.length = l.length + (rest.length + 1) := by rw [e1', List.length_append]; rfl
    rw [List.length_append, List.length_singleton, show k + (l.length + 1) = (k + 1) + l.length by omega, ih (e :: rest) t (k + 1) e1' e2, plunderlaw8_FramesOnce_l1]
    rw [if_pos (by omega), if_pos ⟨by omega, by omega⟩, Int.toNat_natCast, (show at_ r.Log l.length = e by rw [e1', at_mid]), if_neg h1, if_neg h2, wi1 (by omega) (by omega), show ((l.length : Int) + 1) = ((l.length + 1 : Nat) : Int) by omega]
  | @add l h o e hon h1 h2 h3 h4 ih =>
    intro rest t k e1 e2
    have e1' : r.Log = l ++ (e :: rest) := by rw [e1, List.append_assoc]; rfl
    have hlen : r.Log.length = l.length + (rest.length + 1) := by rw [e1', List.length_append]; rfl
    rw [List.length_append, List.length_singleton, show k + (l.length + 1) = (k + 1) + l.length by omega, ih (e :: rest) t (k + 1) e1' e2, plunderlaw8_FramesOnce_l1]
    rw [if_pos (by omega), if_pos ⟨by omega, by omega⟩, Int.toNat_natCast, (show at_ r.Log l.length = e by rw [e1', at_mid]), if_pos h1, if_neg (by omega), if_pos h2, if_neg (by omega), if_neg (by omega), if_neg (by omega), wi1 (by omega) (by omega), show ((l.length : Int) + 1) = ((l.length + 1 : Nat) : Int) by omega]
  | @zero l h o e hon h1 h2 h3 h4 ih =>
    intro rest t k e1 e2
    have e1' : r.Log = l ++ (e :: rest) := by rw [e1, List.append_assoc]; rfl
    have hlen : r.Log.length = l.length + (rest.length + 1) := by rw [e1', List.length_append]; rfl
    rw [List.length_append, List.length_singleton, show k + (l.length + 1) = (k + 1) + l.length by omega, ih (e :: rest) t (k + 1) e1' e2, plunderlaw8_FramesOnce_l1]
    rw [if_pos (by omega), if_pos ⟨by omega, by omega⟩, Int.toNat_natCast, (show at_ r.Log l.length = e by rw [e1', at_mid]), if_pos h1, if_neg (by omega), if_pos h2, if_neg (by omega), if_neg (by omega), if_pos h3, wi1 (by omega) (by omega), show ((l.length : Int) + 1) = ((l.length + 1 : Nat) : Int) by omega]
  | @store l h o e hon h1 h2 h3 h4 ih =>
    intro rest t k e1 e2
    have e1' : r.Log = l ++ (e :: rest) := by rw [e1, List.append_assoc]; rfl
    have e2' : r.Holders = h ++ (o :: t) := by rw [e2, List.append_assoc]; rfl
    have hlen : r.Log.length = l.length + (rest.length + 1) := by rw [e1', List.length_append]; rfl
    have hlen2 : r.Holders.length = h.length + (t.length + 1) := by rw [e2', List.length_append]; rfl
    rw [List.length_append, List.length_singleton, show k + (l.length + 1) = (k + 1) + l.length by omega, ih (e :: rest) (o :: t) (k + 1) e1' e2', plunderlaw8_FramesOnce_l1]
    rw [if_pos (by omega), if_pos ⟨by omega, by omega⟩, Int.toNat_natCast, (show at_ r.Log l.length = e by rw [e1', at_mid]), if_pos h1, if_pos h2, if_pos h3, if_pos h4, if_neg (by omega), if_pos ⟨by omega, by omega⟩, Int.toNat_natCast, (show at_ r.Holders h.length = o by rw [e2', at_mid2]), if_pos h3.symm, wi1 (by omega) (by omega), wi1 (by omega) (by omega), show ((l.length : Int) + 1) = ((l.length + 1 : Nat) : Int) by omega, List.length_append, List.length_singleton, show ((h.length : Int) + 1) = ((h.length + 1 : Nat) : Int) by omega]
theorem once_l1_true {r : T_api_JoinRun} (hl : r.Log.length ≤ 1000000) (hh : r.Holders.length ≤ 1000) {o : Int} (hon : On r.Log r.Holders o) (hK : r.Log.length < K) : plunderlaw8_FramesOnce_l1 K r K 0 (-1) 0 = some true := by
  obtain ⟨k, hk⟩ : ∃ k, K = (k + 1) + r.Log.length := ⟨K - r.Log.length - 1, by omega⟩
  have h1 := once_l1 (K := K) hl hh hon [] [] (k + 1) (by simp) (by simp)
  rw [← hk, plunderlaw8_FramesOnce_l1] at h1
  rw [h1, if_neg (by omega)]
  simp
theorem once_at_l1 (picks : List Int) (N : Int) (hN : (picks.length : Int) = N ∨ (picks.length = 1048576 ∧ 1048576 < N)) (hq : ∀ i, i < q.length → 0 ≤ at_ q i ∧ at_ q i ≤ 8) (hl : q.length ≤ 64) (hn : picks.length ≤ 1048576) (hK : picks.length + 5000 < K) :
    ob2 (frames_Play K q picks) (fun r7 r8 => jn0 ((if r8 = 0 then (if ((r7.Log.length : Nat) : Int) = r7.Steps then ob1 (plunderlaw8_length K q) (fun r22 => (if N ≥ r22 then (if r7.Done = true then some (.inl ()) else some (.inr false)) else some (.inl ()))) else some (.inr false)) else some (.inr false))) ((plunderlaw8_FramesOnce_l1 K r7 K 0 (-1) 0))) = some true := by
  have hf : fut q 0 ≤ 50 * (q.length : Int) := by unfold fut; exact futl_le fun x hx => by obtain ⟨i, hi', rfl⟩ := at_mem (l := q) hx; exact (hq i hi').2
  obtain ⟨_, s, P, h1, h2, h3, h4, h5, h6, h7⟩ := play_ok (K := K) (R := Ro) hq hl hn hK ⟨On.nil, fun x hx => by rw [List.mem_singleton.1 hx]; decide⟩ (fun s p P hi hm hd hp _ h => step_on hi hm hd hp h)
  rw [h1, ob2_some]
  simp only [reduceIte, len_ok hq hl (K := K) (by omega), ob1_some]
  have hfin := once_l1_true (K := K) (r := ⟨s.done, (s.log.length : Int), s.holders, s.reads, s.marks, s.log⟩) h2.ll (by have := h2.hr; have := h2.rl; show s.holders.length ≤ 1000; omega) h7.on (by show s.log.length < K; omega)
  cases hd : s.done with
  | true =>
    rw [hd] at hfin
    split
    · rw [if_pos rfl, jn0_inl]; exact hfin
    · rw [jn0_inl]; exact hfin
  | false =>
    rw [hd] at hfin
    have := (left_pos h2 h3 hd).1
    have h8 : s.log.length = picks.length := by rcases h6 with h | h; · rw [hd] at h; cases h
                                                · exact h
    rw [if_neg (by omega), jn0_inl]; exact hfin
theorem once_l2 {r : T_api_JoinRun} (hl : r.Log.length ≤ 1000000) (hh : r.Holders.length ≤ 1000) {l : List T_api_Access} {h : List Int} {o : Int} (hon : On l h o) :
    ∀ (rest : List T_api_Access) (t : List Int) (k : Nat), r.Log = l ++ rest → r.Holders = h ++ t → plunderlaw8_FramesOnce_l2 K r (k + l.length) 0 (-1) 0 = plunderlaw8_FramesOnce_l2 K r k (h.length : Int) o (l.length : Int) := by
  induction hon with
  | nil => intro rest t k _ _; rfl
  | @other l h o e hon h1 h2 ih =>
    intro rest t k e1 e2
    have e1' : r.Log = l ++ (e :: rest) := by rw [e1, List.append_assoc]; rfl
    have hlen : r.Log.length = l.length + (rest.length + 1) := by rw [e1', List.length_append]; rfl
    rw [List.length_append, List.length_singleton, show k + (l.length + 1) = (k + 1) + l.length by omega, ih (e :: rest) t (k + 1) e1' e2, plunderlaw8_FramesOnce_l2]
    rw [if_pos (by omega), if_pos ⟨by omega, by omega⟩, Int.toNat_natCast, (show at_ r.Log l.length = e by rw [e1', at_mid]), if_neg h1, if_neg h2, wi1 (by omega) (by omega), show ((l.length : Int) + 1) = ((l.length + 1 : Nat) : Int) by omega]
  | @add l h o e hon h1 h2 h3 h4 ih =>
    intro rest t k e1 e2
    have e1' : r.Log = l ++ (e :: rest) := by rw [e1, List.append_assoc]; rfl
    have hlen : r.Log.length = l.length + (rest.length + 1) := by rw [e1', List.length_append]; rfl
    rw [List.length_append, List.length_singleton, show k + (l.length + 1) = (k + 1) + l.length by omega, ih (e :: rest) t (k + 1) e1' e2, plunderlaw8_FramesOnce_l2]
    rw [if_pos (by omega), if_pos ⟨by omega, by omega⟩, Int.toNat_natCast, (show at_ r.Log l.length = e by rw [e1', at_mid]), if_pos h1, if_neg (by omega), if_pos h2, if_neg (by omega), if_neg (by omega), if_neg (by omega), wi1 (by omega) (by omega), show ((l.length : Int) + 1) = ((l.length + 1 : Nat) : Int) by omega]
  | @zero l h o e hon h1 h2 h3 h4 ih =>
    intro rest t k e1 e2
    have e1' : r.Log = l ++ (e :: rest) := by rw [e1, List.append_assoc]; rfl
    have hlen : r.Log.length = l.length + (rest.length + 1) := by rw [e1', List.length_append]; rfl
    rw [List.length_append, List.length_singleton, show k + (l.length + 1) = (k + 1) + l.length by omega, ih (e :: rest) t (k + 1) e1' e2, plunderlaw8_FramesOnce_l2]
    rw [if_pos (by omega), if_pos ⟨by omega, by omega⟩, Int.toNat_natCast, (show at_ r.Log l.length = e by rw [e1', at_mid]), if_pos h1, if_neg (by omega), if_pos h2, if_neg (by omega), if_neg (by omega), if_pos h3, wi1 (by omega) (by omega), show ((l.length : Int) + 1) = ((l.length + 1 : Nat) : Int) by omega]
  | @store l h o e hon h1 h2 h3 h4 ih =>
    intro rest t k e1 e2
    have e1' : r.Log = l ++ (e :: rest) := by rw [e1, List.append_assoc]; rfl
    have e2' : r.Holders = h ++ (o :: t) := by rw [e2, List.append_assoc]; rfl
    have hlen : r.Log.length = l.length + (rest.length + 1) := by rw [e1', List.length_append]; rfl
    have hlen2 : r.Holders.length = h.length + (t.length + 1) := by rw [e2', List.length_append]; rfl
    rw [List.length_append, List.length_singleton, show k + (l.length + 1) = (k + 1) + l.length by omega, ih (e :: rest) (o :: t) (k + 1) e1' e2', plunderlaw8_FramesOnce_l2]
    rw [if_pos (by omega), if_pos ⟨by omega, by omega⟩, Int.toNat_natCast, (show at_ r.Log l.length = e by rw [e1', at_mid]), if_pos h1, if_pos h2, if_pos h3, if_pos h4, if_neg (by omega), if_pos ⟨by omega, by omega⟩, Int.toNat_natCast, (show at_ r.Holders h.length = o by rw [e2', at_mid2]), if_pos h3.symm, wi1 (by omega) (by omega), wi1 (by omega) (by omega), show ((l.length : Int) + 1) = ((l.length + 1 : Nat) : Int) by omega, List.length_append, List.length_singleton, show ((h.length : Int) + 1) = ((h.length + 1 : Nat) : Int) by omega]
theorem once_l2_true {r : T_api_JoinRun} (hl : r.Log.length ≤ 1000000) (hh : r.Holders.length ≤ 1000) {o : Int} (hon : On r.Log r.Holders o) (hK : r.Log.length < K) : plunderlaw8_FramesOnce_l2 K r K 0 (-1) 0 = some true := by
  obtain ⟨k, hk⟩ : ∃ k, K = (k + 1) + r.Log.length := ⟨K - r.Log.length - 1, by omega⟩
  have h1 := once_l2 (K := K) hl hh hon [] [] (k + 1) (by simp) (by simp)
  rw [← hk, plunderlaw8_FramesOnce_l2] at h1
  rw [h1, if_neg (by omega)]
  simp
theorem once_at_l2 (picks : List Int) (N : Int) (hN : (picks.length : Int) = N ∨ (picks.length = 1048576 ∧ 1048576 < N)) (hq : ∀ i, i < q.length → 0 ≤ at_ q i ∧ at_ q i ≤ 8) (hl : q.length ≤ 64) (hn : picks.length ≤ 1048576) (hK : picks.length + 5000 < K) :
    ob2 (frames_Play K q picks) (fun r7 r8 => jn0 ((if r8 = 0 then (if ((r7.Log.length : Nat) : Int) = r7.Steps then ob1 (plunderlaw8_length K q) (fun r22 => (if N ≥ r22 then (if r7.Done = true then some (.inl ()) else some (.inr false)) else some (.inl ()))) else some (.inr false)) else some (.inr false))) ((plunderlaw8_FramesOnce_l2 K r7 K 0 (-1) 0))) = some true := by
  have hf : fut q 0 ≤ 50 * (q.length : Int) := by unfold fut; exact futl_le fun x hx => by obtain ⟨i, hi', rfl⟩ := at_mem (l := q) hx; exact (hq i hi').2
  obtain ⟨_, s, P, h1, h2, h3, h4, h5, h6, h7⟩ := play_ok (K := K) (R := Ro) hq hl hn hK ⟨On.nil, fun x hx => by rw [List.mem_singleton.1 hx]; decide⟩ (fun s p P hi hm hd hp _ h => step_on hi hm hd hp h)
  rw [h1, ob2_some]
  simp only [reduceIte, len_ok hq hl (K := K) (by omega), ob1_some]
  have hfin := once_l2_true (K := K) (r := ⟨s.done, (s.log.length : Int), s.holders, s.reads, s.marks, s.log⟩) h2.ll (by have := h2.hr; have := h2.rl; show s.holders.length ≤ 1000; omega) h7.on (by show s.log.length < K; omega)
  cases hd : s.done with
  | true =>
    rw [hd] at hfin
    split
    · rw [if_pos rfl, jn0_inl]; exact hfin
    · rw [jn0_inl]; exact hfin
  | false =>
    rw [hd] at hfin
    have := (left_pos h2 h3 hd).1
    have h8 : s.log.length = picks.length := by rcases h6 with h | h; · rw [hd] at h; cases h
                                                · exact h
    rw [if_neg (by omega), jn0_inl]; exact hfin
end
theorem fonce_true {K : Nat} (a b : List Int) (ha : a.length ≤ 9223372036854775807) (hK : a.length + b.length + 2000000 < K) : plunderlaw8_FramesOnce K a b = some true := by
  obtain ⟨q, t1, t2, t3⟩ := tidy_ok (K := K) ha (by omega)
  unfold plunderlaw8_FramesOnce
  rw [t1, ob1_some]
  by_cases h : ((b.length : Nat) : Int) > 1048576
  · rw [if_pos h, if_pos ⟨by omega, by omega⟩]
    exact once_at_l1 _ _ (.inr ⟨by rw [List.length_take]; omega, h⟩) t3 t2 (by rw [List.length_take]; omega) (by rw [List.length_take]; omega)
  · rw [if_neg h]
    exact once_at_l2 _ _ (.inl rfl) t3 t2 (by omega) (by omega)
end Go.Proofs.Ytnghahgfcaolbaa.Mo
