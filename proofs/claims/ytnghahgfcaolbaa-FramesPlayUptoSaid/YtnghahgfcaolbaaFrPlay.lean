/- The program's play and the document's answer the same. No memory is spoken of. -/
import Derived.Test.YtnghahgfcaolbaaFrStep
namespace Go.Proofs.Ytnghahgfcaolbaa.Mo
open Go Go.Proofs.Ytnghahgfcaolbaa.SL Go.Proofs.Ytnghahgfcaolbaa.GX
set_option linter.unusedVariables false
set_option linter.unusedSimpArgs false
section
variable {q picks : List Int} {F K : Nat}
theorem refmod_ok (x : Int) {m : Nat} (hm : 0 < m) (hm2 : m ≤ 1048576) : plunderref8_mod x (m : Int) = some ((pk x m : Nat) : Int) := by
  unfold plunderref8_mod
  rw [if_pos (by omega), (pk_ok x hm).1, ← mod_go x (m : Int) (by omega)]
  have h1 := Int.tmod_lt_of_pos x (show (0 : Int) < m by omega)
  have h2 : -(m : Int) < x.tmod m := by
    have := Int.tmod_lt_of_pos (-x) (show (0 : Int) < m by omega)
    rw [Int.neg_tmod] at this
    omega
  by_cases h : x.tmod m < 0
  · rw [if_pos h, if_pos h, wi_in (by omega)]
  · rw [if_neg h, if_neg h]
theorem RS.steps {S : T_plunderref8_Scene} {s : PM} (h : RS S s) (v : Int) : RS { S with Run_Steps := v } s :=
  have g := h.g
  ⟨⟨g.round, g.join, g.slots, g.marks, g.taken, g.made, g.done, g.holders, g.reads, g.log⟩, ⟨h.z.fk, h.z.ft⟩, h.live, h.act⟩
theorem rplay_l2 {X : T_api_JoinRun} (hn : picks.length ≤ 1048576) (hK : 2000000 < K) :
    ∀ (d k i : Nat) (S : T_plunderref8_Scene) (s : PM) (P : Int), i + d = picks.length → d < k → RS S s → Inv q F s → Mode q F s P → S.Run_Steps = (s.log.length : Int) → P + s.log.length ≤ 10000 →
      ∃ S', plunderref8_Play_l2 K q picks k X S (i : Int) = some (X, S') ∧ RS S' (go q picks d i s) ∧ S'.Run_Steps = ((go q picks d i s).log.length : Int)
  | d, k, i, S, s, P, h, hk, hS, hi, hm, hst, hP => by
    obtain ⟨k, rfl⟩ : ∃ m, k = m + 1 := ⟨k - 1, by omega⟩
    rw [plunderref8_Play_l2]
    by_cases hlt : i < picks.length
    · obtain ⟨d, rfl⟩ : ∃ m, d = m + 1 := ⟨d - 1, by omega⟩
      rw [if_pos (by omega), hS.g.done]
      cases hd : s.done with
      | true =>
        rw [if_pos rfl, go, if_pos hd]
        exact ⟨S, rfl, hS, hst⟩
      | false =>
        rw [if_neg (by decide)]
        obtain ⟨l1, l2⟩ := left_pos hi hm hd
        have hlv := hi.lv
        have hll : s.log.length < 1000000 := by omega
        have hmade := hi.made
        have hma : S.Actors.length ≤ 1000001 := by rw [hS.g.made]; omega
        have hal : (alv 0 S.Actors).length = s.live.length := by rw [hS.live hd, List.length_map]
        rw [count_ok (by omega) (by omega), ob1_some, if_pos ⟨by omega, by omega⟩, Int.toNat_natCast, hal, refmod_ok _ (by omega) (by omega), ob1_some]
        have hp : pk (at_ picks i) s.live.length < s.live.length := (pk_ok _ (by omega)).2
        rw [go, if_neg (by rw [hd]; decide)]
        generalize pk (at_ picks i) s.live.length = p at *
        rw [live_ok (S := S) (K := K) (x := (at_ s.live p).1) (by omega) (by omega) q (by omega) (by rw [hS.live hd, map_at hp]), ob1_some]
        obtain ⟨S1, g1, g2, g3⟩ := rstep hS hi hm hd hp
        obtain ⟨e1, e2, e3⟩ := step_mode hi hm hd hp hll
        rw [g1, ob1_some]
        have hw : wi (S1.Run_Steps + 1) = ((s.step q p).log.length : Int) := by rw [g3, hst, wi_in (by omega), e3]; omega
        rw [hw, wi1 (by omega) (by omega), show ((i : Int) + 1) = ((i + 1 : Nat) : Int) by omega]
        exact rplay_l2 hn hK d k (i + 1) _ (s.step q p) (P - 1) (by omega) (by omega) (g2.steps _) e1 e2 rfl (by omega)
    · rw [if_neg (by omega)]
      obtain rfl : d = 0 := by omega
      exact ⟨S, rfl, hS, hst⟩
theorem rplay_l1 (hq : ∀ i, i < q.length → 0 ≤ at_ q i ∧ at_ q i ≤ 8) (hl : q.length ≤ 64) : ∀ (d k i : Nat), i + d = q.length → d < k → plunderref8_Play_l1 K q k (1 + pre q i) (i : Int) = some (1 + isum q)
  | d, k, i, h, hk => by
    obtain ⟨k, rfl⟩ : ∃ m, k = m + 1 := ⟨k - 1, by omega⟩
    rw [plunderref8_Play_l1]
    by_cases hi : i < q.length
    · obtain ⟨d, rfl⟩ : ∃ m, d = m + 1 := ⟨d - 1, by omega⟩
      have hb := hq i hi
      have hp := pre_le hq i
      have hs : isum q ≤ 8 * (q.length : Int) := isum_le fun x hx => by obtain ⟨j, hj, rfl⟩ := at_mem hx; exact (hq j hj).2
      rw [if_pos (by omega), if_pos ⟨by omega, by omega⟩, Int.toNat_natCast, wi_in (by omega), wi1 (by omega) (by omega), show ((i : Int) + 1) = ((i + 1 : Nat) : Int) by omega]
      have := rplay_l1 hq hl d k (i + 1) (by omega) (by omega)
      rw [pre_next hi] at this
      rw [← this]; congr 1; omega
    · rw [if_neg (by omega)]
      have : pre q i = isum q := by unfold pre; rw [List.take_of_length_le (by omega)]
      rw [this]
theorem ref_l1 : ∀ (d k i : Nat), q.length ≤ 64 → i + d = q.length → d < k →
    ((∀ j, i ≤ j → j < q.length → 0 ≤ at_ q j ∧ at_ q j ≤ 8) ∧ plunderref8_Refuses_l1 K q k (i : Int) = some 0) ∨
    (plunderref8_Refuses_l1 K q k (i : Int) = some 80 ∧ ∀ g, frames_Play_l1 K q k g (i : Int) = some (.inr ((⟨false, 0, [], [], [], []⟩ : T_api_JoinRun), 80)))
  | d, k, i, hl, h, hk => by
    obtain ⟨k, rfl⟩ : ∃ m, k = m + 1 := ⟨k - 1, by omega⟩
    simp only [plunderref8_Refuses_l1, frames_Play_l1]
    by_cases hi : i < q.length
    · obtain ⟨d, rfl⟩ : ∃ m, d = m + 1 := ⟨d - 1, by omega⟩
      simp only [if_pos (show (i : Int) < ((q.length : Nat) : Int) by omega), if_pos (show inr_ (i : Int) q.length from ⟨by omega, by omega⟩), Int.toNat_natCast, show wi ((i : Int) + 1) = ((i + 1 : Nat) : Int) from by rw [wi1 (by omega) (by omega)]; omega]
      by_cases h0 : at_ q i < 0
      · exact .inr ⟨by rw [if_pos h0], fun g => by rw [if_pos h0]⟩
      · by_cases h1 : at_ q i > 8
        · exact .inr ⟨by rw [if_neg h0, if_pos h1], fun g => by rw [if_neg h0, if_pos h1]⟩
        · simp only [if_neg h0, if_neg h1]
          rcases ref_l1 d k (i + 1) hl (by omega) (by omega) with ⟨e1, e2⟩ | ⟨e1, e2⟩
          · refine .inl ⟨fun j hj hj2 => ?_, e2⟩
            by_cases e : j = i
            · subst e; omega
            · exact e1 j (by omega) hj2
          · exact .inr ⟨e1, fun g => e2 _⟩
    · rw [if_neg (by omega)]
      exact .inl ⟨fun j hj hj2 => by omega, rfl⟩
/-! ### what is read grows by one a step -/
def Bq (s : PM) : Prop := ∀ i, i < s.reads.length → (at_ s.reads i).length ≤ s.log.length
theorem enter_rl (s : PM) (p : Nat) : (s.enter q p).reads = s.reads ∧ (s.enter q p).log = s.log := by unfold PM.enter PM.setb; split <;> exact ⟨rfl, rfl⟩
theorem rdg_rl (s : PM) (p : Nat) : (s.rdg q p).reads = s.reads ∧ (s.rdg q p).log = s.log := by
  unfold PM.rdg PM.setb
  split
  · exact enter_rl _ p
  · exact ⟨rfl, rfl⟩
theorem hold_rl (s : PM) (p : Nat) : (s.hold q p).reads = s.reads ++ [[]] ∧ (s.hold q p).log = s.log := by unfold PM.hold; exact rdg_rl _ p
theorem Bq.same {s s' : PM} (h : Bq s) (hr : s'.reads = s.reads) (hl : s.log.length ≤ s'.log.length) : Bq s' := fun i hi => by rw [hr] at hi ⊢; exact Nat.le_trans (h i hi) hl
theorem Bq.app {s s' : PM} (h : Bq s) (hr : s'.reads = s.reads ++ [[]]) (hl : s.log.length ≤ s'.log.length) : Bq s' := fun i hi => by
  rw [hr] at hi ⊢
  rw [List.length_append] at hi
  by_cases e : i < s.reads.length
  · rw [at_app_ne _ e]; exact Nat.le_trans (h i e) hl
  · obtain rfl : i = s.reads.length := by simp at hi; omega
    rw [at_app]; exact Nat.zero_le _
theorem note_ll (s : PM) (a b c d e : Int) : s.log.length ≤ (s.note a b c d e).log.length := by unfold PM.note; rw [List.length_append]; omega
theorem step_bq {s : PM} {p : Nat} (h : Bq s) : Bq (s.step q p) := by
  unfold PM.step
  have hn : ∀ (s1 : PM) (a b c d e : Int), s1.log = s.log → s.log.length ≤ (s1.note a b c d e).log.length := fun s1 a b c d e h1 => by have := note_ll s1 a b c d e; rwa [h1] at this
  cases (at_ s.live p).2 with
  | alloc0 => exact h.same rfl (hn _ _ _ _ _ _ rfl)
  | mark0 => exact h.same (enter_rl _ p).1 (by rw [(enter_rl _ p).2]; exact hn _ _ _ _ _ _ rfl)
  | alloc => exact h.same rfl (hn _ _ _ _ _ _ rfl)
  | fork fr => exact h.same rfl (by show s.log.length ≤ (s.log ++ [_]).length; rw [List.length_append]; omega)
  | sync => dsimp only; split <;> exact h.same rfl (hn _ _ _ _ _ _ rfl)
  | leave k v => dsimp only; split <;> exact h.same rfl (hn _ _ _ _ _ _ rfl)
  | back => exact h.app (hold_rl _ p).1 (by rw [(hold_rl _ p).2]; exact hn _ _ _ _ _ _ rfl)
  | last k v => exact h.app (hold_rl _ p).1 (by rw [(hold_rl _ p).2]; exact hn _ _ _ _ _ _ rfl)
  | start fr k v => exact h.same rfl (hn _ _ _ _ _ _ rfl)
  | store k v => exact h.same rfl (hn _ _ _ _ _ _ rfl)
  | read =>
    intro i hi
    dsimp only at hi ⊢
    rw [(rdg_rl _ p).1] at hi ⊢
    rw [(rdg_rl _ p).2]
    have hi2 : i < (s.reads.set (s.reads.length - 1) (at_ s.reads (s.reads.length - 1) ++ [at_ s.slots s.pos])).length := hi
    rw [List.length_set] at hi2
    show (at_ (s.reads.set (s.reads.length - 1) (at_ s.reads (s.reads.length - 1) ++ [at_ s.slots s.pos])) i).length ≤ (s.log ++ [_]).length
    rw [List.length_append]
    by_cases e : i = s.reads.length - 1
    · subst e
      rw [at_set_same hi2, List.length_append]
      have := h _ hi2
      simp; omega
    · rw [at_set_ne (by omega)]
      have := h i hi2
      omega
theorem go_bq : ∀ (d i : Nat) (s : PM), Bq s → Bq (go q picks d i s)
  | 0, i, s, h => h
  | d + 1, i, s, h => by
    rw [go]
    split
    · exact h
    · exact go_bq d (i + 1) _ (step_bq h)
/-- What a play hands out is small. -/
structure Sml (r : T_api_JoinRun) : Prop where
  h : r.Holders.length ≤ 1000000
  rr : r.Reads.length ≤ 1000000
  e : ∀ i, i < r.Reads.length → (at_ r.Reads i).length ≤ 1000000
  m : r.Marks.length ≤ 1000000
  l : r.Log.length ≤ 1000000
theorem play_same (q picks : List Int) (hK : q.length + picks.length + 3000000 < K) : ∃ r e, frames_Play K q picks = some (r, e) ∧ plunderref8_Play K q picks = some (r, e) ∧ Sml r := by
  have hz : Sml ⟨false, 0, [], [], [], []⟩ := ⟨by simp, by simp, fun i hi => by simp at hi, by simp, by simp⟩
  by_cases h64 : (q.length : Int) > 64
  · refine ⟨⟨false, 0, [], [], [], []⟩, 2, ?_, ?_, hz⟩
    · unfold frames_Play; rw [if_pos h64]; rfl
    · unfold plunderref8_Play plunderref8_Refuses; rw [if_pos h64]; rfl
  · by_cases hp : (picks.length : Int) > 1048576
    · refine ⟨⟨false, 0, [], [], [], []⟩, 2, ?_, ?_, hz⟩
      · unfold frames_Play; rw [if_neg h64, if_pos hp]; rfl
      · unfold plunderref8_Play plunderref8_Refuses; rw [if_neg h64, if_pos hp]; rfl
    · rcases ref_l1 (q := q) (K := K) q.length K 0 (by omega) (by omega) (by omega) with ⟨e1, e2⟩ | ⟨e1, e2⟩
      · have hq : ∀ i, i < q.length → 0 ≤ at_ q i ∧ at_ q i ≤ 8 := fun i hi => e1 i (by omega) hi
        obtain ⟨_, s, P, f1, f2, f3, f4, f5, f6, f7⟩ := play_ok (K := K) (picks := picks) hq (by omega) (by omega) (by omega)
        refine ⟨_, _, f1, ?_, ?_⟩
        · unfold plunderref8_Play plunderref8_Refuses
          rw [if_neg h64, if_neg hp, jn0_inl]
          rw [show ((0 : Nat) : Int) = 0 from rfl] at e2
          rw [e2, ob1_some, if_pos rfl]
          have h1 := rplay_l1 (K := K) hq (by omega) q.length K 0 (by omega) (by omega)
          rw [show (1 : Int) + pre q 0 = 1 from rfl, show ((0 : Nat) : Int) = 0 from rfl] at h1
          have hm : ∀ x ∈ q, 0 ≤ x ∧ x ≤ 8 := fun x hx => by obtain ⟨i, hi', rfl⟩ := at_mem hx; exact hq i hi'
          have s1 := isum_nn (l := q) (fun x hx => (hm x hx).1)
          have s2 := isum_le (l := q) (fun x hx => (hm x hx).2)
          have hf : fut q 0 ≤ 50 * (q.length : Int) := by unfold fut; exact futl_le fun x hx => (hm x hx).2
          rw [h1, ob1_some, if_pos ⟨by omega, by omega⟩]
          have hN : (1 + isum q).toNat = nF q := rfl
          have hF : ((nF q : Nat) : Int) = 1 + isum q := by unfold nF; omega
          rw [hN]
          have hS : RS ⟨0, 0, 0, 1, 0, 0, 0, 0, 0, 0, 0, 0, List.replicate (nF q) (0 : Int), 0, [⟨0, 0, 0, 0⟩], false, 0, [], [], [], []⟩ (ini (nF q)) :=
            ⟨⟨rfl, rfl, rfl, rfl, rfl, rfl, rfl, rfl, rfl, rfl⟩, ⟨fun _ _ => rfl, fun _ _ => rfl⟩, fun _ => rfl, fun _ i hi => by
              have : i = 0 := by have : i < 1 := hi; omega
              subst this; exact rfl⟩
          have hi : Inv q (nF q) (ini (nF q)) := ⟨hq, by omega, hF, by show 0 ≤ _; omega, by simp [ini], fun f hf => by show 0 ≤ at_ (List.replicate (nF q) (0 : Int)) f ∧ at_ (List.replicate (nF q) (0 : Int)) f ≤ _; rw [at_rep0]; simp [ini], by simp [ini], by show ((0 : Nat) : Int) ≤ (nF q : Int); omega, rfl, by show 0 ≤ 64; omega, by show 1 ≤ 10; omega, by show 0 ≤ _; omega⟩
          have hmo : Mode q (nF q) (ini (nF q)) (2 + fut q 0) := Mode.ini0 0 rfl rfl rfl rfl rfl rfl
          obtain ⟨S', g1, g2, g3⟩ := rplay_l2 (K := K) (q := q) (picks := picks) (F := nF q) (X := ⟨false, 0, [], [], [], []⟩) (by omega) (by omega) picks.length K 0 _ _ _ (by omega) (by omega) hS hi hmo rfl (by show 2 + fut q 0 + ((0 : Nat) : Int) ≤ 10000; omega)
          rw [show ((0 : Nat) : Int) = 0 from rfl] at g1
          rw [g1, ob2_some]
          rw [← f7] at g2 g3
          rw [g2.g.done, g3, g2.g.holders, g2.g.reads, g2.g.marks, g2.g.log]
        · have hb : Bq s := by rw [f7]; exact go_bq _ _ _ (fun i hi => by simp [ini] at hi)
          have hl := f2.ll
          have hrl := f2.rl
          have hhr := f2.hr
          have := f2.ml
          have := f2.f
          exact ⟨by show s.holders.length ≤ _; omega, by show s.reads.length ≤ _; omega, fun i hi => Nat.le_trans (hb i hi) hl, by show s.marks.length ≤ _; omega, hl⟩
      · refine ⟨⟨false, 0, [], [], [], []⟩, 80, ?_, ?_, hz⟩
        · unfold frames_Play; rw [if_neg h64, if_neg hp]
          have := e2 1
          rw [show ((0 : Nat) : Int) = 0 from rfl] at this
          simp only [jn0_inl]
          rw [this]; rfl
        · unfold plunderref8_Play plunderref8_Refuses; rw [if_neg h64, if_neg hp, jn0_inl]
          rw [show ((0 : Nat) : Int) = 0 from rfl] at e1
          rw [e1]; rfl
end
end Go.Proofs.Ytnghahgfcaolbaa.Mo
