/- FramesPlay answers true. No memory is spoken of. -/
import Derived.Test.YtnghahgfcaolbaaFrPlay
namespace Go.Proofs.Ytnghahgfcaolbaa.Mo
open Go Go.Proofs.Ytnghahgfcaolbaa.SL Go.Proofs.Ytnghahgfcaolbaa.GX
set_option linter.unusedVariables false
set_option linter.unusedSimpArgs false
section
variable {K : Nat}
theorem wiS {i : Nat} (h : i < 4611686018427387904) : wi ((i : Int) + 1) = ((i + 1 : Nat) : Int) := by rw [wi1 (by omega) (by omega)]; omega
/-! ### the same twice -/
theorem si_l1 {p : List Int} (hb : p.length ≤ 2000000) : ∀ (d k i : Nat), i + d = p.length → d < k → plunderlaw8_sameInts_l1 K p p k (i : Int) = some true
  | d, k, i, h, hk => by
    obtain ⟨k, rfl⟩ : ∃ n, k = n + 1 := ⟨k - 1, by omega⟩
    rw [plunderlaw8_sameInts_l1]
    by_cases hi : i < p.length
    · obtain ⟨d, rfl⟩ : ∃ n, d = n + 1 := ⟨d - 1, by omega⟩
      rw [if_pos (by omega), if_pos ⟨by omega, by omega⟩, if_pos ⟨by omega, by omega⟩, if_pos rfl, wiS (by omega)]
      exact si_l1 hb d k (i + 1) (by omega) (by omega)
    · rw [if_neg (by omega)]
theorem si_ok {p : List Int} (hb : p.length ≤ 2000000) (hK : p.length < K) : plunderlaw8_sameInts K p p = some true := by
  unfold plunderlaw8_sameInts; rw [if_pos rfl]; exact si_l1 hb p.length K 0 (by omega) hK
theorem sn_l1 {p : List Int} (hb : p.length ≤ 2000000) : ∀ (d k i : Nat), i + d = p.length → d < k → plunderlaw8_sameNumbers_l1 K p p k (i : Int) = some true
  | d, k, i, h, hk => by
    obtain ⟨k, rfl⟩ : ∃ n, k = n + 1 := ⟨k - 1, by omega⟩
    rw [plunderlaw8_sameNumbers_l1]
    by_cases hi : i < p.length
    · obtain ⟨d, rfl⟩ : ∃ n, d = n + 1 := ⟨d - 1, by omega⟩
      rw [if_pos (by omega), if_pos ⟨by omega, by omega⟩, if_pos ⟨by omega, by omega⟩, if_pos rfl, wiS (by omega)]
      exact sn_l1 hb d k (i + 1) (by omega) (by omega)
    · rw [if_neg (by omega)]
theorem sn_ok {p : List Int} (hb : p.length ≤ 2000000) (hK : p.length < K) : plunderlaw8_sameNumbers K p p = some true := by
  unfold plunderlaw8_sameNumbers; rw [if_pos rfl]; exact sn_l1 hb p.length K 0 (by omega) hK
theorem sl_l1 {p : List T_api_Access} (hb : p.length ≤ 2000000) : ∀ (d k i : Nat), i + d = p.length → d < k → plunderlaw8_sameLog_l1 K p p k (i : Int) = some true
  | d, k, i, h, hk => by
    obtain ⟨k, rfl⟩ : ∃ n, k = n + 1 := ⟨k - 1, by omega⟩
    rw [plunderlaw8_sameLog_l1]
    by_cases hi : i < p.length
    · obtain ⟨d, rfl⟩ : ∃ n, d = n + 1 := ⟨d - 1, by omega⟩
      rw [if_pos (by omega), if_pos ⟨by omega, by omega⟩, if_pos ⟨by omega, by omega⟩, if_pos rfl, wiS (by omega)]
      exact sl_l1 hb d k (i + 1) (by omega) (by omega)
    · rw [if_neg (by omega)]
theorem sl_ok {p : List T_api_Access} (hb : p.length ≤ 2000000) (hK : p.length < K) : plunderlaw8_sameLog K p p = some true := by
  unfold plunderlaw8_sameLog; rw [if_pos rfl]; exact sl_l1 hb p.length K 0 (by omega) hK
theorem sr_l1 {p : List (List Int)} (hb : p.length ≤ 2000000) (he : ∀ i, i < p.length → (at_ p i).length ≤ 1000000) (hK : 2000000 < K) : ∀ (d k i : Nat), i + d = p.length → d < k → plunderlaw8_sameReads_l1 K p p k (i : Int) = some true
  | d, k, i, h, hk => by
    obtain ⟨k, rfl⟩ : ∃ n, k = n + 1 := ⟨k - 1, by omega⟩
    rw [plunderlaw8_sameReads_l1]
    by_cases hi : i < p.length
    · obtain ⟨d, rfl⟩ : ∃ n, d = n + 1 := ⟨d - 1, by omega⟩
      have := he i hi
      rw [if_pos (by omega), if_pos ⟨by omega, by omega⟩, if_pos ⟨by omega, by omega⟩, Int.toNat_natCast, sn_ok (by omega) (by omega), ob1_some, if_pos rfl, wiS (by omega)]
      exact sr_l1 hb he hK d k (i + 1) (by omega) (by omega)
    · rw [if_neg (by omega)]
theorem run_ok {r : T_api_JoinRun} (h : Sml r) (hK : 2000000 < K) : plunderlaw8_sameRun K r r = some true := by
  have h1 := h.h
  have h2 := h.rr
  have h3 := h.m
  have h4 := h.l
  unfold plunderlaw8_sameRun
  rw [if_pos rfl, if_pos rfl, si_ok (by omega) (by omega), ob1_some, if_pos rfl]
  have : plunderlaw8_sameReads K r.Reads r.Reads = some true := by
    unfold plunderlaw8_sameReads; rw [if_pos rfl]; exact sr_l1 (by omega) h.e hK r.Reads.length K 0 (by omega) (by omega)
  rw [this, ob1_some, if_pos rfl, sn_ok (by omega) (by omega), ob1_some, if_pos rfl, sl_ok (by omega) (by omega), ob1_some]
/-! ### lists with marks behind them -/
theorem sp_l1 {p : List Int} (hb : p.length ≤ 2000000) : ∀ (d k i : Nat) (l : List Int), i + d = p.length → d < k → l.length = p.length + 2 → l.take i = p.take i →
    ∃ l', plunderlaw8_spare_l1 K p k l (i : Int) = some l' ∧ l'.length = p.length + 2 ∧ l'.take p.length = p
  | d, k, i, l, h, hk, hl, he => by
    obtain ⟨k, rfl⟩ : ∃ n, k = n + 1 := ⟨k - 1, by omega⟩
    rw [plunderlaw8_spare_l1]
    by_cases hi : i < p.length
    · obtain ⟨d, rfl⟩ : ∃ n, d = n + 1 := ⟨d - 1, by omega⟩
      rw [if_pos (by omega), if_pos ⟨by omega, by omega⟩, if_pos ⟨by omega, by omega⟩, Int.toNat_natCast, wiS (by omega)]
      refine sp_l1 hb d k (i + 1) _ (by omega) (by omega) (by rw [List.length_set]; exact hl) ?_
      rw [at_ext_take hi, ← he]
      have : i < (l.set i (at_ p i)).length := by rw [List.length_set]; omega
      rw [at_ext_take this, at_set_same (by omega), List.take_set_of_le (Nat.le_refl i)]
    · obtain rfl : d = 0 := by omega
      rw [if_neg (by omega)]
      have e : i = p.length := by omega
      subst e
      exact ⟨l, rfl, hl, by rw [he, List.take_length]⟩
theorem take2 {l p : List Int} (hl : l.length = p.length + 2) (ht : l.take p.length = p) (x y : Int) : (l.set p.length x).set (p.length + 1) y = p ++ [x, y] := by
  apply List.ext_getElem?
  intro j
  by_cases h1 : j < p.length
  · rw [List.getElem?_set_ne (by omega), List.getElem?_set_ne (by omega), List.getElem?_append_left h1, ← ht, List.getElem?_take, if_pos h1]
  · rw [List.getElem?_append_right (by omega)]
    by_cases h2 : j = p.length
    · subst h2; rw [List.getElem?_set_ne (by omega), List.getElem?_set_self (by omega)]; simp
    · by_cases h3 : j = p.length + 1
      · subst h3; rw [List.getElem?_set_self (by rw [List.length_set]; omega)]; simp
      · rw [List.getElem?_eq_none (by rw [List.length_set, List.length_set]; omega), List.getElem?_eq_none (by simp; omega)]
theorem spare_ok {p : List Int} (hb : p.length ≤ 1048576) (hK : p.length < K) : plunderlaw8_spare K p = some (p ++ [-77, -78]) := by
  unfold plunderlaw8_spare
  rw [wi_in (x := ((p.length : Nat) : Int) + 2) (by omega), if_pos ⟨by omega, by omega⟩]
  obtain ⟨l, e1, e2, e3⟩ := sp_l1 (K := K) (p := p) (by omega) p.length K 0 (List.replicate (((p.length : Nat) : Int) + 2).toNat (0 : Int)) (by omega) hK (by rw [List.length_replicate]; omega) (by simp)
  rw [show ((0 : Nat) : Int) = 0 from rfl] at e1
  rw [e1, ob1_some, if_pos ⟨by omega, by omega⟩, Int.toNat_natCast, wiS (by omega), if_pos ⟨by omega, by rw [List.length_set]; omega⟩, Int.toNat_natCast, take2 e2 e3]
theorem at_app2 (p : List Int) (x y : Int) : at_ (p ++ [x, y]) p.length = x ∧ at_ (p ++ [x, y]) (p.length + 1) = y := by
  constructor
  · unfold at_; rw [List.getD_eq_getElem?_getD, List.getElem?_append_right (Nat.le_refl _)]; simp
  · unfold at_; rw [List.getD_eq_getElem?_getD, List.getElem?_append_right (by omega)]; simp
theorem unt_ok {p : List Int} (hb : p.length ≤ 1048576) (hK : p.length < K) : plunderlaw8_untouched K (p ++ [-77, -78]) p = some true := by
  unfold plunderlaw8_untouched
  have hl : (p ++ [-77, -78]).length = p.length + 2 := by simp
  rw [if_pos ⟨by omega, by omega⟩, Int.toNat_natCast, List.take_left, si_ok (by omega) hK, ob1_some, if_pos rfl, if_pos ⟨by omega, by omega⟩, (at_app2 p _ _).1, if_pos rfl, wiS (by omega), if_pos ⟨by omega, by omega⟩, Int.toNat_natCast, (at_app2 p _ _).2]; rfl
/-! ### spoil -/
theorem p1_l {n : Nat} (hb : n ≤ 1000000) {p : T_api_JoinRun} (hn : p.Holders.length = n) : ∀ (d k i : Nat) (l : List Int), i + d = n → d < k → l.length = n → (∀ j, j < i → at_ l j = -1) →
    ∃ l', plunderlaw8_spoil_l1 K p k l (i : Int) = some l' ∧ l'.length = n ∧ ∀ j, j < n → at_ l' j = -1
  | d, k, i, l, h, hk, hl, he => by
    obtain ⟨k, rfl⟩ : ∃ n, k = n + 1 := ⟨k - 1, by omega⟩
    rw [plunderlaw8_spoil_l1]
    by_cases hi : i < n
    · obtain ⟨d, rfl⟩ : ∃ n, d = n + 1 := ⟨d - 1, by omega⟩
      rw [if_pos (by omega), if_pos ⟨by omega, by omega⟩, Int.toNat_natCast, wiS (by omega)]
      refine p1_l hb hn d k (i + 1) _ (by omega) (by omega) (by rw [List.length_set]; exact hl) fun j hj => ?_
      by_cases e : j = i
      · subst e; rw [at_set_same (by omega)]
      · rw [at_set_ne (by omega)]; exact he j (by omega)
    · rw [if_neg (by omega)]; exact ⟨l, rfl, hl, fun j hj => he j (by omega)⟩
theorem p4_l {n : Nat} (hb : n ≤ 1000000) {p : T_api_JoinRun} (hn : p.Marks.length = n) : ∀ (d k i : Nat) (l : List Int), i + d = n → d < k → l.length = n → (∀ j, j < i → at_ l j = -2) →
    ∃ l', plunderlaw8_spoil_l4 K p k l (i : Int) = some l' ∧ l'.length = n ∧ ∀ j, j < n → at_ l' j = -2
  | d, k, i, l, h, hk, hl, he => by
    obtain ⟨k, rfl⟩ : ∃ n, k = n + 1 := ⟨k - 1, by omega⟩
    rw [plunderlaw8_spoil_l4]
    by_cases hi : i < n
    · obtain ⟨d, rfl⟩ : ∃ n, d = n + 1 := ⟨d - 1, by omega⟩
      rw [if_pos (by omega), if_pos ⟨by omega, by omega⟩, Int.toNat_natCast, wiS (by omega)]
      refine p4_l hb hn d k (i + 1) _ (by omega) (by omega) (by rw [List.length_set]; exact hl) fun j hj => ?_
      by_cases e : j = i
      · subst e; rw [at_set_same (by omega)]
      · rw [at_set_ne (by omega)]; exact he j (by omega)
    · rw [if_neg (by omega)]; exact ⟨l, rfl, hl, fun j hj => he j (by omega)⟩
theorem p5_l {n : Nat} (hb : n ≤ 1000000) {p : T_api_JoinRun} (hn : p.Log.length = n) : ∀ (d k i : Nat) (l : List T_api_Access), i + d = n → d < k → l.length = n → (∀ j, j < i → at_ l j = ⟨-3, 0, 0, 0, 0, false⟩) →
    ∃ l', plunderlaw8_spoil_l5 K p k l (i : Int) = some l' ∧ l'.length = n ∧ ∀ j, j < n → at_ l' j = ⟨-3, 0, 0, 0, 0, false⟩
  | d, k, i, l, h, hk, hl, he => by
    obtain ⟨k, rfl⟩ : ∃ n, k = n + 1 := ⟨k - 1, by omega⟩
    rw [plunderlaw8_spoil_l5]
    by_cases hi : i < n
    · obtain ⟨d, rfl⟩ : ∃ n, d = n + 1 := ⟨d - 1, by omega⟩
      rw [if_pos (by omega), if_pos ⟨by omega, by omega⟩, Int.toNat_natCast, wiS (by omega)]
      refine p5_l hb hn d k (i + 1) _ (by omega) (by omega) (by rw [List.length_set]; exact hl) fun j hj => ?_
      by_cases e : j = i
      · subst e; rw [at_set_same (by omega)]
      · rw [at_set_ne (by omega)]; exact he j (by omega)
    · rw [if_neg (by omega)]; exact ⟨l, rfl, hl, fun j hj => he j (by omega)⟩
theorem p3_l {n g : Nat} (hb : n ≤ 1000000) : ∀ (d k i : Nat) (l : List (List Int)), i + d = n → d < k → g < l.length → (at_ l g).length = n → (∀ j, j < i → at_ (at_ l g) j = wi ((-1000 : Int) - g)) →
    ∃ l', plunderlaw8_spoil_l3 K (g : Int) k l (i : Int) = some l' ∧ l'.length = l.length ∧ (at_ l' g).length = n ∧ (∀ j, j < n → at_ (at_ l' g) j = wi ((-1000 : Int) - g)) ∧ ∀ f, f ≠ g → at_ l' f = at_ l f
  | d, k, i, l, h, hk, hg, hl, he => by
    obtain ⟨k, rfl⟩ : ∃ n, k = n + 1 := ⟨k - 1, by omega⟩
    rw [plunderlaw8_spoil_l3, if_pos ⟨by omega, by omega⟩]
    simp only [Int.toNat_natCast]
    by_cases hi : i < n
    · obtain ⟨d, rfl⟩ : ∃ n, d = n + 1 := ⟨d - 1, by omega⟩
      rw [if_pos (by omega), if_pos ⟨by omega, by omega⟩, wiS (by omega)]
      obtain ⟨l', e1, e2, e3, e4, e5⟩ := p3_l hb d k (i + 1) (l.set g ((at_ l g).set i (wi ((-1000 : Int) - g)))) (by omega) (by omega) (by rw [List.length_set]; exact hg) (by rw [at_set_same hg, List.length_set]; exact hl) (fun j hj => by
        rw [at_set_same hg]
        by_cases e : j = i
        · subst e; rw [at_set_same (by omega)]
        · rw [at_set_ne (by omega)]; exact he j (by omega))
      exact ⟨l', e1, by rw [e2, List.length_set], e3, e4, fun f hf => by rw [e5 f hf, at_set_ne (by omega)]⟩
    · rw [if_neg (by omega)]; exact ⟨l, rfl, rfl, hl, fun j hj => he j (by omega), fun _ _ => rfl⟩
theorem p2_l {n : Nat} (hb : n ≤ 1000000) {p : T_api_JoinRun} (hn : p.Reads.length = n) (he : ∀ i, i < n → (at_ p.Reads i).length ≤ 1000000) (hK : 2000000 < K) : ∀ (d k i : Nat) (l : List (List Int)), i + d = n → d < k → l.length = n → (∀ f, f < n → (at_ l f).length = (at_ p.Reads f).length) → (∀ f, f < i → ∀ j, j < (at_ l f).length → at_ (at_ l f) j = wi ((-1000 : Int) - f)) →
    ∃ l', plunderlaw8_spoil_l2 K p k l (i : Int) = some l' ∧ l'.length = n ∧ (∀ f, f < n → (at_ l' f).length = (at_ p.Reads f).length) ∧ ∀ f, f < n → ∀ j, j < (at_ l' f).length → at_ (at_ l' f) j = wi ((-1000 : Int) - f)
  | d, k, i, l, h, hk, hl, hs, hm => by
    obtain ⟨k, rfl⟩ : ∃ n, k = n + 1 := ⟨k - 1, by omega⟩
    rw [plunderlaw8_spoil_l2]
    by_cases hi : i < n
    · obtain ⟨d, rfl⟩ : ∃ n, d = n + 1 := ⟨d - 1, by omega⟩
      have hei := he i hi
      have hsi := hs i hi
      obtain ⟨l1, e1, e2, e3, e4, e5⟩ := p3_l (K := K) (n := (at_ l i).length) (g := i) (by omega) (at_ l i).length K 0 l (by omega) (by omega) (by omega) rfl (fun j hj => by omega)
      rw [show ((0 : Nat) : Int) = 0 from rfl] at e1
      rw [if_pos (by omega), e1, ob1_some, wiS (by omega)]
      refine p2_l hb hn he hK d k (i + 1) l1 (by omega) (by omega) (by omega) (fun f hf => ?_) (fun f hf j hj => ?_)
      · by_cases e : f = i
        · subst e; rw [e3]; exact hsi
        · rw [e5 f e]; exact hs f hf
      · by_cases e : f = i
        · subst e; exact e4 j (by omega)
        · rw [e5 f e] at hj ⊢; exact hm f (by omega) j hj
    · rw [if_neg (by omega)]; exact ⟨l, rfl, hl, hs, fun f hf => hm f (by omega)⟩
theorem p6_l : ∀ (d k i : Nat) (a : List T_api_Access) (b c : List Int), i + d = 64 → d < k → a.length ≤ 1000000 + i → b.length ≤ 1000000 + i → c.length ≤ 1000000 + i → ∃ x, plunderlaw8_spoil_l6 K k a b c (i : Int) = some x
  | d, k, i, a, b, c, h, hk, ha, hb, hc => by
    obtain ⟨k, rfl⟩ : ∃ n, k = n + 1 := ⟨k - 1, by omega⟩
    rw [plunderlaw8_spoil_l6]
    by_cases hi : i < 64
    · obtain ⟨d, rfl⟩ : ∃ n, d = n + 1 := ⟨d - 1, by omega⟩
      rw [if_pos (by omega), if_pos (by omega), if_pos (by omega), if_pos (by omega), wiS (by omega)]
      exact p6_l d k (i + 1) _ _ _ (by omega) (by omega) (by rw [List.length_append]; simp; omega) (by rw [List.length_append]; simp; omega) (by rw [List.length_append]; simp; omega)
    · rw [if_neg (by omega)]; exact ⟨_, rfl⟩
theorem p8_l {g : Int} : ∀ (d k i : Nat) (a : List Int), i + d = 64 → d < k → a.length ≤ 1000000 + i → plunderlaw8_spoil_l8 K g k a (i : Int) = some ()
  | d, k, i, a, h, hk, ha => by
    obtain ⟨k, rfl⟩ : ∃ n, k = n + 1 := ⟨k - 1, by omega⟩
    rw [plunderlaw8_spoil_l8]
    by_cases hi : i < 64
    · obtain ⟨d, rfl⟩ : ∃ n, d = n + 1 := ⟨d - 1, by omega⟩
      rw [if_pos (by omega), if_pos (by omega), wiS (by omega)]
      exact p8_l d k (i + 1) _ (by omega) (by omega) (by rw [List.length_append]; simp; omega)
    · rw [if_neg (by omega)]
theorem p7_l {p : T_api_JoinRun} {a c : List Int} {b : List (List Int)} {e : List T_api_Access} (hn : p.Reads.length = b.length) (hb : b.length ≤ 1000000) (he : ∀ i, i < b.length → (at_ b i).length ≤ 1000000) (hK : 2000000 < K) : ∀ (d k i : Nat), i + d = b.length → d < k → plunderlaw8_spoil_l7 K p a b c e k (i : Int) = some ⟨p.Done, p.Steps, a, b, c, e⟩
  | d, k, i, h, hk => by
    obtain ⟨k, rfl⟩ : ∃ n, k = n + 1 := ⟨k - 1, by omega⟩
    rw [plunderlaw8_spoil_l7]
    by_cases hi : i < b.length
    · obtain ⟨d, rfl⟩ : ∃ n, d = n + 1 := ⟨d - 1, by omega⟩
      have := p8_l (K := K) (g := (i : Int)) 64 K 0 (at_ b i) (by omega) (by omega) (by have := he i hi; omega)
      rw [show ((0 : Nat) : Int) = 0 from rfl] at this
      rw [if_pos (by omega), if_pos ⟨by omega, by omega⟩, Int.toNat_natCast, this, ob0_some, wiS (by omega)]
      exact p7_l hn hb he hK d k (i + 1) (by omega) (by omega)
    · rw [if_neg (by omega)]
/-- What is spoilt. -/
structure Spt (r S : T_api_JoinRun) : Prop where
  h : S.Holders.length = r.Holders.length
  hv : ∀ j, j < S.Holders.length → at_ S.Holders j = -1
  rr : S.Reads.length = r.Reads.length
  rl : ∀ f, f < S.Reads.length → (at_ S.Reads f).length ≤ 1000000
  rv : ∀ f, f < S.Reads.length → ∀ j, j < (at_ S.Reads f).length → at_ (at_ S.Reads f) j = wi ((-1000 : Int) - f)
  m : S.Marks.length = r.Marks.length
  mv : ∀ j, j < S.Marks.length → at_ S.Marks j = -2
  l : S.Log.length = r.Log.length
  lv : ∀ j, j < S.Log.length → at_ S.Log j = ⟨-3, 0, 0, 0, 0, false⟩
theorem spoil_ok {r : T_api_JoinRun} (h : Sml r) (hK : 2000000 < K) : ∃ S, plunderlaw8_spoil K r = some S ∧ Spt r S := by
  have h1 := h.h
  have h2 := h.rr
  have h3 := h.m
  have h4 := h.l
  unfold plunderlaw8_spoil
  obtain ⟨a, a1, a2, a3⟩ := p1_l (K := K) (p := r) h1 rfl r.Holders.length K 0 r.Holders (by omega) (by omega) rfl (fun j hj => by omega)
  obtain ⟨b, b1, b2, b3, b4⟩ := p2_l (K := K) (p := r) h2 rfl h.e hK r.Reads.length K 0 r.Reads (by omega) (by omega) rfl (fun _ _ => rfl) (fun j hj => by omega)
  obtain ⟨c, c1, c2, c3⟩ := p4_l (K := K) (p := r) h3 rfl r.Marks.length K 0 r.Marks (by omega) (by omega) rfl (fun j hj => by omega)
  obtain ⟨e, e1, e2, e3⟩ := p5_l (K := K) (p := r) h4 rfl r.Log.length K 0 r.Log (by omega) (by omega) rfl (fun j hj => by omega)
  rw [show ((0 : Nat) : Int) = 0 from rfl] at a1 b1 c1 e1
  obtain ⟨⟨x, y, z⟩, g1⟩ := p6_l (K := K) 64 K 0 e c a (by omega) (by omega) (by omega) (by omega) (by omega)
  rw [show ((0 : Nat) : Int) = 0 from rfl] at g1
  have hbl : ∀ i, i < b.length → (at_ b i).length ≤ 1000000 := fun i hi => by rw [b3 i (by omega)]; exact h.e i (by omega)
  have g2 := p7_l (K := K) (p := r) (a := a) (b := b) (c := c) (e := e) b2.symm (by omega) hbl hK b.length K 0 (by omega) (by omega)
  rw [show ((0 : Nat) : Int) = 0 from rfl] at g2
  rw [a1, ob1_some, b1, ob1_some, c1, ob1_some, e1, ob1_some, g1, ob3_some, g2]
  exact ⟨_, rfl, ⟨a2, fun j hj => a3 j (by have : j < a.length := hj; omega), b2, hbl, fun f hf => b4 f (by have : f < b.length := hf; omega), c2, fun j hj => c3 j (by have : j < c.length := hj; omega), e2, fun j hj => e3 j (by have : j < e.length := hj; omega)⟩⟩
/-! ### spoilt -/
section
variable {S : T_api_JoinRun}
theorem q1_l (hb : S.Holders.length ≤ 1000000) (hv : ∀ j, j < S.Holders.length → at_ S.Holders j = -1) : ∀ (d k i : Nat), i + d = S.Holders.length → d < k → plunderlaw8_spoilt_l1 K S k (i : Int) = some (.inl ())
  | d, k, i, h, hk => by
    obtain ⟨k, rfl⟩ : ∃ n, k = n + 1 := ⟨k - 1, by omega⟩
    rw [plunderlaw8_spoilt_l1]
    by_cases hi : i < S.Holders.length
    · obtain ⟨d, rfl⟩ : ∃ n, d = n + 1 := ⟨d - 1, by omega⟩
      rw [if_pos (by omega), if_pos ⟨by omega, by omega⟩, Int.toNat_natCast, if_pos (hv i hi), wiS (by omega)]
      exact q1_l hb hv d k (i + 1) (by omega) (by omega)
    · rw [if_neg (by omega)]
theorem q4_l (hb : S.Marks.length ≤ 1000000) (hv : ∀ j, j < S.Marks.length → at_ S.Marks j = -2) : ∀ (d k i : Nat), i + d = S.Marks.length → d < k → plunderlaw8_spoilt_l4 K S k (i : Int) = some (.inl ())
  | d, k, i, h, hk => by
    obtain ⟨k, rfl⟩ : ∃ n, k = n + 1 := ⟨k - 1, by omega⟩
    rw [plunderlaw8_spoilt_l4]
    by_cases hi : i < S.Marks.length
    · obtain ⟨d, rfl⟩ : ∃ n, d = n + 1 := ⟨d - 1, by omega⟩
      rw [if_pos (by omega), if_pos ⟨by omega, by omega⟩, Int.toNat_natCast, if_pos (hv i hi), wiS (by omega)]
      exact q4_l hb hv d k (i + 1) (by omega) (by omega)
    · rw [if_neg (by omega)]
theorem q5_l (hb : S.Log.length ≤ 1000000) (hv : ∀ j, j < S.Log.length → at_ S.Log j = ⟨-3, 0, 0, 0, 0, false⟩) : ∀ (d k i : Nat), i + d = S.Log.length → d < k → plunderlaw8_spoilt_l5 K S k (i : Int) = some true
  | d, k, i, h, hk => by
    obtain ⟨k, rfl⟩ : ∃ n, k = n + 1 := ⟨k - 1, by omega⟩
    rw [plunderlaw8_spoilt_l5]
    by_cases hi : i < S.Log.length
    · obtain ⟨d, rfl⟩ : ∃ n, d = n + 1 := ⟨d - 1, by omega⟩
      rw [if_pos (by omega), if_pos ⟨by omega, by omega⟩, Int.toNat_natCast, if_pos (hv i hi), wiS (by omega)]
      exact q5_l hb hv d k (i + 1) (by omega) (by omega)
    · rw [if_neg (by omega)]
theorem q3_l {g : Nat} (hg : g < S.Reads.length) (hb : (at_ S.Reads g).length ≤ 1000000) (hv : ∀ j, j < (at_ S.Reads g).length → at_ (at_ S.Reads g) j = wi ((-1000 : Int) - g)) : ∀ (d k i : Nat), i + d = (at_ S.Reads g).length → d < k → plunderlaw8_spoilt_l3 K S (g : Int) k (i : Int) = some (.inl ())
  | d, k, i, h, hk => by
    obtain ⟨k, rfl⟩ : ∃ n, k = n + 1 := ⟨k - 1, by omega⟩
    rw [plunderlaw8_spoilt_l3, if_pos ⟨by omega, by omega⟩]
    simp only [Int.toNat_natCast]
    by_cases hi : i < (at_ S.Reads g).length
    · obtain ⟨d, rfl⟩ : ∃ n, d = n + 1 := ⟨d - 1, by omega⟩
      rw [if_pos (by omega), if_pos ⟨by omega, by omega⟩, if_pos (hv i hi), wiS (by omega)]
      exact q3_l hg hb hv d k (i + 1) (by omega) (by omega)
    · rw [if_neg (by omega)]
theorem q2_l (hb : S.Reads.length ≤ 1000000) (hl : ∀ f, f < S.Reads.length → (at_ S.Reads f).length ≤ 1000000) (hv : ∀ f, f < S.Reads.length → ∀ j, j < (at_ S.Reads f).length → at_ (at_ S.Reads f) j = wi ((-1000 : Int) - f)) (hK : 2000000 < K) : ∀ (d k i : Nat), i + d = S.Reads.length → d < k → plunderlaw8_spoilt_l2 K S k (i : Int) = some (.inl ())
  | d, k, i, h, hk => by
    obtain ⟨k, rfl⟩ : ∃ n, k = n + 1 := ⟨k - 1, by omega⟩
    rw [plunderlaw8_spoilt_l2]
    by_cases hi : i < S.Reads.length
    · obtain ⟨d, rfl⟩ : ∃ n, d = n + 1 := ⟨d - 1, by omega⟩
      have := q3_l (K := K) hi (hl i hi) (hv i hi) (at_ S.Reads i).length K 0 (by omega) (by have := hl i hi; omega)
      rw [show ((0 : Nat) : Int) = 0 from rfl] at this
      rw [if_pos (by omega), this, jn0_inl, wiS (by omega)]
      exact q2_l hb hl hv hK d k (i + 1) (by omega) (by omega)
    · rw [if_neg (by omega)]
end
theorem spoilt_ok {r S : T_api_JoinRun} (h : Sml r) (hs : Spt r S) (hK : 2000000 < K) (x : Bool) (y : Int) : plunderlaw8_spoilt K { S with Done := x, Steps := y } = some true := by
  have h1 := h.h
  have h2 := h.rr
  have h3 := h.m
  have h4 := h.l
  have s1 := hs.h
  have s2 := hs.rr
  have s3 := hs.m
  have s4 := hs.l
  unfold plunderlaw8_spoilt
  have e1 := q1_l (K := K) (S := { S with Done := x, Steps := y }) (by show S.Holders.length ≤ _; omega) hs.hv S.Holders.length K 0 (by show 0 + S.Holders.length = S.Holders.length; omega) (by omega)
  have e2 := q2_l (K := K) (S := { S with Done := x, Steps := y }) (by show S.Reads.length ≤ _; omega) hs.rl hs.rv hK S.Reads.length K 0 (by show 0 + S.Reads.length = S.Reads.length; omega) (by omega)
  have e3 := q4_l (K := K) (S := { S with Done := x, Steps := y }) (by show S.Marks.length ≤ _; omega) hs.mv S.Marks.length K 0 (by show 0 + S.Marks.length = S.Marks.length; omega) (by omega)
  have e4 := q5_l (K := K) (S := { S with Done := x, Steps := y }) (by show S.Log.length ≤ _; omega) hs.lv S.Log.length K 0 (by show 0 + S.Log.length = S.Log.length; omega) (by omega)
  rw [show ((0 : Nat) : Int) = 0 from rfl] at e1 e2 e3 e4
  rw [e1, jn0_inl, e2, jn0_inl, e3, jn0_inl, e4]
/-! ### the same memory, other numbers -/
theorem tu_l1 {p : List Int} (hb : p.length ≤ 1048576) : ∀ (d k : Nat) (l : List Int), d < k → d ≤ p.length → l.length + d = p.length → ∃ l', plunderlaw8_turned_l1 K p k l ((d : Int) - 1) = some l' ∧ l'.length = p.length
  | 0, k, l, hk, hd, hl => by
    obtain ⟨k, rfl⟩ : ∃ n, k = n + 1 := ⟨k - 1, by omega⟩
    rw [plunderlaw8_turned_l1, if_neg (by omega)]; exact ⟨l, rfl, by omega⟩
  | d + 1, k, l, hk, hd, hl => by
    obtain ⟨k, rfl⟩ : ∃ n, k = n + 1 := ⟨k - 1, by omega⟩
    have e : wi (((d + 1 : Nat) : Int) - 1 - 1) = (d : Int) - 1 := by rw [wi_in (by omega)]; omega
    have hn : ∀ x : Int, (l ++ [x]).length = l.length + 1 := fun x => by simp
    rw [plunderlaw8_turned_l1, if_pos (by omega), if_pos ⟨by omega, by omega⟩, e]
    repeat' split
    all_goals first
      | exact tu_l1 hb d k _ (by omega) (by omega) (by rw [hn]; omega)
      | (rename_i h; exact absurd h (by have : (l.length + 1) * 8 ≤ 140737488355328 := by omega
                                        simpa using this))
theorem turned_ok {p : List Int} (hb : p.length ≤ 1048576) (hK : p.length < K) : ∃ l, plunderlaw8_turned K p = some l ∧ l.length = p.length := by
  unfold plunderlaw8_turned
  rw [wi_in (by omega)]
  exact tu_l1 hb p.length K [] hK (Nat.le_refl _) (by simp)
theorem pp1_l {p : List Int} (hb : p.length ≤ 2000000) : ∀ (d k i : Nat) (l : List Int), i + d = p.length → d < k → l.length = p.length + 2 → l.take i = p.take i →
    ∃ l', plunderlaw8_playPlaced_l1 K p k l (i : Int) = some l' ∧ l'.length = p.length + 2 ∧ l'.take p.length = p
  | d, k, i, l, h, hk, hl, he => by
    obtain ⟨k, rfl⟩ : ∃ n, k = n + 1 := ⟨k - 1, by omega⟩
    rw [plunderlaw8_playPlaced_l1]
    by_cases hi : i < p.length
    · obtain ⟨d, rfl⟩ : ∃ n, d = n + 1 := ⟨d - 1, by omega⟩
      rw [if_pos (by omega), if_pos ⟨by omega, by omega⟩, if_pos ⟨by omega, by omega⟩, Int.toNat_natCast, wiS (by omega)]
      refine pp1_l hb d k (i + 1) _ (by omega) (by omega) (by rw [List.length_set]; exact hl) ?_
      rw [at_ext_take hi, ← he]
      have : i < (l.set i (at_ p i)).length := by rw [List.length_set]; omega
      rw [at_ext_take this, at_set_same (by omega), List.take_set_of_le (Nat.le_refl i)]
    · obtain rfl : d = 0 := by omega
      rw [if_neg (by omega)]
      have e : i = p.length := by omega
      subst e
      exact ⟨l, rfl, hl, by rw [he, List.take_length]⟩
theorem pp2_l {p : List Int} (hb : p.length ≤ 2000000) : ∀ (d k i : Nat) (l : List Int), i + d = p.length → d < k → l.length = p.length + 2 → l.take i = p.take i →
    ∃ l', plunderlaw8_playPlaced_l2 K p k l (i : Int) = some l' ∧ l'.length = p.length + 2 ∧ l'.take p.length = p
  | d, k, i, l, h, hk, hl, he => by
    obtain ⟨k, rfl⟩ : ∃ n, k = n + 1 := ⟨k - 1, by omega⟩
    rw [plunderlaw8_playPlaced_l2]
    by_cases hi : i < p.length
    · obtain ⟨d, rfl⟩ : ∃ n, d = n + 1 := ⟨d - 1, by omega⟩
      rw [if_pos (by omega), if_pos ⟨by omega, by omega⟩, if_pos ⟨by omega, by omega⟩, Int.toNat_natCast, wiS (by omega)]
      refine pp2_l hb d k (i + 1) _ (by omega) (by omega) (by rw [List.length_set]; exact hl) ?_
      rw [at_ext_take hi, ← he]
      have : i < (l.set i (at_ p i)).length := by rw [List.length_set]; omega
      rw [at_ext_take this, at_set_same (by omega), List.take_set_of_le (Nat.le_refl i)]
    · obtain rfl : d = 0 := by omega
      rw [if_neg (by omega)]
      have e : i = p.length := by omega
      subst e
      exact ⟨l, rfl, hl, by rw [he, List.take_length]⟩
theorem placed_ok (a b : List Int) (ha : a.length ≤ 1048576) (hb : b.length ≤ 1048576) (hK : 6000000 < K) : plunderlaw8_playPlaced K a b = some true := by
  unfold plunderlaw8_playPlaced
  obtain ⟨c, c1, c2⟩ := turned_ok (K := K) ha (by omega)
  obtain ⟨d, d1, d2⟩ := turned_ok (K := K) hb (by omega)
  rw [c1, ob1_some, d1, ob1_some, spare_ok (by omega) (by omega), ob1_some, spare_ok (by omega) (by omega), ob1_some]
  have lc : (c ++ [-77, -78]).length = a.length + 2 := by simp; omega
  have ld : (d ++ [-77, -78]).length = b.length + 2 := by simp; omega
  rw [if_pos ⟨by omega, by omega⟩, if_pos ⟨by omega, by omega⟩, Int.toNat_natCast, Int.toNat_natCast, ← c2, List.take_left, ← d2, List.take_left]
  obtain ⟨r, e, f1, f2, f3⟩ := play_same (K := K) c d (by omega)
  obtain ⟨r', e', g1, g2, g3⟩ := play_same (K := K) a b (by omega)
  obtain ⟨u, u1, u2, u3⟩ := pp1_l (K := K) (p := a) (by omega) a.length K 0 (c ++ [-77, -78]) (by omega) (by omega) lc (by simp)
  obtain ⟨v, v1, v2, v3⟩ := pp2_l (K := K) (p := b) (by omega) b.length K 0 (d ++ [-77, -78]) (by omega) (by omega) ld (by simp)
  rw [show ((0 : Nat) : Int) = 0 from rfl] at u1 v1
  rw [f1, ob2_some, u1, ob1_some, v1, ob1_some, if_pos ⟨by omega, by omega⟩, if_pos ⟨by omega, by omega⟩, c2, d2, u3, v3, g1, ob2_some, f2, ob2_some, g2, ob2_some, if_pos rfl, if_pos rfl, run_ok f3 (by omega), ob1_some, if_pos rfl, run_ok g3 (by omega), ob1_some]
theorem fplay_true (a b : List Int) (ha : a.length ≤ 1048576) (hb : b.length ≤ 1048576) (hK : 6000000 < K) : plunderlaw8_FramesPlay K a b = some true := by
  unfold plunderlaw8_FramesPlay
  obtain ⟨r, e, g1, g2, g3⟩ := play_same (K := K) a b (by omega)
  have la : (a ++ [-77, -78]).length = a.length + 2 := by simp
  have lb : (b ++ [-77, -78]).length = b.length + 2 := by simp
  obtain ⟨S, s1, s2⟩ := spoil_ok (K := K) g3 (by omega)
  rw [g2, ob2_some, spare_ok ha (by omega), ob1_some, spare_ok hb (by omega), ob1_some, if_pos ⟨by omega, by omega⟩, if_pos ⟨by omega, by omega⟩, Int.toNat_natCast, Int.toNat_natCast, List.take_left, List.take_left, g1, ob2_some, ob2_some, if_pos rfl, if_pos rfl, run_ok g3 (by omega), ob1_some, if_pos rfl, jn0_inl, s1, ob1_some, ob1_some, if_pos rfl, spoilt_ok g3 s2 (by omega), ob1_some, if_pos rfl, unt_ok ha (by omega), ob1_some, if_pos rfl, unt_ok hb (by omega), ob1_some, if_pos rfl, placed_ok a b ha hb hK, ob1_some]
end
end Go.Proofs.Ytnghahgfcaolbaa.Mo
