/- CellsLists answers true. No memory is spoken of. -/
import Derived.Test.YtacgigkonoegiaaLiBase
namespace Go.Proofs.Ytacgigkonoegiaa.Mo
open Go Go.Proofs.Ytacgigkonoegiaa.SL Go.Proofs.Ytacgigkonoegiaa.GX
set_option linter.unusedVariables false
set_option linter.unusedSimpArgs false
abbrev b0 : T_plunderlaw2_book := ⟨([] : List T_plunderlaw2_kept), ([] : List T_plunderlaw2_noted), 0⟩
/-- What is kept. -/
structure Kp (k : T_plunderlaw2_Kept) (n : Nat) : Prop where
  wn : k.WantN = k.N
  wl : k.WantL = k.L
  nl : k.N.length ≤ n
  ll : k.L.length = k.N.length
  ne : ∀ x ∈ k.N, x.length ≤ 1048576
  le : ∀ x ∈ k.L, x.length ≤ 2097152
theorem Kp.up {k : T_plunderlaw2_Kept} {n m : Nat} (h : Kp k n) (e : n ≤ m) : Kp k m := { h with nl := Nat.le_trans h.nl e }
section
variable {K : Nat}
theorem kept_both {k : T_plunderlaw2_Kept} {n : Nat} (hK : 4000000 < K) (h : Kp k n) (hn : n ≤ 1000000) {a : List Int} {b : List T_api_Access} (ha : a.length ≤ 1048576) (hb : b.length ≤ 2097152) :
    ∃ k1 k2, plunderlaw2_Kept_numbers K k a a = some (true, k1) ∧ plunderlaw2_Kept_accesses K k1 b b = some (true, k2) ∧ Kp k2 (n + 1) := by
  have h1 := h.nl
  have h2 := h.ll
  unfold plunderlaw2_Kept_numbers plunderlaw2_Kept_accesses
  refine ⟨⟨k.N ++ [a], k.WantN ++ [[] ++ a], k.L, k.WantL, wi (k.Sum + ((a.length : Nat) : Int))⟩, ⟨k.N ++ [a], k.WantN ++ [[] ++ a], k.L ++ [b], k.WantL ++ [[] ++ b], wi (wi (k.Sum + ((a.length : Nat) : Int)) + ((b.length : Nat) : Int))⟩, ?_, ?_, ?_⟩
  · rw [if_pos (by simp; omega), if_pos (by omega), if_pos (by rw [h.wn]; omega), sameNumbers_eq (by omega) (by omega), ob1_some]; simp
  · rw [if_pos (by simp; omega), if_pos (by show (k.L.length + 1) * 24 ≤ _; omega), if_pos (by show (k.WantL.length + 1) * 24 ≤ _; rw [h.wl]; omega), sameLog_eq (by omega) (by omega), ob1_some]; simp
  · refine ⟨by simp [h.wn], by simp [h.wl], by simp; omega, by simp; exact h2, fun x hx => ?_, fun x hx => ?_⟩
    · have hx : x ∈ k.N ++ [a] := hx
      rcases List.mem_append.1 hx with hx | hx
      · exact h.ne x hx
      · simp at hx; subst hx; exact ha
    · have hx : x ∈ k.L ++ [b] := hx
      rcases List.mem_append.1 hx with hx | hx
      · exact h.le x hx
      · simp at hx; subst hx; exact hb
theorem asked_ok {k : T_plunderlaw2_Kept} {n c : Nat} (hK : 4000000 < K) (h : Kp k n) (hn : n ≤ 900000) {S : T_cells_Arena} {R : T_plunderref2_Arena} (hs : Same S R c) (hc : c ≤ 1048576) : ∃ k', plunderlaw2_Kept_asked K k S R = some (true, k') ∧ Kp k' (n + 2) := by
  have g1 := hs.held; have g2 := hs.most; have g3 := hs.book
  have hh : R.Held.length ≤ 1048576 := by omega
  obtain ⟨k1, k2, e1, e2, e3⟩ := kept_both hK h (by omega) (a := R.Held) (b := R.Book) hh (by omega)
  obtain ⟨k3, k4, e4, e5, e6⟩ := kept_both hK e3 (by omega) (a := R.Held) (b := R.Book) hh (by omega)
  unfold plunderlaw2_Kept_asked
  simp only [cells_eq (S := S) (by rw [hs.cell]; omega), log_eq (S := S) (by rw [hs.log]; omega), ob1_some, hs.cell, hs.log, e1, ob2_some, e2, e4, e5, if_true]
  exact ⟨k4, rfl, e6⟩
theorem asked_none {k : T_plunderlaw2_Kept} {n : Nat} (hK : 4000000 < K) (h : Kp k n) (hn : n ≤ 900000) {R : T_plunderref2_Arena} (hs : None_ R) : ∃ k', plunderlaw2_Kept_asked_nil K k R = some (true, k') ∧ Kp k' (n + 2) := by
  obtain ⟨k1, k2, e1, e2, e3⟩ := kept_both hK h (by omega) (a := []) (b := []) (by simp) (by simp)
  obtain ⟨k3, k4, e4, e5, e6⟩ := kept_both hK e3 (by omega) (a := []) (b := []) (by simp) (by simp)
  unfold plunderlaw2_Kept_asked_nil
  simp only [cells_Arena_Cells_nil, cells_Arena_Log_nil, ob1_some, hs.held, hs.book, e1, ob2_some, e2, e4, e5, if_true]
  exact ⟨k4, rfl, e6⟩
/-! ### alone -/
theorem alone_l1 {p : T_plunderlaw2_Kept} {n : Nat} (hK : 4000000 < K) (h : Kp p n) (hn : n ≤ 1000000) : ∀ (d k i : Nat), i + d = p.N.length → d < k → plunderlaw2_Kept_alone_l1 K p k (i : Int) = some (.inl ())
  | d, k, i, hd, hk => by
    obtain ⟨k, rfl⟩ : ∃ m, k = m + 1 := ⟨k - 1, by omega⟩
    rw [plunderlaw2_Kept_alone_l1]
    have h1 := h.nl
    by_cases hi : i < p.N.length
    · obtain ⟨d, rfl⟩ : ∃ m, d = m + 1 := ⟨d - 1, by omega⟩
      have he := h.ne _ (List.mem_of_getElem? (get_at hi))
      rw [if_pos (by omega), if_pos ⟨by omega, by omega⟩, if_pos ⟨by omega, by rw [h.wn]; omega⟩, h.wn, Int.toNat_natCast, sameNumbers_eq (by omega) (by omega), ob1_some, if_pos (by simp), wi1 (by omega) (by omega), show ((i : Int) + 1) = ((i + 1 : Nat) : Int) by omega]
      exact alone_l1 hK h hn d k (i + 1) (by omega) (by omega)
    · rw [if_neg (by omega)]
theorem alone_l2 {p : T_plunderlaw2_Kept} {n : Nat} (hK : 4000000 < K) (h : Kp p n) (hn : n ≤ 1000000) : ∀ (d k i : Nat), i + d = p.L.length → d < k → plunderlaw2_Kept_alone_l2 K p k (i : Int) = some (.inl ())
  | d, k, i, hd, hk => by
    obtain ⟨k, rfl⟩ : ∃ m, k = m + 1 := ⟨k - 1, by omega⟩
    rw [plunderlaw2_Kept_alone_l2]
    have h1 := h.nl
    have h2 := h.ll
    by_cases hi : i < p.L.length
    · obtain ⟨d, rfl⟩ : ∃ m, d = m + 1 := ⟨d - 1, by omega⟩
      have he := h.le _ (List.mem_of_getElem? (get_at hi))
      rw [if_pos (by omega), if_pos ⟨by omega, by omega⟩, if_pos ⟨by omega, by rw [h.wl]; omega⟩, h.wl, Int.toNat_natCast, sameLog_eq (by omega) (by omega), ob1_some, if_pos (by simp), wi1 (by omega) (by omega), show ((i : Int) + 1) = ((i + 1 : Nat) : Int) by omega]
      exact alone_l2 hK h hn d k (i + 1) (by omega) (by omega)
    · rw [if_neg (by omega)]
theorem alone_l3 {p : T_plunderlaw2_Kept} {n : Nat} (hK : 4000000 < K) (h : Kp p n) (hn : n ≤ 1000000) : ∀ (d k i : Nat) (b : T_plunderlaw2_book), i + d = p.N.length → d < k → Room b i → ∃ m b', plunderlaw2_Kept_alone_l3 K p k i b (i : Int) = some (m, b') ∧ Room b' p.N.length
  | d, k, i, b, hd, hk, hb => by
    obtain ⟨k, rfl⟩ : ∃ m, k = m + 1 := ⟨k - 1, by omega⟩
    rw [plunderlaw2_Kept_alone_l3]
    have h1 := h.nl
    by_cases hi : i < p.N.length
    · obtain ⟨d, rfl⟩ : ∃ m, d = m + 1 := ⟨d - 1, by omega⟩
      have he := h.ne _ (List.mem_of_getElem? (get_at hi))
      obtain ⟨b', e1, e2⟩ := numbers_room (K := K) (by omega) (l := at_ p.N i) he hb (by omega)
      rw [if_pos (by omega), if_pos ⟨by omega, by omega⟩, Int.toNat_natCast, if_pos rfl, e1, ob1_some, wi1 (by omega) (by omega), show ((i : Int) + 1) = ((i + 1 : Nat) : Int) by omega]
      exact alone_l3 hK h hn d k (i + 1) b' (by omega) (by omega) e2
    · rw [if_neg (by omega)]
      obtain rfl : i = p.N.length := by omega
      exact ⟨_, _, rfl, hb⟩
theorem alone_l4 {p : T_plunderlaw2_Kept} {n : Nat} (hK : 4000000 < K) (h : Kp p n) (hn : n ≤ 500000) : ∀ (d k i c : Nat) (b : T_plunderlaw2_book), i + d = p.L.length → d < k → c + d ≤ 1048576 → Room b c → plunderlaw2_Kept_alone_l4 K p k i b (i : Int) = some true
  | d, k, i, c, b, hd, hk, hc, hb => by
    obtain ⟨k, rfl⟩ : ∃ m, k = m + 1 := ⟨k - 1, by omega⟩
    rw [plunderlaw2_Kept_alone_l4]
    have h1 := h.nl
    have h2 := h.ll
    by_cases hi : i < p.L.length
    · obtain ⟨d, rfl⟩ : ∃ m, d = m + 1 := ⟨d - 1, by omega⟩
      have he := h.le _ (List.mem_of_getElem? (get_at hi))
      obtain ⟨b', e1, e2⟩ := accesses_room (K := K) (by omega) (l := at_ p.L i) he hb (by omega)
      rw [if_pos (by omega), if_pos ⟨by omega, by omega⟩, Int.toNat_natCast, if_pos rfl, e1, ob1_some, wi1 (by omega) (by omega), show ((i : Int) + 1) = ((i + 1 : Nat) : Int) by omega]
      exact alone_l4 hK h hn d k (i + 1) (c + 1) b' (by omega) (by omega) (by omega) e2
    · rw [if_neg (by omega), hb.stands hK (by omega), ob1_some]
theorem alone_ok {p : T_plunderlaw2_Kept} {n : Nat} (hK : 4000000 < K) (h : Kp p n) (hn : n ≤ 100000) : plunderlaw2_Kept_alone K p = some true := by
  have h1 := h.nl
  have h2 := h.ll
  unfold plunderlaw2_Kept_alone
  have a := alone_l1 hK h (by omega) p.N.length K 0 (by omega) (by omega)
  have b := alone_l2 hK h (by omega) p.L.length K 0 (by omega) (by omega)
  obtain ⟨m, b', c, hb⟩ := alone_l3 hK h (by omega) p.N.length K 0 b0 (by omega) (by omega) room0
  have e := alone_l4 hK h (by omega) p.L.length K 0 p.N.length b' (by omega) (by omega) (by omega) hb
  simp only [Int.natCast_zero] at a b c e
  rw [a, jn0_inl, b, jn0_inl, c, ob2_some, e]
/-! ### untold -/
theorem ask9 (x : Int) : ∃ g, (if x = 9 then some true else some (x == (10 : Int))) = some g := by
  by_cases h : x = 9
  · exact ⟨_, by rw [if_pos h]⟩
  · exact ⟨_, by rw [if_neg h]⟩
theorem few {x : Nat} {s : Int} : ∃ g, (if ((x : Nat) : Int) < (400 : Int) then some (decide (s < (100000 : Int))) else some false) = some g ∧ (g = true → x < 400) := by
  by_cases h : ((x : Nat) : Int) < 400
  · exact ⟨_, by rw [if_pos h], fun _ => by omega⟩
  · exact ⟨false, by rw [if_neg h], fun h => by cases h⟩
theorem Kp.less {k : T_plunderlaw2_Kept} {n m : Nat} (h : Kp k n) (e : k.N.length ≤ m) : Kp k m := { h with nl := e }
variable {moves : List T_plunderlaw2_Move}
theorem unt1 (hK : 4000000 < K) (hm : moves.length ≤ 1048576) : ∀ (d k i : Nat) (R0 R1 : T_plunderref2_Arena) (S0 S1 : T_cells_Arena) (q : T_plunderlaw2_Kept), i + d = moves.length → d < k → Same S0 R0 i → Same S1 R1 i → Kp q 403 →
    ∃ R0' R1' S0' S1' q', plunderlaw2_untold_l1 K moves k R0 R1 S0 S1 q (i : Int) = some (.inl (R0', R1', S0', S1', q')) ∧ Same S0' R0' moves.length ∧ Same S1' R1' moves.length ∧ Kp q' 403
  | d, k, i, R0, R1, S0, S1, q, h, hk, h0, h1, hq => by
    obtain ⟨k, rfl⟩ : ∃ m, k = m + 1 := ⟨k - 1, by omega⟩
    rw [plunderlaw2_untold_l1]
    by_cases hi : i < moves.length
    · obtain ⟨d, rfl⟩ : ∃ m, d = m + 1 := ⟨d - 1, by omega⟩
      rw [if_pos (by omega), if_pos ⟨by omega, by omega⟩, Int.toNat_natCast, wi1 (by omega) (by omega), show ((i : Int) + 1) = ((i + 1 : Nat) : Int) by omega]
      obtain ⟨g, hg⟩ := ask9 (at_ moves i).Kind
      rw [hg, ob1_some]
      cases g with
      | true =>
        rw [if_pos rfl]
        obtain ⟨g2, hg2, hg3⟩ := few (x := q.N.length) (s := q.Sum)
        rw [hg2, ob1_some]
        cases g2 with
        | true =>
          have hq1 := hq.less (m := 399) (by have := hg3 rfl; omega)
          obtain ⟨q1, e1, e2⟩ := asked_ok hK hq1 (by omega) h0 (by omega)
          obtain ⟨q2, e3, e4⟩ := asked_ok hK e2 (by omega) h1 (by omega)
          rw [if_pos rfl, e1, ob2_some, if_pos rfl, e3, ob2_some, if_pos rfl]
          exact unt1 hK hm d k (i + 1) _ _ _ _ _ (by omega) (by omega) (h0.up (by omega)) (h1.up (by omega)) e4
        | false =>
          rw [if_neg (by decide)]
          exact unt1 hK hm d k (i + 1) _ _ _ _ _ (by omega) (by omega) (h0.up (by omega)) (h1.up (by omega)) hq
      | false =>
        rw [if_neg (by decide)]
        obtain ⟨r, hr⟩ := mod2 (at_ moves i).Side
        rw [hr, ob1_some]
        by_cases er : r = 0
        · rw [if_pos er]
          obtain ⟨S', R', b', e1, e2, _, e4⟩ := plays_same hK h0 (by omega) (at_ moves i) room0 (by omega)
          rw [e1, ob4_some, if_pos rfl]
          exact unt1 hK hm d k (i + 1) _ _ _ _ _ (by omega) (by omega) e2 (h1.up (by omega)) hq
        · rw [if_neg er]
          obtain ⟨S', R', b', e1, e2, _, e4⟩ := plays_same hK h1 (by omega) (at_ moves i) room0 (by omega)
          rw [e1, ob4_some, if_pos rfl]
          exact unt1 hK hm d k (i + 1) _ _ _ _ _ (by omega) (by omega) (h0.up (by omega)) e2 hq
    · rw [if_neg (by omega)]
      exact ⟨_, _, _, _, _, rfl, (h0.up (by omega)), (h1.up (by omega)), hq⟩
theorem unt2 (hK : 4000000 < K) (hm : moves.length ≤ 1048576) : ∀ (d k i : Nat) (R0 R1 : T_plunderref2_Arena) (S0 : T_cells_Arena) (q : T_plunderlaw2_Kept), i + d = moves.length → d < k → Same S0 R0 i → None_ R1 → Kp q 403 →
    ∃ R0' R1' S0' q', plunderlaw2_untold_l2 K moves k R0 R1 S0 q (i : Int) = some (.inl (R0', R1', S0', q')) ∧ Same S0' R0' moves.length ∧ None_ R1' ∧ Kp q' 403
  | d, k, i, R0, R1, S0, q, h, hk, h0, h1, hq => by
    obtain ⟨k, rfl⟩ : ∃ m, k = m + 1 := ⟨k - 1, by omega⟩
    rw [plunderlaw2_untold_l2]
    by_cases hi : i < moves.length
    · obtain ⟨d, rfl⟩ : ∃ m, d = m + 1 := ⟨d - 1, by omega⟩
      rw [if_pos (by omega), if_pos ⟨by omega, by omega⟩, Int.toNat_natCast, wi1 (by omega) (by omega), show ((i : Int) + 1) = ((i + 1 : Nat) : Int) by omega]
      obtain ⟨g, hg⟩ := ask9 (at_ moves i).Kind
      rw [hg, ob1_some]
      cases g with
      | true =>
        rw [if_pos rfl]
        obtain ⟨g2, hg2, hg3⟩ := few (x := q.N.length) (s := q.Sum)
        rw [hg2, ob1_some]
        cases g2 with
        | true =>
          have hq1 := hq.less (m := 399) (by have := hg3 rfl; omega)
          obtain ⟨q1, e1, e2⟩ := asked_ok hK hq1 (by omega) h0 (by omega)
          obtain ⟨q2, e3, e4⟩ := asked_none hK e2 (by omega) h1
          rw [if_pos rfl, e1, ob2_some, if_pos rfl, e3, ob2_some, if_pos rfl]
          exact unt2 hK hm d k (i + 1) _ _ _ _ (by omega) (by omega) (h0.up (by omega)) h1 e4
        | false =>
          rw [if_neg (by decide)]
          exact unt2 hK hm d k (i + 1) _ _ _ _ (by omega) (by omega) (h0.up (by omega)) h1 hq
      | false =>
        rw [if_neg (by decide)]
        obtain ⟨r, hr⟩ := mod2 (at_ moves i).Side
        rw [hr, ob1_some]
        by_cases er : r = 0
        · rw [if_pos er]
          obtain ⟨S', R', b', e1, e2, _, e4⟩ := plays_same hK h0 (by omega) (at_ moves i) room0 (by omega)
          rw [e1, ob4_some, if_pos rfl]
          exact unt2 hK hm d k (i + 1) _ _ _ _ (by omega) (by omega) e2 h1 hq
        · rw [if_neg er]
          obtain ⟨R', b', e1, e2, e4⟩ := plays_none hK h1 (at_ moves i) room0 (by omega)
          rw [e1, ob3_some, if_pos rfl]
          exact unt2 hK hm d k (i + 1) _ _ _ _ (by omega) (by omega) (h0.up (by omega)) e2 hq
    · rw [if_neg (by omega)]
      exact ⟨_, _, _, _, rfl, (h0.up (by omega)), h1, hq⟩
theorem unt3 (hK : 4000000 < K) (hm : moves.length ≤ 1048576) : ∀ (d k i : Nat) (R0 R1 : T_plunderref2_Arena) (S1 : T_cells_Arena) (q : T_plunderlaw2_Kept), i + d = moves.length → d < k → None_ R0 → Same S1 R1 i → Kp q 403 →
    ∃ R0' R1' S1' q', plunderlaw2_untold_l3 K moves k R0 R1 S1 q (i : Int) = some (.inl (R0', R1', S1', q')) ∧ None_ R0' ∧ Same S1' R1' moves.length ∧ Kp q' 403
  | d, k, i, R0, R1, S1, q, h, hk, h0, h1, hq => by
    obtain ⟨k, rfl⟩ : ∃ m, k = m + 1 := ⟨k - 1, by omega⟩
    rw [plunderlaw2_untold_l3]
    by_cases hi : i < moves.length
    · obtain ⟨d, rfl⟩ : ∃ m, d = m + 1 := ⟨d - 1, by omega⟩
      rw [if_pos (by omega), if_pos ⟨by omega, by omega⟩, Int.toNat_natCast, wi1 (by omega) (by omega), show ((i : Int) + 1) = ((i + 1 : Nat) : Int) by omega]
      obtain ⟨g, hg⟩ := ask9 (at_ moves i).Kind
      rw [hg, ob1_some]
      cases g with
      | true =>
        rw [if_pos rfl]
        obtain ⟨g2, hg2, hg3⟩ := few (x := q.N.length) (s := q.Sum)
        rw [hg2, ob1_some]
        cases g2 with
        | true =>
          have hq1 := hq.less (m := 399) (by have := hg3 rfl; omega)
          obtain ⟨q1, e1, e2⟩ := asked_none hK hq1 (by omega) h0
          obtain ⟨q2, e3, e4⟩ := asked_ok hK e2 (by omega) h1 (by omega)
          rw [if_pos rfl, e1, ob2_some, if_pos rfl, e3, ob2_some, if_pos rfl]
          exact unt3 hK hm d k (i + 1) _ _ _ _ (by omega) (by omega) h0 (h1.up (by omega)) e4
        | false =>
          rw [if_neg (by decide)]
          exact unt3 hK hm d k (i + 1) _ _ _ _ (by omega) (by omega) h0 (h1.up (by omega)) hq
      | false =>
        rw [if_neg (by decide)]
        obtain ⟨r, hr⟩ := mod2 (at_ moves i).Side
        rw [hr, ob1_some]
        by_cases er : r = 0
        · rw [if_pos er]
          obtain ⟨R', b', e1, e2, e4⟩ := plays_none hK h0 (at_ moves i) room0 (by omega)
          rw [e1, ob3_some, if_pos rfl]
          exact unt3 hK hm d k (i + 1) _ _ _ _ (by omega) (by omega) e2 (h1.up (by omega)) hq
        · rw [if_neg er]
          obtain ⟨S', R', b', e1, e2, _, e4⟩ := plays_same hK h1 (by omega) (at_ moves i) room0 (by omega)
          rw [e1, ob4_some, if_pos rfl]
          exact unt3 hK hm d k (i + 1) _ _ _ _ (by omega) (by omega) h0 e2 hq
    · rw [if_neg (by omega)]
      exact ⟨_, _, _, _, rfl, h0, (h1.up (by omega)), hq⟩
theorem unt4 (hK : 4000000 < K) (hm : moves.length ≤ 1048576) : ∀ (d k i : Nat) (R0 R1 : T_plunderref2_Arena) (q : T_plunderlaw2_Kept), i + d = moves.length → d < k → None_ R0 → None_ R1 → Kp q 403 →
    ∃ R0' R1' q', plunderlaw2_untold_l4 K moves k R0 R1 q (i : Int) = some (.inl (R0', R1', q')) ∧ None_ R0' ∧ None_ R1' ∧ Kp q' 403
  | d, k, i, R0, R1, q, h, hk, h0, h1, hq => by
    obtain ⟨k, rfl⟩ : ∃ m, k = m + 1 := ⟨k - 1, by omega⟩
    rw [plunderlaw2_untold_l4]
    by_cases hi : i < moves.length
    · obtain ⟨d, rfl⟩ : ∃ m, d = m + 1 := ⟨d - 1, by omega⟩
      rw [if_pos (by omega), if_pos ⟨by omega, by omega⟩, Int.toNat_natCast, wi1 (by omega) (by omega), show ((i : Int) + 1) = ((i + 1 : Nat) : Int) by omega]
      obtain ⟨g, hg⟩ := ask9 (at_ moves i).Kind
      rw [hg, ob1_some]
      cases g with
      | true =>
        rw [if_pos rfl]
        obtain ⟨g2, hg2, hg3⟩ := few (x := q.N.length) (s := q.Sum)
        rw [hg2, ob1_some]
        cases g2 with
        | true =>
          have hq1 := hq.less (m := 399) (by have := hg3 rfl; omega)
          obtain ⟨q1, e1, e2⟩ := asked_none hK hq1 (by omega) h0
          obtain ⟨q2, e3, e4⟩ := asked_none hK e2 (by omega) h1
          rw [if_pos rfl, e1, ob2_some, if_pos rfl, e3, ob2_some, if_pos rfl]
          exact unt4 hK hm d k (i + 1) _ _ _ (by omega) (by omega) h0 h1 e4
        | false =>
          rw [if_neg (by decide)]
          exact unt4 hK hm d k (i + 1) _ _ _ (by omega) (by omega) h0 h1 hq
      | false =>
        rw [if_neg (by decide)]
        obtain ⟨r, hr⟩ := mod2 (at_ moves i).Side
        rw [hr, ob1_some]
        by_cases er : r = 0
        · rw [if_pos er]
          obtain ⟨R', b', e1, e2, e4⟩ := plays_none hK h0 (at_ moves i) room0 (by omega)
          rw [e1, ob3_some, if_pos rfl]
          exact unt4 hK hm d k (i + 1) _ _ _ (by omega) (by omega) e2 h1 hq
        · rw [if_neg er]
          obtain ⟨R', b', e1, e2, e4⟩ := plays_none hK h1 (at_ moves i) room0 (by omega)
          rw [e1, ob3_some, if_pos rfl]
          exact unt4 hK hm d k (i + 1) _ _ _ (by omega) (by omega) h0 e2 hq
    · rw [if_neg (by omega)]
      exact ⟨_, _, _, rfl, h0, h1, hq⟩
theorem untold_true (hK : 4000000 < K) (hm : moves.length ≤ 1048576) (p0 p1 : Int) : plunderlaw2_untold K p0 p1 moves = some true := by
  have hq : Kp ⟨[], [], [], [], 0⟩ 403 := ⟨rfl, rfl, by simp, rfl, fun x hx => by simp at hx, fun x hx => by simp at hx⟩
  unfold plunderlaw2_untold
  rcases new_cases p0 with ⟨R0, S0, a1, a2, a3⟩ | ⟨R0, a1, a2, a3⟩ <;> rcases new_cases p1 with ⟨R1, S1, b1, b2, b3⟩ | ⟨R1, b1, b2, b3⟩
  · obtain ⟨R0', R1', S0', S1', q', e, f0, f1, fq⟩ := unt1 hK hm moves.length K 0 R0 R1 S0 S1 ⟨[], [], [], [], 0⟩ (by omega) (by omega) a3 b3 hq
    simp only [Int.natCast_zero] at e
    obtain ⟨q1, g1, g2⟩ := asked_ok hK fq (by omega) f0 hm
    obtain ⟨q2, g3, g4⟩ := asked_ok hK g2 (by omega) f1 hm
    simp [a1, a2, b1, b2, e, g1, g3, alone_ok hK g4 (by omega)]
  · obtain ⟨R0', R1', S0', q', e, f0, f1, fq⟩ := unt2 hK hm moves.length K 0 R0 R1 S0 ⟨[], [], [], [], 0⟩ (by omega) (by omega) a3 b3 hq
    simp only [Int.natCast_zero] at e
    obtain ⟨q1, g1, g2⟩ := asked_ok hK fq (by omega) f0 hm
    obtain ⟨q2, g3, g4⟩ := asked_none hK g2 (by omega) f1
    simp [a1, a2, b1, b2, e, g1, g3, alone_ok hK g4 (by omega)]
  · obtain ⟨R0', R1', S1', q', e, f0, f1, fq⟩ := unt3 hK hm moves.length K 0 R0 R1 S1 ⟨[], [], [], [], 0⟩ (by omega) (by omega) a3 b3 hq
    simp only [Int.natCast_zero] at e
    obtain ⟨q1, g1, g2⟩ := asked_none hK fq (by omega) f0
    obtain ⟨q2, g3, g4⟩ := asked_ok hK g2 (by omega) f1 hm
    simp [a1, a2, b1, b2, e, g1, g3, alone_ok hK g4 (by omega)]
  · obtain ⟨R0', R1', q', e, f0, f1, fq⟩ := unt4 hK hm moves.length K 0 R0 R1 ⟨[], [], [], [], 0⟩ (by omega) (by omega) a3 b3 hq
    simp only [Int.natCast_zero] at e
    obtain ⟨q1, g1, g2⟩ := asked_none hK fq (by omega) f0
    obtain ⟨q2, g3, g4⟩ := asked_none hK g2 (by omega) f1
    simp [a1, a2, b1, b2, e, g1, g3, alone_ok hK g4 (by omega)]
theorem lists_true (hK : 4000000 < K) (hm : moves.length ≤ 1048576) (p0 p1 : Int) : plunderlaw2_CellsLists K p0 p1 moves = some true := by
  unfold plunderlaw2_CellsLists
  rw [walk_true hK hm p0 p1 false, ob1_some, if_pos rfl, untold_true hK hm p0 p1, ob1_some]
end
end Go.Proofs.Ytacgigkonoegiaa.Mo
