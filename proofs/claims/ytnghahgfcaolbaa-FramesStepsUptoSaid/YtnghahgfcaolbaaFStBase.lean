/- The arena of both sides. Printed by mkfnew.py. -/
import Derived.Test.YtnghahgfcaolbaaFs6
namespace Go.Proofs.Ytnghahgfcaolbaa.Mo
open Go Go.Proofs.Ytnghahgfcaolbaa.SL Go.Proofs.Ytnghahgfcaolbaa.GX
set_option linter.unusedVariables false
set_option linter.unusedSimpArgs false
theorem wi1 {g : Int} (h0 : 0 ≤ g) (h1 : g < 4611686018427387904) : wi (g + (1 : Int)) = g + 1 := wi_in (by omega)

/-! ### lists that are compared -/
theorem sameNumbers_l {K : Nat} {a b : List Int} (hab : a.length = b.length) (hl : a.length < 4611686018427387904) : ∀ (d k i : Nat), i + d = a.length → d < k →
    plunderlaw8_sameNumbers_l1 K a b k (i : Int) = some (decide (a.drop i = b.drop i))
  | d, k, i, h, hk => by
    obtain ⟨k, rfl⟩ : ∃ m, k = m + 1 := ⟨k - 1, by omega⟩
    rw [plunderlaw8_sameNumbers_l1]
    by_cases hi : i < a.length
    · have ha : a.drop i = at_ a i :: a.drop (i + 1) := by rw [List.drop_eq_getElem_cons hi]; unfold at_; rw [List.getD_eq_getElem?_getD, List.getElem?_eq_getElem hi]; rfl
      have hb : b.drop i = at_ b i :: b.drop (i + 1) := by rw [List.drop_eq_getElem_cons (by omega)]; unfold at_; rw [List.getD_eq_getElem?_getD, List.getElem?_eq_getElem (show i < b.length by omega)]; rfl
      rw [if_pos (by omega), if_pos ⟨by omega, by omega⟩, if_pos ⟨by omega, by omega⟩, wi1 (by omega) (by omega), Int.toNat_natCast, ha, hb]
      by_cases e : at_ a i = at_ b i
      · rw [if_pos e]
        obtain ⟨d, rfl⟩ : ∃ m, d = m + 1 := ⟨d - 1, by omega⟩
        have := sameNumbers_l (K := K) hab hl d k (i + 1) (by omega) (by omega)
        rw [show ((i : Int) + 1) = ((i + 1 : Nat) : Int) by omega, this, e]
        simp
      · rw [if_neg e]
        simp [e]
    · rw [if_neg (by omega), List.drop_of_length_le (by omega), List.drop_of_length_le (by omega)]
      simp
theorem sameNumbers_eq {K : Nat} {a b : List Int} (hl : a.length < 4611686018427387904) (hK : a.length < K) : plunderlaw8_sameNumbers K a b = some (decide (a = b)) := by
  unfold plunderlaw8_sameNumbers
  by_cases h : a.length = b.length
  · rw [if_pos (by omega)]
    have := sameNumbers_l (K := K) h hl a.length K 0 (by omega) hK
    simpa using this
  · rw [if_neg (by omega)]
    have : ¬ a = b := fun e => h (by rw [e])
    simp [this]
theorem sameLog_l {K : Nat} {a b : List T_api_Access} (hab : a.length = b.length) (hl : a.length < 4611686018427387904) : ∀ (d k i : Nat), i + d = a.length → d < k →
    plunderlaw8_sameLog_l1 K a b k (i : Int) = some (decide (a.drop i = b.drop i))
  | d, k, i, h, hk => by
    obtain ⟨k, rfl⟩ : ∃ m, k = m + 1 := ⟨k - 1, by omega⟩
    rw [plunderlaw8_sameLog_l1]
    by_cases hi : i < a.length
    · have ha : a.drop i = at_ a i :: a.drop (i + 1) := by rw [List.drop_eq_getElem_cons hi]; unfold at_; rw [List.getD_eq_getElem?_getD, List.getElem?_eq_getElem hi]; rfl
      have hb : b.drop i = at_ b i :: b.drop (i + 1) := by rw [List.drop_eq_getElem_cons (by omega)]; unfold at_; rw [List.getD_eq_getElem?_getD, List.getElem?_eq_getElem (show i < b.length by omega)]; rfl
      rw [if_pos (by omega), if_pos ⟨by omega, by omega⟩, if_pos ⟨by omega, by omega⟩, wi1 (by omega) (by omega), Int.toNat_natCast, ha, hb]
      by_cases e : at_ a i = at_ b i
      · rw [if_pos e]
        obtain ⟨d, rfl⟩ : ∃ m, d = m + 1 := ⟨d - 1, by omega⟩
        have := sameLog_l (K := K) hab hl d k (i + 1) (by omega) (by omega)
        rw [show ((i : Int) + 1) = ((i + 1 : Nat) : Int) by omega, this, e]
        simp
      · rw [if_neg e]
        simp [e]
    · rw [if_neg (by omega), List.drop_of_length_le (by omega), List.drop_of_length_le (by omega)]
      simp
theorem sameLog_eq {K : Nat} {a b : List T_api_Access} (hl : a.length < 4611686018427387904) (hK : a.length < K) : plunderlaw8_sameLog K a b = some (decide (a = b)) := by
  unfold plunderlaw8_sameLog
  by_cases h : a.length = b.length
  · rw [if_pos (by omega)]
    have := sameLog_l (K := K) h hl a.length K 0 (by omega) hK
    simpa using this
  · rw [if_neg (by omega)]
    have : ¬ a = b := fun e => h (by rw [e])
    simp [this]

structure Same (S : T_cells_Arena) (R : T_plunderref2_Arena) (n : Nat) : Prop where
  size : S.ledger_size = R.Most
  mark : S.ledger_mark = (R.Held.length : Int)
  cell : S.cell = R.Held
  log : S.log = R.Book
  actor : S.actor = R.Actor
  on : S.watched = R.On
  most : R.Most ≤ 1048576
  held : (R.Held.length : Int) ≤ R.Most
  book : R.Book.length ≤ n
theorem Same.up {S : T_cells_Arena} {R : T_plunderref2_Arena} {n m : Nat} (h : Same S R n) (k : n ≤ m) : Same S R m := { h with book := Nat.le_trans h.book k }

theorem note_same {S : T_cells_Arena} {R : T_plunderref2_Arena} {n : Nat} (h : Same S R n) (hn : n < 1099511627776) (k i x y : Int) (ok : Bool) :
    ∃ S' R', cells_Arena_note S k i x y ok = some S' ∧ plunderref2_Arena_note R ⟨R.Actor, k, i, x, y, ok⟩ = some R' ∧ Same S' R' (n + 1) ∧ S'.cell = S.cell ∧ R'.Held = R.Held ∧ R'.Most = R.Most := by
  unfold cells_Arena_note plunderref2_Arena_note
  have hb := h.book
  by_cases ho : R.On = true
  · rw [if_pos (by rw [h.on]; exact ho), if_pos ho, if_pos (by rw [h.log]; omega), if_pos (by omega)]
    exact ⟨_, _, rfl, rfl, ⟨h.size, h.mark, h.cell, by simp [h.log, h.actor], h.actor, h.on, h.most, h.held, by simp; omega⟩, rfl, rfl, rfl⟩
  · rw [if_neg (by rw [h.on]; exact ho), if_neg ho]
    exact ⟨_, _, rfl, rfl, h.up (Nat.le_succ n), rfl, rfl, rfl⟩
theorem reserve_l {K : Nat} {n : Int} (hn : n ≤ 1048576) : ∀ (d k i : Nat) (l : List Int), (i : Int) + d = n → d < k → l.length ≤ 2097152 + i → plunderref2_Arena_reserve_l1 K n k l (i : Int) = some (l ++ List.replicate d 0)
  | d, k, i, l, h, hk, hl => by
    obtain ⟨k, rfl⟩ : ∃ m, k = m + 1 := ⟨k - 1, by omega⟩
    rw [plunderref2_Arena_reserve_l1]
    by_cases hi : (i : Int) < n
    · obtain ⟨d, rfl⟩ : ∃ m, d = m + 1 := ⟨d - 1, by omega⟩
      rw [if_pos hi, if_pos (by omega), wi1 (by omega) (by omega), show ((i : Int) + 1) = ((i + 1 : Nat) : Int) by omega, reserve_l hn d k (i + 1) _ (by omega) (by omega) (by rw [List.length_append]; simp; omega)]
      rw [List.append_assoc, List.replicate_succ]; rfl
    · obtain rfl : d = 0 := by omega
      rw [if_neg hi]; simp
theorem outside_eq (S : T_cells_Arena) (i : Int) : cells_Arena_outside S i = some (!(decide (0 ≤ i ∧ i < S.ledger_mark))) := by
  unfold cells_Arena_outside cells_ledger_has
  by_cases h : i ≥ 0
  · rw [if_pos h, ob1_some]; simp [h]
  · rw [if_neg h, ob1_some]; simp [h]

theorem cells_eq {S : T_cells_Arena} (h : S.cell.length ≤ 1099511627776) : cells_Arena_Cells S = some S.cell := by
  unfold cells_Arena_Cells
  rw [if_pos ⟨by omega, by omega⟩, if_pos (by simp)]
theorem log_eq {S : T_cells_Arena} (h : S.log.length ≤ 1099511627776) : cells_Arena_Log S = some S.log := by
  unfold cells_Arena_Log
  rw [if_pos ⟨by omega, by omega⟩, if_pos (by simp)]
structure None_ (R : T_plunderref2_Arena) : Prop where
  most : R.Most = 0
  held : R.Held = []
  book : R.Book = []
theorem new_cases (p : Int) : (∃ R S, plunderref2_New p = some (R, 0) ∧ cells_New p = some (some S, 0) ∧ Same S R 0) ∨ (∃ R, plunderref2_New p = some (R, 3) ∧ cells_New p = some (none, 3) ∧ None_ R) := by
  unfold plunderref2_New cells_New cells_good
  by_cases h0 : p < 0
  · right
    rw [if_pos h0, if_neg (show ¬ p ≥ 0 by omega)]
    exact ⟨_, rfl, by simp, ⟨rfl, rfl, rfl⟩⟩
  · by_cases h1 : p > 1048576
    · right
      rw [if_neg h0, if_pos h1, if_pos (show p ≥ 0 by omega)]
      refine ⟨_, rfl, ?_, ⟨rfl, rfl, rfl⟩⟩
      simp; omega
    · left
      rw [if_neg h0, if_neg h1, if_pos (show p ≥ 0 by omega)]
      refine ⟨_, ⟨p, 0, [], [], 0, false⟩, rfl, ?_, ⟨rfl, rfl, rfl, rfl, rfl, rfl, by show p ≤ 1048576; omega, by show (0 : Int) ≤ p; omega, Nat.le_refl _⟩⟩
      simp; omega
theorem reserve_same {K : Nat} (hK : 4000000 < K) {S : T_cells_Arena} {R : T_plunderref2_Arena} {n : Nat} (h : Same S R n) (hn : n < 1099511627776) (c w ad b : Int) (h1 : 1 ≤ c) :
    (∃ S' R', cells_Arena_Reserve S c = some ((R.Held.length : Int), 0, S') ∧ plunderref2_Arena_Do K R ⟨w, 4, ad, c, b⟩ = some (⟨(R.Held.length : Int), true, 0⟩, R') ∧ Same S' R' (n + 1) ∧ R'.Held = R.Held ++ List.replicate c.toNat 0 ∧ R'.Most = R.Most ∧ c ≤ R.Most - (R.Held.length : Int)) ∨
    (cells_Arena_Reserve S c = some (0, 22, S) ∧ plunderref2_Arena_Do K R ⟨w, 4, ad, c, b⟩ = some (⟨0, false, 22⟩, R) ∧ ¬ c ≤ R.Most - (R.Held.length : Int)) := by
  have hmost := h.most
  have hheld := h.held
  unfold plunderref2_Arena_Do cells_Arena_Reserve cells_ledger_refuse plunderref2_Arena_reserve
  simp only [Int.reduceLT, gt_iff_lt, reduceIte, jn0_inl]
  have hw : wi (R.Most - (R.Held.length : Int)) = R.Most - R.Held.length := wi_in (by omega)
  have hw2 : wi (S.ledger_size - S.ledger_mark) = R.Most - R.Held.length := by rw [h.size, h.mark]; exact hw
  by_cases h2 : c > R.Most - (R.Held.length : Int)
  · right
    refine ⟨?_, ?_, by omega⟩
    · rw [if_neg (by omega), hw2, if_pos h2]; simp
    · rw [if_neg (by omega), hw, if_pos h2]; simp [plunderref2_refused]
  · left
    have hd : ((0 : Nat) : Int) + c.toNat = c := by omega
    have hl := reserve_l (K := K) (n := c) (by omega) c.toNat K 0 R.Held hd (by omega) (by omega)
    simp only [Int.natCast_zero] at hl
    let S1 : T_cells_Arena := { S with ledger_mark := wi (S.ledger_mark + c), cell := S.cell ++ List.replicate c.toNat 0 }
    let R1 : T_plunderref2_Arena := { R with Held := R.Held ++ List.replicate c.toNat 0 }
    have hm1 : wi (S.ledger_mark + c) = ((R.Held ++ List.replicate c.toNat (0 : Int)).length : Int) := by
      rw [h.mark, wi_in (by omega)]; simp; omega
    have hs1 : Same S1 R1 n := ⟨h.size, hm1, by show S.cell ++ _ = _; rw [h.cell], h.log, h.actor, h.on, h.most, by show ((R.Held ++ List.replicate c.toNat (0 : Int)).length : Int) ≤ R.Most; simp; omega, h.book⟩
    obtain ⟨S2, R2, n1, n2, n3, n4, n5, n6⟩ := note_same hs1 hn 4 (R.Held.length : Int) c 0 true
    refine ⟨S2, R2, ?_, ?_, n3, n5, n6, by omega⟩
    · rw [if_neg (by omega), hw2, if_neg h2]
      simp only [ob0_some, ob1_some, if_true, cells_ledger_take, ob2_some]
      rw [if_pos ⟨by omega, by rw [h.cell]; omega⟩, h.mark]
      have n1' : cells_Arena_note { S with ledger_mark := wi ((R.Held.length : Int) + c), cell := S.cell ++ List.replicate c.toNat 0 } 4 (R.Held.length : Int) c 0 true = some S2 := by rw [← h.mark]; rw [← h.mark] at n1; exact n1
      rw [n1']; simp
    · rw [if_neg (by omega), hw, if_neg h2, hl, ob1_some]
      have n2' : plunderref2_Arena_note { R with Held := R.Held ++ List.replicate c.toNat 0 } ⟨R.Actor, 4, (R.Held.length : Int), c, 0, true⟩ = some R2 := n2
      simp only [n2', ob1_some, ob2_some]
theorem store_same {K : Nat} {S : T_cells_Arena} {R : T_plunderref2_Arena} {n : Nat} (h : Same S R n) (hn : n < 1099511627776) (ad v w b : Int) (h0 : 0 ≤ ad) (h1 : ad < (R.Held.length : Int)) :
    ∃ S' R', cells_Arena_Store S ad v = some (0, S') ∧ plunderref2_Arena_Do K R ⟨w, 1, ad, v, b⟩ = some (⟨0, true, 0⟩, R') ∧ Same S' R' (n + 1) ∧ R'.Held = R.Held.set ad.toNat v ∧ R'.Most = R.Most := by
  have hout := outside_eq S ad
  rw [h.mark, show (!(decide (0 ≤ ad ∧ ad < (R.Held.length : Int)))) = false by simp [h0, h1]] at hout
  have hs : Same { S with cell := S.cell.set ad.toNat v } { R with Held := R.Held.set ad.toNat v } n := ⟨h.size, by simp [h.mark], by simp [h.cell], h.log, h.actor, h.on, h.most, by simpa using h.held, h.book⟩
  obtain ⟨S2, R2, n1, n2, n3, n4, n5, n6⟩ := note_same hs hn 1 ad v 0 true
  refine ⟨S2, R2, ?_, ?_, n3, n5, n6⟩
  · unfold cells_Arena_Store
    rw [hout, ob1_some]
    simp only [Bool.false_eq_true, if_false]
    rw [if_pos ⟨h0, by rw [h.cell]; exact h1⟩, n1, ob1_some]
  · unfold plunderref2_Arena_Do
    simp only [Int.reduceLT, gt_iff_lt, Int.reduceEq, reduceIte, jn0_inl]
    rw [if_neg (by omega), if_neg (by omega), jn0_inl, if_pos ⟨h0, h1⟩]
    have n2' : plunderref2_Arena_note { R with Held := R.Held.set ad.toNat v } ⟨R.Actor, 1, ad, v, 0, true⟩ = some R2 := n2
    rw [n2', ob1_some]

end Go.Proofs.Ytnghahgfcaolbaa.Mo
