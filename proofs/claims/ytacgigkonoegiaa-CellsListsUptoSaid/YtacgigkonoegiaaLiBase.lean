/- The moves of CellsLists: what the walk's plain functions answer. No memory is spoken of. -/
import Derived.Test.YtacgigkonoegiaaCl4
namespace Go.Proofs.Ytacgigkonoegiaa.Mo
open Go Go.Proofs.Ytacgigkonoegiaa.SL Go.Proofs.Ytacgigkonoegiaa.GX
set_option linter.unusedVariables false
set_option linter.unusedSimpArgs false

theorem wi1 {g : Int} (h0 : 0 ≤ g) (h1 : g < 4611686018427387904) : wi (g + (1 : Int)) = g + 1 := wi_in (by omega)

/-! ### lists that are compared -/
theorem sameNumbers_l {K : Nat} {a b : List Int} (hab : a.length = b.length) (hl : a.length < 4611686018427387904) : ∀ (d k i : Nat), i + d = a.length → d < k →
    plunderlaw2_sameNumbers_l1 K a b k (i : Int) = some (decide (a.drop i = b.drop i))
  | d, k, i, h, hk => by
    obtain ⟨k, rfl⟩ : ∃ m, k = m + 1 := ⟨k - 1, by omega⟩
    rw [plunderlaw2_sameNumbers_l1]
    by_cases hi : i < a.length
    · have ha : a.drop i = at_ a i :: a.drop (i + 1) := by rw [List.drop_eq_getElem_cons hi]; unfold at_; rw [List.getD_eq_getElem?_getD, List.getElem?_eq_getElem hi]; rfl
      have hb : b.drop i = at_ b i :: b.drop (i + 1) := by rw [List.drop_eq_getElem_cons (by omega)]; unfold at_; rw [List.getD_eq_getElem?_getD, List.getElem?_eq_getElem (show i < b.length by omega)]; rfl
      rw [if_pos (by omega), if_pos ⟨by omega, by omega⟩, if_pos ⟨by omega, by omega⟩, wi1 (by omega) (by omega), Int.toNat_natCast, ha, hb]
      by_cases e : at_ a i = at_ b i
      · rw [if_pos e]
        obtain ⟨d, rfl⟩ : ∃ m, d = m + 1 := ⟨d - 1, by omega⟩
        have := sameNumbers_l (K := K) hab hl d k (i + 1) (by omega) (by omega)
        rw [show ((i : Int) + 1) = ((i + 1 : Nat) : Int) by omega, this, e]
        simp
      · rw [if_neg e]
        simp [e]
    · rw [if_neg (by omega), List.drop_of_length_le (by omega), List.drop_of_length_le (by omega)]
      simp
theorem sameNumbers_eq {K : Nat} {a b : List Int} (hl : a.length < 4611686018427387904) (hK : a.length < K) : plunderlaw2_sameNumbers K a b = some (decide (a = b)) := by
  unfold plunderlaw2_sameNumbers
  by_cases h : a.length = b.length
  · rw [if_pos (by omega)]
    have := sameNumbers_l (K := K) h hl a.length K 0 (by omega) hK
    simpa using this
  · rw [if_neg (by omega)]
    have : ¬ a = b := fun e => h (by rw [e])
    simp [this]
theorem sameLog_l {K : Nat} {a b : List T_api_Access} (hab : a.length = b.length) (hl : a.length < 4611686018427387904) : ∀ (d k i : Nat), i + d = a.length → d < k →
    plunderlaw2_sameLog_l1 K a b k (i : Int) = some (decide (a.drop i = b.drop i))
  | d, k, i, h, hk => by
    obtain ⟨k, rfl⟩ : ∃ m, k = m + 1 := ⟨k - 1, by omega⟩
    rw [plunderlaw2_sameLog_l1]
    by_cases hi : i < a.length
    · have ha : a.drop i = at_ a i :: a.drop (i + 1) := by rw [List.drop_eq_getElem_cons hi]; unfold at_; rw [List.getD_eq_getElem?_getD, List.getElem?_eq_getElem hi]; rfl
      have hb : b.drop i = at_ b i :: b.drop (i + 1) := by rw [List.drop_eq_getElem_cons (by omega)]; unfold at_; rw [List.getD_eq_getElem?_getD, List.getElem?_eq_getElem (show i < b.length by omega)]; rfl
      rw [if_pos (by omega), if_pos ⟨by omega, by omega⟩, if_pos ⟨by omega, by omega⟩, wi1 (by omega) (by omega), Int.toNat_natCast, ha, hb]
      by_cases e : at_ a i = at_ b i
      · rw [if_pos e]
        obtain ⟨d, rfl⟩ : ∃ m, d = m + 1 := ⟨d - 1, by omega⟩
        have := sameLog_l (K := K) hab hl d k (i + 1) (by omega) (by omega)
        rw [show ((i : Int) + 1) = ((i + 1 : Nat) : Int) by omega, this, e]
        simp
      · rw [if_neg e]
        simp [e]
    · rw [if_neg (by omega), List.drop_of_length_le (by omega), List.drop_of_length_le (by omega)]
      simp
theorem sameLog_eq {K : Nat} {a b : List T_api_Access} (hl : a.length < 4611686018427387904) (hK : a.length < K) : plunderlaw2_sameLog K a b = some (decide (a = b)) := by
  unfold plunderlaw2_sameLog
  by_cases h : a.length = b.length
  · rw [if_pos (by omega)]
    have := sameLog_l (K := K) h hl a.length K 0 (by omega) hK
    simpa using this
  · rw [if_neg (by omega)]
    have : ¬ a = b := fun e => h (by rw [e])
    simp [this]

theorem wi_def (x : Int) : wi x = (if 9223372036854775808 ≤ x % 18446744073709551616 then x % 18446744073709551616 - 18446744073709551616 else x % 18446744073709551616) := by
  show IntKind.i64.wrap x = _
  unfold IntKind.wrap
  simp [IntKind.bits, IntKind.signed]
theorem wi_back {a b : Int} (hb : -9223372036854775808 ≤ b ∧ b ≤ 9223372036854775807) : wi (wi (a + b) - a) = b := by
  rw [wi_def (wi (a + b) - a), wi_def]
  split <;> split <;> omega
theorem drop_cons {α : Type} [Inhabited α] {l : List α} {i : Nat} (h : i < l.length) : l.drop i = at_ l i :: l.drop (i + 1) := by
  rw [List.drop_eq_getElem_cons h]; unfold at_; rw [List.getD_eq_getElem?_getD, List.getElem?_eq_getElem h]; rfl
theorem take_put {α : Type} [Inhabited α] {l p : List α} {i : Nat} (h : l.take i = p.take i) (hp : i < p.length) (hl : i < l.length) : (l.set i (at_ p i)).take (i + 1) = p.take (i + 1) := by
  apply List.ext_getElem?
  intro k
  have hk := congrArg (fun x => x[k]?) h
  simp only [List.getElem?_take] at hk ⊢
  by_cases e : k < i
  · rw [if_pos (by omega), if_pos (by omega), List.getElem?_set_ne (by omega)]
    rw [if_pos e, if_pos e] at hk
    exact hk
  · by_cases e2 : k = i
    · subst e2
      rw [if_pos (by omega), if_pos (by omega), List.getElem?_set_self hl, get_at hp]
    · rw [if_neg (by omega), if_neg (by omega)]
theorem of_take {α : Type} {l p : List α} {i : Nat} (h : l.take i = p.take i) (hi : i = p.length) : l = p ++ l.drop p.length := by
  subst hi
  conv => lhs; rw [← List.take_append_drop p.length l, h, List.take_length]

theorem at_app {α : Type} [Inhabited α] {p q : List α} {i : Nat} : at_ (p ++ q) (p.length + i) = at_ q i := by
  unfold at_
  rw [List.getD_eq_getElem?_getD, List.getElem?_append_right (by omega), List.getD_eq_getElem?_getD, show p.length + i - p.length = i by omega]
/-! ### the book -/
theorem at_rep {α : Type} [Inhabited α] {n i : Nat} {x : α} (h : i < n) : at_ (List.replicate n x) i = x := by
  unfold at_; rw [List.getD_eq_getElem?_getD, List.getElem?_replicate, if_pos h]; rfl
def ent (m : Int) : T_api_Access := ⟨-3, 9, -4, m, wi (0 - m), true⟩
def shape (m : Int) (n : Nat) : T_plunderlaw2_kept :=
  ⟨m, List.replicate n m, List.replicate n m ++ [wi (m + 1)], List.replicate n m ++ [wi (m + 2), wi (m + 3)], List.replicate n m ++ [wi (m + 4), wi (m + 5), wi (m + 6)]⟩
def shapeA (m : Int) (n : Nat) : T_plunderlaw2_noted :=
  ⟨m, (shape m n).l.map ent, (shape m n).g1.map ent, (shape m n).g2.map ent, (shape m n).g3.map ent⟩
theorem numbers_l1 {K n : Nat} {p1 : List Int} {r : Int} (hn : p1.length = n) (hl : n < 4611686018427387904) : ∀ (d k i : Nat) (l : List Int), l.length = n → l.take i = (List.replicate n r).take i → i + d = n → d < k →
    plunderlaw2_book_numbers_l1 K p1 r k l (i : Int) = some (List.replicate n r)
  | d, k, i, l, hll, ht, h, hk => by
    obtain ⟨k, rfl⟩ : ∃ m, k = m + 1 := ⟨k - 1, by omega⟩
    rw [plunderlaw2_book_numbers_l1]
    by_cases hi : i < n
    · obtain ⟨d, rfl⟩ : ∃ m, d = m + 1 := ⟨d - 1, by omega⟩
      rw [if_pos (by omega), if_pos ⟨by omega, by omega⟩, wi1 (by omega) (by omega), Int.toNat_natCast, show ((i : Int) + 1) = ((i + 1 : Nat) : Int) by omega]
      have := take_put (l := l) (p := List.replicate n r) ht (by simpa using hi) (by omega)
      rw [at_rep hi] at this
      exact numbers_l1 hn hl d k (i + 1) _ (by rw [List.length_set]; exact hll) this (by omega) (by omega)
    · rw [if_neg (by omega)]
      have := of_take ht (by simp <;> omega)
      rw [this, List.drop_of_length_le (by simp <;> omega), List.append_nil]
theorem numbers_l2 {K : Nat} {r : Int} : ∀ (d k i : Nat) (l : List Int), i + d = 64 → d < k → l.length ≤ 1099511627776 + i → plunderlaw2_book_numbers_l2 K r k l (i : Int) = some ()
  | d, k, i, l, h, hk, hl => by
    obtain ⟨k, rfl⟩ : ∃ m, k = m + 1 := ⟨k - 1, by omega⟩
    rw [plunderlaw2_book_numbers_l2]
    by_cases hi : i < 64
    · obtain ⟨d, rfl⟩ : ∃ m, d = m + 1 := ⟨d - 1, by omega⟩
      rw [if_pos (by omega), if_pos (by omega), wi1 (by omega) (by omega), show ((i : Int) + 1) = ((i + 1 : Nat) : Int) by omega]
      exact numbers_l2 d k (i + 1) _ (by omega) (by omega) (by rw [List.length_append]; simp; omega)
    · rw [if_neg (by omega)]
theorem numbers_eq {K : Nat} (hK : 1048640 < K) (b : T_plunderlaw2_book) {l : List Int} (hl : l.length ≤ 1048576) (hn : b.numberLists.length ≤ 1099511627776) :
    ∃ m x, plunderlaw2_book_numbers K b l = some { b with next := x, numberLists := b.numberLists ++ [shape m l.length] } := by
  unfold plunderlaw2_book_numbers plunderlaw2_book_mark
  simp only [ob2_some]
  generalize hr : wi ((wi ((1000003 : Int) * (wi (b.next + (16 : Int))))) + (7 : Int)) = r
  have h1 := numbers_l1 (K := K) (p1 := l) (n := l.length) (r := r) rfl (by omega) l.length K 0 l rfl rfl (by omega) (by omega)
  simp only [Int.natCast_zero] at h1
  rw [h1, ob1_some, if_pos (by simp <;> omega)]
  have h3 := numbers_l2 (K := K) (r := r) 63 K 1 (List.replicate l.length r ++ [wi (r + (7 : Int))]) (by omega) (by omega) (by simp <;> omega)
  simp only [Int.natCast_one] at h3
  rw [h3, ob0_some, if_pos (by simp <;> omega), if_pos (by simp <;> omega), if_pos (by simp <;> omega), if_pos (by show (b.numberLists.length + 1) * 104 ≤ _; omega)]
  exact ⟨r, _, rfl⟩
theorem accesses_l1 {K n : Nat} {p1 : List T_api_Access} {r : Int} (hn : p1.length = n) (hl : n < 4611686018427387904) : ∀ (d k i : Nat) (l : List T_api_Access), l.length = n → l.take i = (List.replicate n (ent r)).take i → i + d = n → d < k →
    plunderlaw2_book_accesses_l1 K p1 r k l (i : Int) = some (List.replicate n (ent r))
  | d, k, i, l, hll, ht, h, hk => by
    obtain ⟨k, rfl⟩ : ∃ m, k = m + 1 := ⟨k - 1, by omega⟩
    rw [plunderlaw2_book_accesses_l1]
    by_cases hi : i < n
    · obtain ⟨d, rfl⟩ : ∃ m, d = m + 1 := ⟨d - 1, by omega⟩
      rw [if_pos (by omega), plunderlaw2_entry, ob1_some, if_pos ⟨by omega, by omega⟩, wi1 (by omega) (by omega), Int.toNat_natCast, show ((i : Int) + 1) = ((i + 1 : Nat) : Int) by omega]
      have := take_put (l := l) (p := List.replicate n (ent r)) ht (by simpa using hi) (by omega)
      rw [at_rep hi] at this
      exact accesses_l1 hn hl d k (i + 1) _ (by rw [List.length_set]; exact hll) this (by omega) (by omega)
    · rw [if_neg (by omega)]
      have := of_take ht (by simp <;> omega)
      rw [this, List.drop_of_length_le (by simp <;> omega), List.append_nil]
theorem accesses_l2 {K : Nat} {r : Int} : ∀ (d k i : Nat) (l : List T_api_Access), i + d = 64 → d < k → l.length ≤ 1099511627776 + i → plunderlaw2_book_accesses_l2 K r k l (i : Int) = some ()
  | d, k, i, l, h, hk, hl => by
    obtain ⟨k, rfl⟩ : ∃ m, k = m + 1 := ⟨k - 1, by omega⟩
    rw [plunderlaw2_book_accesses_l2]
    by_cases hi : i < 64
    · obtain ⟨d, rfl⟩ : ∃ m, d = m + 1 := ⟨d - 1, by omega⟩
      rw [if_pos (by omega), plunderlaw2_entry, ob1_some, if_pos (by omega), wi1 (by omega) (by omega), show ((i : Int) + 1) = ((i + 1 : Nat) : Int) by omega]
      exact accesses_l2 d k (i + 1) _ (by omega) (by omega) (by rw [List.length_append]; simp; omega)
    · rw [if_neg (by omega)]
theorem accesses_eq {K : Nat} (hK : 4000000 < K) (b : T_plunderlaw2_book) {l : List T_api_Access} (hl : l.length ≤ 2097152) (hn : b.accessLists.length ≤ 1099511627776) :
    ∃ m x, plunderlaw2_book_accesses K b l = some { b with next := x, accessLists := b.accessLists ++ [shapeA m l.length] } := by
  unfold plunderlaw2_book_accesses plunderlaw2_book_mark
  simp only [ob2_some]
  generalize hr : wi ((wi ((1000003 : Int) * (wi (b.next + (16 : Int))))) + (7 : Int)) = r
  have h1 := accesses_l1 (K := K) (p1 := l) (n := l.length) (r := r) rfl (by omega) l.length K 0 l rfl rfl (by omega) (by omega)
  simp only [Int.natCast_zero] at h1
  rw [h1, ob1_some]
  simp only [plunderlaw2_entry, ob1_some]
  rw [if_pos (by simp <;> omega)]
  have h3 := fun x => accesses_l2 (K := K) (r := r) 63 K 1 (List.replicate l.length (ent r) ++ [x]) (by omega) (by omega) (by simp <;> omega)
  simp only [Int.natCast_one] at h3
  rw [h3, ob0_some, if_pos (by simp <;> omega), if_pos (by simp <;> omega), if_pos (by simp <;> omega), if_pos (by show (b.accessLists.length + 1) * 104 ≤ _; omega)]
  exact ⟨r, wi (b.next + 16), by simp [shapeA, shape, ent]⟩
theorem full_l {K n : Nat} {g : List Int} {m : Int} (hn : n < 4611686018427387904) (hg : n ≤ g.length) (hm : ∀ i, i < n → at_ g i = m) : ∀ (d k i : Nat), i + d = n → d < k → plunderlaw2_full_l1 K g (n : Int) m k (i : Int) = some true
  | d, k, i, h, hk => by
    obtain ⟨k, rfl⟩ : ∃ m, k = m + 1 := ⟨k - 1, by omega⟩
    rw [plunderlaw2_full_l1]
    by_cases hi : i < n
    · obtain ⟨d, rfl⟩ : ∃ m, d = m + 1 := ⟨d - 1, by omega⟩
      rw [if_pos (by omega), if_pos ⟨by omega, by omega⟩, Int.toNat_natCast, if_pos (hm i hi), wi1 (by omega) (by omega), show ((i : Int) + 1) = ((i + 1 : Nat) : Int) by omega]
      exact full_l hn hg hm d k (i + 1) (by omega) (by omega)
    · rw [if_neg (by omega)]
theorem full_eq {K n : Nat} {m : Int} (hn : n ≤ 2097152) (hK : 4000000 < K) (q : List Int) : plunderlaw2_full K (List.replicate n m ++ q) (n : Int) m = some true := by
  unfold plunderlaw2_full
  rw [if_neg (by simp <;> omega)]
  have := full_l (K := K) (n := n) (g := List.replicate n m ++ q) (m := m) (by omega) (by simp) (fun i hi => by rw [at_append_left (by simpa using hi), at_rep hi]) n K 0 (by omega) (by omega)
  simpa using this
theorem at_repapp {n i : Nat} {m : Int} {q : List Int} : at_ (List.replicate n m ++ q) (n + i) = at_ q i := by
  have := at_app (p := List.replicate n m) (q := q) (i := i)
  rwa [List.length_replicate] at this
theorem stand_eq {K n : Nat} {m : Int} (hn : n ≤ 2097152) (hK : 4000000 < K) : plunderlaw2_stand K (shape m n) = some true := by
  have f0 := full_eq (K := K) (m := m) hn hK []
  rw [List.append_nil] at f0
  have w1 : wi ((n : Int) + (1 : Int)) = (n : Int) + 1 := wi_in (by omega)
  have w2 : wi ((n : Int) + (2 : Int)) = (n : Int) + 2 := wi_in (by omega)
  have w3 : wi ((n : Int) + (3 : Int)) = (n : Int) + 3 := wi_in (by omega)
  have n1 : ((n : Int) + 1).toNat = n + 1 := by omega
  have n2 : ((n : Int) + 2).toNat = n + 2 := by omega
  have b1 : wi (wi (m + 1) - m) = 1 := wi_back (by decide)
  have b2 : wi (wi (m + 2) - m) = 2 := wi_back (by decide)
  have b3 : wi (wi (m + 3) - m) = 3 := wi_back (by decide)
  have a0 : ∀ q : List Int, at_ (List.replicate n m ++ q) n = at_ q 0 := fun q => at_repapp (i := 0)
  unfold plunderlaw2_stand shape
  simp only [List.length_replicate]
  rw [f0, ob1_some, if_pos rfl, full_eq hn hK, ob1_some, if_pos rfl, full_eq hn hK, ob1_some, if_pos rfl, full_eq hn hK, ob1_some, if_pos rfl, jn0_inl, w1, w2, w3,
    if_pos (by simp), if_pos (by simp), if_pos (by simp), jn0_inl, if_pos ⟨by omega, by simp <;> omega⟩, if_pos ⟨by omega, by simp <;> omega⟩, if_pos ⟨by omega, by simp <;> omega⟩, Int.toNat_natCast, n1, n2]
  rw [a0, a0, a0, at_repapp, at_repapp, at_repapp]
  rw [if_pos (show wi (at_ [wi (m + 1)] 0 - m) = 1 from b1), if_pos (show wi (at_ [wi (m + 2), wi (m + 3)] 0 - m) = 2 from b2), if_pos (show wi (at_ [wi (m + 2), wi (m + 3)] 1 - m) = 3 from b3), jn0_inl,
    if_pos ⟨by omega, by simp <;> omega⟩, if_pos (show at_ [wi (m + 4), wi (m + 5), wi (m + 6)] 0 = wi (m + 4) from rfl), if_pos ⟨by omega, by simp <;> omega⟩, if_pos (show at_ [wi (m + 4), wi (m + 5), wi (m + 6)] 1 = wi (m + 5) from rfl), if_pos ⟨by omega, by simp <;> omega⟩]
  exact congrArg some (beq_self_eq_true (wi (m + 6)))
theorem plain_l {K : Nat} {xs : List Int} (hl : xs.length ≤ 4194304) : ∀ (d k i : Nat) (l : List Int), i + d = xs.length → d < k → l.length = i → plunderlaw2_plain_l1 K (xs.map ent) k l (i : Int) = some (l ++ xs.drop i)
  | d, k, i, l, h, hk, hll => by
    obtain ⟨k, rfl⟩ : ∃ m, k = m + 1 := ⟨k - 1, by omega⟩
    rw [plunderlaw2_plain_l1]
    by_cases hi : i < xs.length
    · obtain ⟨d, rfl⟩ : ∃ m, d = m + 1 := ⟨d - 1, by omega⟩
      have ha : at_ (xs.map ent) i = ent (at_ xs i) := by
        unfold at_; rw [List.getD_eq_getElem?_getD, List.getD_eq_getElem?_getD, List.getElem?_map, List.getElem?_eq_getElem hi]; rfl
      rw [if_pos (by simp <;> omega), if_pos ⟨by omega, by simp <;> omega⟩, Int.toNat_natCast, ha, plunderlaw2_entry, ob1_some, if_pos (show ent (at_ xs i) = ⟨-3, 9, -4, (ent (at_ xs i)).A, wi (0 - (ent (at_ xs i)).A), true⟩ from rfl), if_pos (by omega), wi1 (by omega) (by omega), show ((i : Int) + 1) = ((i + 1 : Nat) : Int) by omega,
        plain_l hl d k (i + 1) _ (by omega) (by omega) (by simp <;> omega), drop_cons hi, List.append_assoc]
      rfl
    · rw [if_neg (by simp <;> omega), List.drop_of_length_le (by omega), List.append_nil]
theorem plain_eq {K : Nat} {xs : List Int} (hl : xs.length ≤ 3000000) (hK : 4000000 < K) : plunderlaw2_plain K (xs.map ent) = some xs := by
  unfold plunderlaw2_plain
  have := plain_l (K := K) (xs := xs) (by omega) xs.length K 0 [] (by omega) (by omega) rfl
  simpa using this
theorem stands_l1 {K : Nat} {b : T_plunderlaw2_book} (hK : 4000000 < K) (hb : b.numberLists.length ≤ 1048576) (hs : ∀ x ∈ b.numberLists, ∃ m n, n ≤ 2097152 ∧ x = shape m n) : ∀ (d k i : Nat), i + d = b.numberLists.length → d < k →
    plunderlaw2_book_stands_l1 K b k (i : Int) = some (.inl ())
  | d, k, i, h, hk => by
    obtain ⟨k, rfl⟩ : ∃ m, k = m + 1 := ⟨k - 1, by omega⟩
    rw [plunderlaw2_book_stands_l1]
    by_cases hi : i < b.numberLists.length
    · obtain ⟨d, rfl⟩ : ∃ m, d = m + 1 := ⟨d - 1, by omega⟩
      obtain ⟨m, n, hn, hx⟩ := hs _ (List.mem_of_getElem? (get_at hi))
      rw [if_pos (by omega), if_pos ⟨by omega, by omega⟩, Int.toNat_natCast, hx, stand_eq hn hK, ob1_some, if_pos rfl, wi1 (by omega) (by omega), show ((i : Int) + 1) = ((i + 1 : Nat) : Int) by omega]
      exact stands_l1 hK hb hs d k (i + 1) (by omega) (by omega)
    · rw [if_neg (by omega)]
theorem stands_l2 {K : Nat} {b : T_plunderlaw2_book} (hK : 4000000 < K) (hb : b.accessLists.length ≤ 1048576) (hs : ∀ x ∈ b.accessLists, ∃ m n, n ≤ 2097152 ∧ x = shapeA m n) : ∀ (d k i : Nat), i + d = b.accessLists.length → d < k →
    plunderlaw2_book_stands_l2 K b k (i : Int) = some true
  | d, k, i, h, hk => by
    obtain ⟨k, rfl⟩ : ∃ m, k = m + 1 := ⟨k - 1, by omega⟩
    rw [plunderlaw2_book_stands_l2]
    by_cases hi : i < b.accessLists.length
    · obtain ⟨d, rfl⟩ : ∃ m, d = m + 1 := ⟨d - 1, by omega⟩
      obtain ⟨m, n, hn, hx⟩ := hs _ (List.mem_of_getElem? (get_at hi))
      rw [if_pos (by omega), if_pos ⟨by omega, by omega⟩, Int.toNat_natCast, hx]
      simp only [shapeA]
      rw [plain_eq (by simp [shape]; omega) hK, ob1_some, plain_eq (by simp [shape]; omega) hK, ob1_some, plain_eq (by simp [shape]; omega) hK, ob1_some, plain_eq (by simp [shape]; omega) hK, ob1_some,
        show (⟨m, (shape m n).l, (shape m n).g1, (shape m n).g2, (shape m n).g3⟩ : T_plunderlaw2_kept) = shape m n from rfl, stand_eq hn hK, ob1_some, if_pos rfl, wi1 (by omega) (by omega), show ((i : Int) + 1) = ((i + 1 : Nat) : Int) by omega]
      exact stands_l2 hK hb hs d k (i + 1) (by omega) (by omega)
    · rw [if_neg (by omega)]
theorem stands_eq {K : Nat} {b : T_plunderlaw2_book} (hK : 4000000 < K) (h1 : b.numberLists.length ≤ 1048576) (h2 : b.accessLists.length ≤ 1048576) (hs : ∀ x ∈ b.numberLists, ∃ m n, n ≤ 2097152 ∧ x = shape m n) (ht : ∀ x ∈ b.accessLists, ∃ m n, n ≤ 2097152 ∧ x = shapeA m n) :
    plunderlaw2_book_stands K b = some true := by
  unfold plunderlaw2_book_stands
  have a := stands_l1 hK h1 hs b.numberLists.length K 0 (by omega) (by omega)
  have c := stands_l2 hK h2 ht b.accessLists.length K 0 (by omega) (by omega)
  simp only [Int.natCast_zero] at a c
  rw [a, jn0_inl, c]

/-! ### the program's arena and the document's -/
structure Same (S : T_cells_Arena) (R : T_plunderref2_Arena) (n : Nat) : Prop where
  size : S.ledger_size = R.Most
  mark : S.ledger_mark = (R.Held.length : Int)
  cell : S.cell = R.Held
  log : S.log = R.Book
  actor : S.actor = R.Actor
  on : S.watched = R.On
  most : R.Most ≤ 1048576
  held : (R.Held.length : Int) ≤ R.Most
  book : R.Book.length ≤ n
theorem Same.up {S : T_cells_Arena} {R : T_plunderref2_Arena} {n m : Nat} (h : Same S R n) (k : n ≤ m) : Same S R m := { h with book := Nat.le_trans h.book k }

theorem note_same {S : T_cells_Arena} {R : T_plunderref2_Arena} {n : Nat} (h : Same S R n) (hn : n < 1099511627776) (k i x y : Int) (ok : Bool) :
    ∃ S' R', cells_Arena_note S k i x y ok = some S' ∧ plunderref2_Arena_note R ⟨R.Actor, k, i, x, y, ok⟩ = some R' ∧ Same S' R' (n + 1) ∧ S'.cell = S.cell ∧ R'.Held = R.Held ∧ R'.Most = R.Most := by
  unfold cells_Arena_note plunderref2_Arena_note
  have hb := h.book
  by_cases ho : R.On = true
  · rw [if_pos (by rw [h.on]; exact ho), if_pos ho, if_pos (by rw [h.log]; omega), if_pos (by omega)]
    exact ⟨_, _, rfl, rfl, ⟨h.size, h.mark, h.cell, by simp [h.log, h.actor], h.actor, h.on, h.most, h.held, by simp; omega⟩, rfl, rfl, rfl⟩
  · rw [if_neg (by rw [h.on]; exact ho), if_neg ho]
    exact ⟨_, _, rfl, rfl, h.up (Nat.le_succ n), rfl, rfl, rfl⟩
theorem reserve_l {K : Nat} {n : Int} (hn : n ≤ 1048576) : ∀ (d k i : Nat) (l : List Int), (i : Int) + d = n → d < k → l.length ≤ 2097152 + i → plunderref2_Arena_reserve_l1 K n k l (i : Int) = some (l ++ List.replicate d 0)
  | d, k, i, l, h, hk, hl => by
    obtain ⟨k, rfl⟩ : ∃ m, k = m + 1 := ⟨k - 1, by omega⟩
    rw [plunderref2_Arena_reserve_l1]
    by_cases hi : (i : Int) < n
    · obtain ⟨d, rfl⟩ : ∃ m, d = m + 1 := ⟨d - 1, by omega⟩
      rw [if_pos hi, if_pos (by omega), wi1 (by omega) (by omega), show ((i : Int) + 1) = ((i + 1 : Nat) : Int) by omega, reserve_l hn d k (i + 1) _ (by omega) (by omega) (by rw [List.length_append]; simp; omega)]
      rw [List.append_assoc, List.replicate_succ]; rfl
    · obtain rfl : d = 0 := by omega
      rw [if_neg hi]; simp
theorem outside_eq (S : T_cells_Arena) (i : Int) : cells_Arena_outside S i = some (!(decide (0 ≤ i ∧ i < S.ledger_mark))) := by
  unfold cells_Arena_outside cells_ledger_has
  by_cases h : i ≥ 0
  · rw [if_pos h, ob1_some]; simp [h]
  · rw [if_neg h, ob1_some]; simp [h]

/-- An access on both. -/
theorem done_same {K : Nat} (hK : 4000000 < K) {S : T_cells_Arena} {R : T_plunderref2_Arena} {n : Nat} (h : Same S R n) (hn : n < 1099511627776) (m : T_plunderlaw2_Move) (h0 : 0 ≤ m.Kind) (h4 : m.Kind ≤ 4) :
    ∃ e S' R', plunderlaw2_done S m = some (e, S') ∧ plunderref2_Arena_Do K R ⟨0, m.Kind, m.Addr, m.A, m.B⟩ = some (e, R') ∧ Same S' R' (n + 1) ∧ R'.Most = R.Most := by
  unfold plunderref2_Arena_Do
  simp only []
  rw [if_neg (by omega), if_neg (by omega), jn0_inl]
  have hmost := h.most
  have hheld := h.held
  by_cases hk4 : m.Kind = 4
  · -- Reserve
    unfold plunderlaw2_done
    rw [if_neg (by omega), if_neg (by omega), if_neg (by omega), if_neg (by omega), if_pos hk4]
    unfold cells_Arena_Reserve cells_ledger_refuse plunderref2_Arena_reserve
    by_cases h1 : m.A < 1
    · refine ⟨⟨0, false, 21⟩, S, R, ?_, ?_, h.up (Nat.le_succ n), rfl⟩
      · rw [if_pos h1]; simp
      · rw [if_pos h1]; simp [plunderref2_refused]
    · have hw : wi (R.Most - (R.Held.length : Int)) = R.Most - R.Held.length := wi_in (by omega)
      have hw2 : wi (S.ledger_size - S.ledger_mark) = R.Most - R.Held.length := by rw [h.size, h.mark]; exact hw
      by_cases h2 : m.A > R.Most - (R.Held.length : Int)
      · refine ⟨⟨0, false, 22⟩, S, R, ?_, ?_, h.up (Nat.le_succ n), rfl⟩
        · rw [if_neg h1, hw2, if_pos h2]; simp
        · rw [if_neg h1, hw, if_pos h2]; simp [plunderref2_refused]
      · have hd : ((0 : Nat) : Int) + m.A.toNat = m.A := by omega
        have hl := reserve_l (K := K) (n := m.A) (by omega) m.A.toNat K 0 R.Held hd (by omega) (by omega)
        simp only [Int.natCast_zero] at hl
        let S1 : T_cells_Arena := { S with ledger_mark := wi (S.ledger_mark + m.A), cell := S.cell ++ List.replicate m.A.toNat 0 }
        let R1 : T_plunderref2_Arena := { R with Held := R.Held ++ List.replicate m.A.toNat 0 }
        have hm1 : wi (S.ledger_mark + m.A) = ((R.Held ++ List.replicate m.A.toNat (0 : Int)).length : Int) := by
          rw [h.mark, wi_in (by omega)]; simp; omega
        have hs1 : Same S1 R1 n := ⟨h.size, hm1, by show S.cell ++ _ = _; rw [h.cell], h.log, h.actor, h.on, h.most, by show ((R.Held ++ List.replicate m.A.toNat (0 : Int)).length : Int) ≤ R.Most; simp; omega, h.book⟩
        obtain ⟨S2, R2, n1, n2, n3, n4, n5, n6⟩ := note_same hs1 hn 4 (R.Held.length : Int) m.A 0 true
        refine ⟨⟨(R.Held.length : Int), true, 0⟩, S2, R2, ?_, ?_, n3, n6⟩
        · rw [if_neg h1, hw2, if_neg h2]
          simp only [ob0_some, ob1_some, if_true, cells_ledger_take, ob2_some]
          rw [if_pos ⟨by omega, by rw [h.cell]; omega⟩, h.mark]
          have n1' : cells_Arena_note { S with ledger_mark := wi ((R.Held.length : Int) + m.A), cell := S.cell ++ List.replicate m.A.toNat 0 } 4 (R.Held.length : Int) m.A 0 true = some S2 := by rw [← h.mark]; rw [← h.mark] at n1; exact n1
          rw [n1']; simp
        · rw [if_neg h1, hw, if_neg h2, hl, ob1_some]
          have n2' : plunderref2_Arena_note { R with Held := R.Held ++ List.replicate m.A.toNat 0 } ⟨R.Actor, 4, (R.Held.length : Int), m.A, 0, true⟩ = some R2 := n2
          simp only [if_pos hk4, n2', ob1_some, ob2_some]
  · -- the accesses
    rw [if_neg hk4]
    have hout := outside_eq S m.Addr
    rw [h.mark] at hout
    by_cases hin : 0 ≤ m.Addr ∧ m.Addr < (R.Held.length : Int)
    · have hin' : inr_ m.Addr S.cell.length := by rw [h.cell]; exact hin
      have hin2 : inr_ m.Addr R.Held.length := hin
      rw [show (!(decide (0 ≤ m.Addr ∧ m.Addr < (R.Held.length : Int)))) = false by simp [hin]] at hout
      rw [if_neg (by omega), if_neg (by omega), jn0_inl, if_pos hin2]
      have hlt : m.Addr.toNat < R.Held.length := by omega
      have setS : ∀ v, Same { S with cell := S.cell.set m.Addr.toNat v } { R with Held := R.Held.set m.Addr.toNat v } n := fun v =>
        ⟨h.size, by simp [h.mark], by simp [h.cell], h.log, h.actor, h.on, h.most, by simpa using h.held, h.book⟩
      unfold plunderlaw2_done
      by_cases k0 : m.Kind = 0
      · rw [if_pos k0, if_pos k0]
        obtain ⟨S2, R2, n1, n2, n3, n4, n5, n6⟩ := note_same h hn 0 m.Addr (at_ R.Held m.Addr.toNat) 0 true
        refine ⟨⟨at_ R.Held m.Addr.toNat, true, 0⟩, S2, R2, ?_, ?_, n3, n6⟩
        · unfold cells_Arena_Load
          rw [hout, ob1_some]
          simp only [Bool.false_eq_true, if_false, h.cell, if_pos hin2, n1, ob1_some, ob3_some]
          try simp
        · simp only [k0, n2, ob1_some]
      · rw [if_neg k0, if_neg k0]
        by_cases k1 : m.Kind = 1
        · rw [if_pos k1, if_pos k1]
          obtain ⟨S2, R2, n1, n2, n3, n4, n5, n6⟩ := note_same (setS m.A) hn 1 m.Addr m.A 0 true
          refine ⟨⟨0, true, 0⟩, S2, R2, ?_, ?_, n3, n6⟩
          · unfold cells_Arena_Store
            rw [hout, ob1_some]
            simp only [Bool.false_eq_true, if_false, if_pos hin', n1, ob1_some, ob2_some]
            try simp
          · simp only [k1, n2, ob1_some]
        · rw [if_neg k1, if_neg k1]
          by_cases k2 : m.Kind = 2
          · rw [if_pos k2, if_pos k2]
            by_cases hc : at_ R.Held m.Addr.toNat = m.A
            · obtain ⟨S2, R2, n1, n2, n3, n4, n5, n6⟩ := note_same (setS m.B) hn 2 m.Addr m.A m.B (at_ R.Held m.Addr.toNat == m.A)
              refine ⟨⟨0, at_ R.Held m.Addr.toNat == m.A, 0⟩, S2, R2, ?_, ?_, n3, n6⟩
              · unfold cells_Arena_CAS
                rw [hout, ob1_some]
                have n1' := n1
                simp only [h.cell] at n1'
                simp only [Bool.false_eq_true, if_false, h.cell, if_pos hin2, if_pos hc, n1', ob1_some, ob3_some]
              · rw [if_pos hc]; simp only [k2, n2, ob1_some]
            · obtain ⟨S2, R2, n1, n2, n3, n4, n5, n6⟩ := note_same h hn 2 m.Addr m.A m.B (at_ R.Held m.Addr.toNat == m.A)
              refine ⟨⟨0, at_ R.Held m.Addr.toNat == m.A, 0⟩, S2, R2, ?_, ?_, n3, n6⟩
              · unfold cells_Arena_CAS
                rw [hout, ob1_some]
                simp only [Bool.false_eq_true, if_false, h.cell, if_pos hin2, if_neg hc, n1, ob1_some, ob3_some]
              · rw [if_neg hc]; simp only [k2, n2, ob1_some]
          · rw [if_neg k2, if_neg k2]
            have k3 : m.Kind = 3 := by omega
            rw [if_pos k3]
            obtain ⟨S2, R2, n1, n2, n3, n4, n5, n6⟩ := note_same (setS (wi (at_ R.Held m.Addr.toNat + m.A))) hn 3 m.Addr m.A (wi (at_ R.Held m.Addr.toNat + m.A)) true
            refine ⟨⟨wi (at_ R.Held m.Addr.toNat + m.A), true, 0⟩, S2, R2, ?_, ?_, n3, n6⟩
            · unfold cells_Arena_Add
              rw [hout, ob1_some]
              have n1' := n1
              simp only [h.cell] at n1'
              have hin3 : inr_ m.Addr (R.Held.set m.Addr.toNat (wi (at_ R.Held m.Addr.toNat + m.A))).length := by rw [List.length_set]; exact hin
              have hin4 : inr_ m.Addr S2.cell.length := by rw [n4]; simp only [h.cell, List.length_set]; exact hin
              have hat : at_ S2.cell m.Addr.toNat = wi (at_ R.Held m.Addr.toNat + m.A) := by rw [n4]; simp only [h.cell]; exact at_set_same hlt
              simp only [Bool.false_eq_true, if_false, h.cell, if_pos hin2, if_pos hin3, n1', ob1_some, if_pos hin4, hat, ob3_some]
              try simp
            · simp only [k3, n2, ob1_some]
    · rw [show (!(decide (0 ≤ m.Addr ∧ m.Addr < (R.Held.length : Int)))) = true by simp [hin]] at hout
      refine ⟨⟨0, false, 20⟩, S, R, ?_, ?_, h.up (Nat.le_succ n), rfl⟩
      · unfold plunderlaw2_done
        by_cases k0 : m.Kind = 0
        · rw [if_pos k0]; unfold cells_Arena_Load; rw [hout]; simp
        · rw [if_neg k0]
          by_cases k1 : m.Kind = 1
          · rw [if_pos k1]; unfold cells_Arena_Store; rw [hout]; simp
          · rw [if_neg k1]
            by_cases k2 : m.Kind = 2
            · rw [if_pos k2]; unfold cells_Arena_CAS; rw [hout]; simp
            · rw [if_neg k2, if_pos (show m.Kind = 3 by omega)]; unfold cells_Arena_Add; rw [hout]; simp
      · by_cases hneg : m.Addr < 0
        · rw [if_pos hneg]; simp [plunderref2_refused]
        · rw [if_neg hneg, if_pos (by omega)]; simp [plunderref2_refused]
theorem mod2 (x : Int) : ∃ r, plunderlaw2_mod x 2 = some r := by
  unfold plunderlaw2_mod
  rw [if_pos (by decide)]
  split
  · exact ⟨_, rfl⟩
  · exact ⟨_, rfl⟩
theorem cells_eq {S : T_cells_Arena} (h : S.cell.length ≤ 1099511627776) : cells_Arena_Cells S = some S.cell := by
  unfold cells_Arena_Cells
  rw [if_pos ⟨by omega, by omega⟩, if_pos (by simp)]
theorem log_eq {S : T_cells_Arena} (h : S.log.length ≤ 1099511627776) : cells_Arena_Log S = some S.log := by
  unfold cells_Arena_Log
  rw [if_pos ⟨by omega, by omega⟩, if_pos (by simp)]
/-- The book has room. -/
def Room (b : T_plunderlaw2_book) (n : Nat) : Prop := b.numberLists.length ≤ n ∧ b.accessLists.length ≤ n ∧ (∀ x ∈ b.numberLists, ∃ m k, k ≤ 2097152 ∧ x = shape m k) ∧ (∀ x ∈ b.accessLists, ∃ m k, k ≤ 2097152 ∧ x = shapeA m k)
theorem numbers_room {K : Nat} (hK : 1048640 < K) {b : T_plunderlaw2_book} {l : List Int} (hl : l.length ≤ 1048576) {c : Nat} (hb : Room b c) (hc : c ≤ 1099511627776) : ∃ b', plunderlaw2_book_numbers K b l = some b' ∧ Room b' (c + 1) := by
  obtain ⟨m, x, e⟩ := numbers_eq hK b hl (Nat.le_trans hb.1 hc)
  refine ⟨_, e, ⟨?_, Nat.le_succ_of_le hb.2.1, fun y hy => ?_, hb.2.2.2⟩⟩
  · show (b.numberLists ++ [_]).length ≤ c + 1
    have := hb.1
    simp; omega
  · have hy : y ∈ b.numberLists ++ [shape m l.length] := hy
    rcases List.mem_append.1 hy with hy | hy
    · exact hb.2.2.1 y hy
    · simp at hy; exact ⟨m, l.length, by omega, hy⟩
theorem accesses_room {K : Nat} (hK : 4000000 < K) {b : T_plunderlaw2_book} {l : List T_api_Access} (hl : l.length ≤ 2097152) {c : Nat} (hb : Room b c) (hc : c ≤ 1099511627776) : ∃ b', plunderlaw2_book_accesses K b l = some b' ∧ Room b' (c + 1) := by
  obtain ⟨m, x, e⟩ := accesses_eq hK b hl (Nat.le_trans hb.2.1 hc)
  refine ⟨_, e, ⟨Nat.le_succ_of_le hb.1, ?_, hb.2.2.1, fun y hy => ?_⟩⟩
  · show (b.accessLists ++ [_]).length ≤ c + 1
    have := hb.2.1
    simp; omega
  · have hy : y ∈ b.accessLists ++ [shapeA m l.length] := hy
    rcases List.mem_append.1 hy with hy | hy
    · exact hb.2.2.2 y hy
    · simp at hy; exact ⟨m, l.length, by omega, hy⟩
theorem Room.stands {K : Nat} (hK : 4000000 < K) {b : T_plunderlaw2_book} {c : Nat} (hb : Room b c) (hc : c ≤ 1048576) : plunderlaw2_book_stands K b = some true :=
  stands_eq hK (Nat.le_trans hb.1 hc) (Nat.le_trans hb.2.1 hc) hb.2.2.1 hb.2.2.2
theorem room0 : Room ⟨([] : List T_plunderlaw2_kept), ([] : List T_plunderlaw2_noted), 0⟩ 0 := ⟨Nat.le_refl _, Nat.le_refl _, fun x hx => by simp at hx, fun x hx => by simp at hx⟩
/-- One move. -/
theorem plays_same {K : Nat} (hK : 4000000 < K) {S : T_cells_Arena} {R : T_plunderref2_Arena} {n : Nat} (h : Same S R n) (hn : n ≤ 1048576) (m : T_plunderlaw2_Move) {b : T_plunderlaw2_book} {c : Nat} (hb : Room b c) (hc : c ≤ 1099511627776) :
    ∃ S' R' b', plunderlaw2_plays K S R m b = some (true, S', R', b') ∧ Same S' R' (n + 1) ∧ R'.Most = R.Most ∧ Room b' (c + 1) := by
  have hmost := h.most
  have hheld := h.held
  have hbook := h.book
  have hb1 : Room b (c + 1) := ⟨Nat.le_succ_of_le hb.1, Nat.le_succ_of_le hb.2.1, hb.2.2⟩
  unfold plunderlaw2_plays
  by_cases hk : 0 ≤ m.Kind ∧ m.Kind ≤ 4
  · obtain ⟨e, S', R', d1, d2, d3, d4⟩ := done_same hK h (by omega) m hk.1 hk.2
    refine ⟨S', R', b, ?_, d3, d4, hb1⟩
    rw [if_pos (show m.Kind ≥ 0 from hk.1)]
    simp [hk.2, d1, plunderlaw2_act, d2]
  · have hg : ∀ {γ : Type} (f : Bool → Option γ), ob1 (if m.Kind ≥ (0 : Int) then some (decide (m.Kind ≤ (4 : Int))) else some false) f = f false := by
      intro γ f
      by_cases h0 : m.Kind ≥ 0
      · rw [if_pos h0, show decide (m.Kind ≤ (4 : Int)) = false by simp; omega]; rfl
      · rw [if_neg h0]; rfl
    rw [hg]
    simp only [Bool.false_eq_true, if_false, jn0_inl]
    by_cases k5 : m.Kind = 5
    · rw [if_pos k5]
      obtain ⟨r, hr⟩ := mod2 m.A
      rw [hr]
      simp only [ob1_some, cells_Arena_Watch]
      exact ⟨_, _, _, rfl, { h.up (Nat.le_succ n) with on := rfl, size := h.size, mark := h.mark, cell := h.cell, log := h.log, actor := h.actor, most := h.most, held := h.held }, rfl, hb1⟩
    rw [if_neg k5]
    by_cases k6 : m.Kind = 6
    · rw [if_pos k6]
      simp only [ob1_some, cells_Arena_Who]
      exact ⟨_, _, _, rfl, ⟨h.size, h.mark, h.cell, h.log, rfl, h.on, h.most, h.held, Nat.le_succ_of_le h.book⟩, rfl, hb1⟩
    rw [if_neg k6]
    by_cases k7 : m.Kind = 7
    · rw [if_pos k7]
      simp only [ob1_some, cells_Arena_Size, cells_ledger_Size, h.size, beq_self_eq_true]
      exact ⟨_, _, _, rfl, h.up (Nat.le_succ n), rfl, hb1⟩
    rw [if_neg k7]
    by_cases k8 : m.Kind = 8
    · rw [if_pos k8]
      simp only [ob1_some, cells_Arena_Mark, cells_ledger_Mark, h.mark, beq_self_eq_true]
      exact ⟨_, _, _, rfl, h.up (Nat.le_succ n), rfl, hb1⟩
    rw [if_neg k8]
    by_cases k9 : m.Kind = 9
    · rw [if_pos k9, cells_eq (by rw [h.cell]; omega), ob1_some, h.cell, sameNumbers_eq (by omega) (by omega), ob1_some]
      obtain ⟨b', e1, e2⟩ := numbers_room (K := K) (by omega) (l := R.Held) (by omega) hb hc
      rw [e1, ob1_some]
      refine ⟨S, R, b', by simp, h.up (Nat.le_succ n), rfl, e2⟩
    rw [if_neg k9]
    by_cases k10 : m.Kind = 10
    · rw [if_pos k10, log_eq (by rw [h.log]; omega), ob1_some, h.log, sameLog_eq (by omega) (by omega), ob1_some]
      obtain ⟨b', e1, e2⟩ := accesses_room (K := K) (by omega) (l := R.Book) (by omega) hb hc
      rw [e1, ob1_some]
      refine ⟨S, R, b', by simp, h.up (Nat.le_succ n), rfl, e2⟩
    rw [if_neg k10]
    exact ⟨_, _, _, rfl, h.up (Nat.le_succ n), rfl, hb1⟩

/-! ### an arena that is none -/
structure None_ (R : T_plunderref2_Arena) : Prop where
  most : R.Most = 0
  held : R.Held = []
  book : R.Book = []
theorem done_none {K : Nat} {R : T_plunderref2_Arena} (h : None_ R) (m : T_plunderlaw2_Move) (h0 : 0 ≤ m.Kind) (h4 : m.Kind ≤ 4) :
    ∃ e, plunderlaw2_done_nil m = some e ∧ plunderref2_Arena_Do K R ⟨0, m.Kind, m.Addr, m.A, m.B⟩ = some (e, R) := by
  unfold plunderref2_Arena_Do plunderlaw2_done_nil
  simp only []
  rw [if_neg (show ¬ m.Kind < 0 by omega), if_neg (show ¬ m.Kind > 4 by omega), jn0_inl]
  by_cases hk4 : m.Kind = 4
  · rw [if_neg (show ¬ m.Kind = 0 by omega), if_neg (show ¬ m.Kind = 1 by omega), if_neg (show ¬ m.Kind = 2 by omega), if_neg (show ¬ m.Kind = 3 by omega), if_pos hk4]
    unfold cells_Arena_Reserve_nil cells_ledger_refuse_nil plunderref2_Arena_reserve
    by_cases h1 : m.A < 1
    · simp [h1, plunderref2_refused]
    · have hw : wi (R.Most - (R.Held.length : Int)) = 0 := by rw [h.most, h.held]; exact wi_in (by simp)
      have h2 : m.A > 0 := by omega
      simp only [if_neg h1, hw, if_pos h2, ob0_some, ob1_some]
      simp [plunderref2_refused]
  · rw [if_neg hk4]
    have hx : ((if m.Addr < (0 : Int) then ob1 (plunderref2_refused 20) (fun r27 => some (.inr (r27, R))) else (if m.Addr ≥ ((R.Held.length : Nat) : Int) then ob1 (plunderref2_refused 20) (fun r30 => some (.inr (r30, R))) else some (.inl ()))) : Option (Unit ⊕ (T_api_Effect × T_plunderref2_Arena))) = some (.inr (⟨0, false, 20⟩, R)) := by
      by_cases hneg : m.Addr < 0
      · rw [if_pos hneg]; simp [plunderref2_refused]
      · rw [if_neg hneg, if_pos (by rw [h.held]; simp; omega)]; simp [plunderref2_refused]
    rw [hx, jn0_inr]
    refine ⟨⟨0, false, 20⟩, ?_, rfl⟩
    by_cases k0 : m.Kind = 0
    · rw [if_pos k0]; simp [cells_Arena_Load_nil, cells_Arena_outside_nil]
    rw [if_neg k0]
    by_cases k1 : m.Kind = 1
    · rw [if_pos k1]; simp [cells_Arena_Store_nil, cells_Arena_outside_nil]
    rw [if_neg k1]
    by_cases k2 : m.Kind = 2
    · rw [if_pos k2]; simp [cells_Arena_CAS_nil, cells_Arena_outside_nil]
    rw [if_neg k2, if_pos (show m.Kind = 3 by omega)]
    simp [cells_Arena_Add_nil, cells_Arena_outside_nil]
theorem plays_none {K : Nat} (hK : 4000000 < K) {R : T_plunderref2_Arena} (h : None_ R) (m : T_plunderlaw2_Move) {b : T_plunderlaw2_book} {c : Nat} (hb : Room b c) (hc : c ≤ 1099511627776) :
    ∃ R' b', plunderlaw2_plays_nil K R m b = some (true, R', b') ∧ None_ R' ∧ Room b' (c + 1) := by
  have hb1 : Room b (c + 1) := ⟨Nat.le_succ_of_le hb.1, Nat.le_succ_of_le hb.2.1, hb.2.2⟩
  unfold plunderlaw2_plays_nil
  by_cases hk : 0 ≤ m.Kind ∧ m.Kind ≤ 4
  · obtain ⟨e, d1, d2⟩ := done_none (K := K) h m hk.1 hk.2
    refine ⟨R, b, ?_, h, hb1⟩
    rw [if_pos (show m.Kind ≥ 0 from hk.1)]
    simp [hk.2, d1, plunderlaw2_act, d2]
  · have hg : ∀ {γ : Type} (f : Bool → Option γ), ob1 (if m.Kind ≥ (0 : Int) then some (decide (m.Kind ≤ (4 : Int))) else some false) f = f false := by
      intro γ f
      by_cases h0 : m.Kind ≥ 0
      · rw [if_pos h0, show decide (m.Kind ≤ (4 : Int)) = false by simp; omega]; rfl
      · rw [if_neg h0]; rfl
    rw [hg]
    simp only [Bool.false_eq_true, if_false, jn0_inl]
    by_cases k5 : m.Kind = 5
    · rw [if_pos k5]
      obtain ⟨r, hr⟩ := mod2 m.A
      rw [hr]
      simp only [ob1_some, ob0_some, cells_Arena_Watch_nil]
      exact ⟨_, _, rfl, ⟨h.most, h.held, h.book⟩, hb1⟩
    rw [if_neg k5]
    by_cases k6 : m.Kind = 6
    · rw [if_pos k6]
      simp only [ob0_some, cells_Arena_Who_nil]
      exact ⟨_, _, rfl, ⟨h.most, h.held, h.book⟩, hb1⟩
    rw [if_neg k6]
    by_cases k7 : m.Kind = 7
    · rw [if_pos k7]
      simp only [ob1_some, cells_Arena_Size_nil, h.most, beq_self_eq_true]
      exact ⟨_, _, rfl, h, hb1⟩
    rw [if_neg k7]
    by_cases k8 : m.Kind = 8
    · rw [if_pos k8]
      simp only [ob1_some, cells_Arena_Mark_nil, h.held]
      exact ⟨_, _, rfl, h, hb1⟩
    rw [if_neg k8]
    by_cases k9 : m.Kind = 9
    · rw [if_pos k9, cells_Arena_Cells_nil, ob1_some, h.held, sameNumbers_eq (by simp) (by simp; omega), ob1_some]
      obtain ⟨b', e1, e2⟩ := numbers_room (K := K) (by omega) (l := []) (by simp) hb hc
      rw [e1, ob1_some]
      refine ⟨R, b', by simp, h, e2⟩
    rw [if_neg k9]
    by_cases k10 : m.Kind = 10
    · rw [if_pos k10, cells_Arena_Log_nil, ob1_some, h.book, sameLog_eq (by simp) (by simp; omega), ob1_some]
      obtain ⟨b', e1, e2⟩ := accesses_room (K := K) (by omega) (l := []) (by simp) hb hc
      rw [e1, ob1_some]
      refine ⟨R, b', by simp, h, e2⟩
    rw [if_neg k10]
    exact ⟨_, _, rfl, h, hb1⟩
end Go.Proofs.Ytacgigkonoegiaa.Mo
namespace Go.Proofs.Ytacgigkonoegiaa.Mo
open Go Go.Proofs.Ytacgigkonoegiaa.SL Go.Proofs.Ytacgigkonoegiaa.GX
/-! ### the moves, one behind the other -/
theorem side {p3 : Bool} {x : Int} : ∃ g, (if p3 = true then some true else ob1 (plunderlaw2_mod x 2) (fun r => some (r == (0 : Int)))) = some g := by
  by_cases h : p3 = true
  · exact ⟨true, by rw [if_pos h]⟩
  · obtain ⟨r, hr⟩ := mod2 x
    exact ⟨_, by rw [if_neg h, hr]; rfl⟩
theorem Room.up {b : T_plunderlaw2_book} {n m : Nat} (h : Room b n) (k : n ≤ m) : Room b m := ⟨Nat.le_trans h.1 k, Nat.le_trans h.2.1 k, h.2.2⟩
section
variable {K : Nat} {moves : List T_plunderlaw2_Move} {p3 : Bool}
theorem walk1 (hK : 4000000 < K) (hm : moves.length ≤ 1048576) : ∀ (d k i : Nat) (R0 R1 : T_plunderref2_Arena) (S0 S1 : T_cells_Arena) (b : T_plunderlaw2_book), i + d = moves.length → d < k → Same S0 R0 i → Same S1 R1 i → Room b i →
    ∃ R0' R1' S0' S1', plunderlaw2_walk_l1 K moves p3 true k R0 R1 S0 S1 b (i : Int) = some (.inl (R0', R1', S0', S1')) ∧ Same S0' R0' moves.length ∧ Same S1' R1' moves.length
  | d, k, i, R0, R1, S0, S1, b, h, hk, h0, h1, hb => by
    obtain ⟨k, rfl⟩ : ∃ m, k = m + 1 := ⟨k - 1, by omega⟩
    rw [plunderlaw2_walk_l1]
    by_cases hi : i < moves.length
    · obtain ⟨d, rfl⟩ : ∃ m, d = m + 1 := ⟨d - 1, by omega⟩
      rw [if_pos (by omega), if_pos ⟨by omega, by omega⟩]
      obtain ⟨g, hg⟩ := side (p3 := p3) (x := (at_ moves ((i : Int)).toNat).Side)
      rw [hg, ob1_some, wi1 (by omega) (by omega), show ((i : Int) + 1) = ((i + 1 : Nat) : Int) by omega]
      cases g with
      | true =>
        obtain ⟨S', R', b', e1, e2, _, e4⟩ := plays_same hK h0 (by omega) (at_ moves ((i : Int)).toNat) hb (by omega)
        simp only [if_true, e1, ob4_some, ob6_some, Bool.false_eq_true, if_false, e4.stands hK (by omega), ob1_some]
        exact walk1 hK hm d k (i + 1) _ _ _ _ _ (by omega) (by omega) e2 (h1.up (by omega)) e4
      | false =>
        obtain ⟨S', R', b', e1, e2, _, e4⟩ := plays_same hK h1 (by omega) (at_ moves ((i : Int)).toNat) hb (by omega)
        simp only [if_true, e1, ob4_some, ob6_some, Bool.false_eq_true, if_false, e4.stands hK (by omega), ob1_some]
        exact walk1 hK hm d k (i + 1) _ _ _ _ _ (by omega) (by omega) (h0.up (by omega)) e2 e4
    · rw [if_neg (by omega)]
      exact ⟨_, _, _, _, rfl, h0.up (by omega), h1.up (by omega)⟩
theorem walk2 (hK : 4000000 < K) (hm : moves.length ≤ 1048576) : ∀ (d k i : Nat) (R0 R1 : T_plunderref2_Arena) (S0 : T_cells_Arena) (b : T_plunderlaw2_book), i + d = moves.length → d < k → Same S0 R0 i → None_ R1 → Room b i →
    ∃ R0' R1' S0', plunderlaw2_walk_l2 K moves p3 true k R0 R1 S0 b (i : Int) = some (.inl (R0', R1', S0'))
  | d, k, i, R0, R1, S0, b, h, hk, h0, h1, hb => by
    obtain ⟨k, rfl⟩ : ∃ m, k = m + 1 := ⟨k - 1, by omega⟩
    rw [plunderlaw2_walk_l2]
    by_cases hi : i < moves.length
    · obtain ⟨d, rfl⟩ : ∃ m, d = m + 1 := ⟨d - 1, by omega⟩
      rw [if_pos (by omega), if_pos ⟨by omega, by omega⟩]
      obtain ⟨g, hg⟩ := side (p3 := p3) (x := (at_ moves ((i : Int)).toNat).Side)
      rw [hg, ob1_some, wi1 (by omega) (by omega), show ((i : Int) + 1) = ((i + 1 : Nat) : Int) by omega]
      cases g with
      | true =>
        obtain ⟨S', R', b', e1, e2, _, e4⟩ := plays_same hK h0 (by omega) (at_ moves ((i : Int)).toNat) hb (by omega)
        simp only [if_true, e1, ob4_some, ob5_some, Bool.false_eq_true, if_false, e4.stands hK (by omega), ob1_some]
        exact walk2 hK hm d k (i + 1) _ _ _ _ (by omega) (by omega) e2 h1 e4
      | false =>
        obtain ⟨R', b', e1, e2, e4⟩ := plays_none hK h1 (at_ moves ((i : Int)).toNat) hb (by omega)
        simp only [if_true, e1, ob3_some, ob5_some, Bool.false_eq_true, if_false, e4.stands hK (by omega), ob1_some]
        exact walk2 hK hm d k (i + 1) _ _ _ _ (by omega) (by omega) (h0.up (by omega)) e2 e4
    · rw [if_neg (by omega)]
      exact ⟨_, _, _, rfl⟩
theorem walk3 (hK : 4000000 < K) (hm : moves.length ≤ 1048576) : ∀ (d k i : Nat) (R0 R1 : T_plunderref2_Arena) (S1 : T_cells_Arena) (b : T_plunderlaw2_book), i + d = moves.length → d < k → None_ R0 → Same S1 R1 i → Room b i →
    ∃ R0' R1' S1', plunderlaw2_walk_l3 K moves p3 true k R0 R1 S1 b (i : Int) = some (.inl (R0', R1', S1'))
  | d, k, i, R0, R1, S1, b, h, hk, h0, h1, hb => by
    obtain ⟨k, rfl⟩ : ∃ m, k = m + 1 := ⟨k - 1, by omega⟩
    rw [plunderlaw2_walk_l3]
    by_cases hi : i < moves.length
    · obtain ⟨d, rfl⟩ : ∃ m, d = m + 1 := ⟨d - 1, by omega⟩
      rw [if_pos (by omega), if_pos ⟨by omega, by omega⟩]
      obtain ⟨g, hg⟩ := side (p3 := p3) (x := (at_ moves ((i : Int)).toNat).Side)
      rw [hg, ob1_some, wi1 (by omega) (by omega), show ((i : Int) + 1) = ((i + 1 : Nat) : Int) by omega]
      cases g with
      | true =>
        obtain ⟨R', b', e1, e2, e4⟩ := plays_none hK h0 (at_ moves ((i : Int)).toNat) hb (by omega)
        simp only [if_true, e1, ob3_some, ob5_some, Bool.false_eq_true, if_false, e4.stands hK (by omega), ob1_some]
        exact walk3 hK hm d k (i + 1) _ _ _ _ (by omega) (by omega) e2 (h1.up (by omega)) e4
      | false =>
        obtain ⟨S', R', b', e1, e2, _, e4⟩ := plays_same hK h1 (by omega) (at_ moves ((i : Int)).toNat) hb (by omega)
        simp only [if_true, e1, ob4_some, ob5_some, Bool.false_eq_true, if_false, e4.stands hK (by omega), ob1_some]
        exact walk3 hK hm d k (i + 1) _ _ _ _ (by omega) (by omega) h0 e2 e4
    · rw [if_neg (by omega)]
      exact ⟨_, _, _, rfl⟩
theorem walk4 (hK : 4000000 < K) (hm : moves.length ≤ 1048576) : ∀ (d k i : Nat) (R0 R1 : T_plunderref2_Arena) (b : T_plunderlaw2_book), i + d = moves.length → d < k → None_ R0 → None_ R1 → Room b i →
    ∃ R0' R1', plunderlaw2_walk_l4 K moves p3 true k R0 R1 b (i : Int) = some (.inl (R0', R1'))
  | d, k, i, R0, R1, b, h, hk, h0, h1, hb => by
    obtain ⟨k, rfl⟩ : ∃ m, k = m + 1 := ⟨k - 1, by omega⟩
    rw [plunderlaw2_walk_l4]
    by_cases hi : i < moves.length
    · obtain ⟨d, rfl⟩ : ∃ m, d = m + 1 := ⟨d - 1, by omega⟩
      rw [if_pos (by omega), if_pos ⟨by omega, by omega⟩]
      obtain ⟨g, hg⟩ := side (p3 := p3) (x := (at_ moves ((i : Int)).toNat).Side)
      rw [hg, ob1_some, wi1 (by omega) (by omega), show ((i : Int) + 1) = ((i + 1 : Nat) : Int) by omega]
      cases g with
      | true =>
        obtain ⟨R', b', e1, e2, e4⟩ := plays_none hK h0 (at_ moves ((i : Int)).toNat) hb (by omega)
        simp only [if_true, e1, ob3_some, ob4_some, Bool.false_eq_true, if_false, e4.stands hK (by omega), ob1_some]
        exact walk4 hK hm d k (i + 1) _ _ _ (by omega) (by omega) e2 h1 e4
      | false =>
        obtain ⟨R', b', e1, e2, e4⟩ := plays_none hK h1 (at_ moves ((i : Int)).toNat) hb (by omega)
        simp only [if_true, e1, ob3_some, ob4_some, Bool.false_eq_true, if_false, e4.stands hK (by omega), ob1_some]
        exact walk4 hK hm d k (i + 1) _ _ _ (by omega) (by omega) h0 e2 e4
    · rw [if_neg (by omega)]
      exact ⟨_, _, rfl⟩
end
theorem new_cases (p : Int) : (∃ R S, plunderref2_New p = some (R, 0) ∧ cells_New p = some (some S, 0) ∧ Same S R 0) ∨ (∃ R, plunderref2_New p = some (R, 3) ∧ cells_New p = some (none, 3) ∧ None_ R) := by
  unfold plunderref2_New cells_New cells_good
  by_cases h0 : p < 0
  · right
    rw [if_pos h0, if_neg (show ¬ p ≥ 0 by omega)]
    exact ⟨_, rfl, by simp, ⟨rfl, rfl, rfl⟩⟩
  · by_cases h1 : p > 1048576
    · right
      rw [if_neg h0, if_pos h1, if_pos (show p ≥ 0 by omega)]
      refine ⟨_, rfl, ?_, ⟨rfl, rfl, rfl⟩⟩
      simp; omega
    · left
      rw [if_neg h0, if_neg h1, if_pos (show p ≥ 0 by omega)]
      refine ⟨_, ⟨p, 0, [], [], 0, false⟩, rfl, ?_, ⟨rfl, rfl, rfl, rfl, rfl, rfl, by show p ≤ 1048576; omega, by show (0 : Int) ≤ p; omega, Nat.le_refl _⟩⟩
      simp; omega
theorem walk_true {K : Nat} (hK : 4000000 < K) {moves : List T_plunderlaw2_Move} (hm : moves.length ≤ 1048576) (p0 p1 : Int) (p3 : Bool) : plunderlaw2_walk K p0 p1 moves p3 true = some true := by
  have hR := room0
  unfold plunderlaw2_walk
  rcases new_cases p0 with ⟨R0, S0, a1, a2, a3⟩ | ⟨R0, a1, a2, a3⟩ <;> rcases new_cases p1 with ⟨R1, S1, b1, b2, b3⟩ | ⟨R1, b1, b2, b3⟩
  · obtain ⟨R0', R1', S0', S1', e, f0, f1⟩ := walk1 (p3 := p3) hK hm moves.length K 0 R0 R1 S0 S1 ⟨[], [], 0⟩ (by omega) (by omega) a3 b3 hR
    simp only [Int.natCast_zero] at e
    have g0 := f0.held; have g1 := f0.most; have g2 := f0.book; have g3 := f1.held; have g4 := f1.most; have g5 := f1.book
    simp only [a1, a2, b1, b2, ob2_some, e, jn4_inl, cells_eq (S := S0') (by rw [f0.cell]; omega), cells_eq (S := S1') (by rw [f1.cell]; omega), log_eq (S := S0') (by rw [f0.log]; omega), log_eq (S := S1') (by rw [f1.log]; omega), ob1_some, f0.cell, f1.cell, f0.log, f1.log]
    rw [sameNumbers_eq (by omega) (by omega), sameNumbers_eq (by omega) (by omega), sameLog_eq (by omega) (by omega), sameLog_eq (by omega) (by omega)]
    simp
  · obtain ⟨R0', R1', S0', e⟩ := walk2 (p3 := p3) hK hm moves.length K 0 R0 R1 S0 ⟨[], [], 0⟩ (by omega) (by omega) a3 b3 hR
    simp only [Int.natCast_zero] at e
    simp [a1, a2, b1, b2, e]
  · obtain ⟨R0', R1', S1', e⟩ := walk3 (p3 := p3) hK hm moves.length K 0 R0 R1 S1 ⟨[], [], 0⟩ (by omega) (by omega) a3 b3 hR
    simp only [Int.natCast_zero] at e
    simp [a1, a2, b1, b2, e]
  · obtain ⟨R0', R1', e⟩ := walk4 (p3 := p3) hK hm moves.length K 0 R0 R1 ⟨[], [], 0⟩ (by omega) (by omega) a3 b3 hR
    simp only [Int.natCast_zero] at e
    simp [a1, a2, b1, b2, e]
end Go.Proofs.Ytacgigkonoegiaa.Mo
