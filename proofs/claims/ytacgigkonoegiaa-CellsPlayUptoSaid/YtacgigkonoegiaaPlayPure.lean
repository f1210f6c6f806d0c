/- A play of acts: what the walk's plain functions answer. No memory is spoken of. -/
import Derived.Test.YtacgigkonoegiaaPlayBase
namespace Go.Proofs.Ytacgigkonoegiaa.Mo
open Go Go.Proofs.Ytacgigkonoegiaa.SL Go.Proofs.Ytacgigkonoegiaa.GX
set_option linter.unusedVariables false
set_option linter.unusedSimpArgs false

theorem wi_def (x : Int) : wi x = (if 9223372036854775808 ≤ x % 18446744073709551616 then x % 18446744073709551616 - 18446744073709551616 else x % 18446744073709551616) := by
  show IntKind.i64.wrap x = _
  unfold IntKind.wrap
  simp [IntKind.bits, IntKind.signed]
theorem wi_back {a b : Int} (hb : -9223372036854775808 ≤ b ∧ b ≤ 9223372036854775807) : wi (wi (a + b) - a) = b := by
  rw [wi_def (wi (a + b) - a), wi_def]
  split <;> split <;> omega
theorem drop_cons {α : Type} [Inhabited α] {l : List α} {i : Nat} (h : i < l.length) : l.drop i = at_ l i :: l.drop (i + 1) := by
  rw [List.drop_eq_getElem_cons h]; unfold at_; rw [List.getD_eq_getElem?_getD, List.getElem?_eq_getElem h]; rfl
theorem take_put {α : Type} [Inhabited α] {l p : List α} {i : Nat} (h : l.take i = p.take i) (hp : i < p.length) (hl : i < l.length) : (l.set i (at_ p i)).take (i + 1) = p.take (i + 1) := by
  apply List.ext_getElem?
  intro k
  have hk := congrArg (fun x => x[k]?) h
  simp only [List.getElem?_take] at hk ⊢
  by_cases e : k < i
  · rw [if_pos (by omega), if_pos (by omega), List.getElem?_set_ne (by omega)]
    rw [if_pos e, if_pos e] at hk
    exact hk
  · by_cases e2 : k = i
    · subst e2
      rw [if_pos (by omega), if_pos (by omega), List.getElem?_set_self hl, get_at hp]
    · rw [if_neg (by omega), if_neg (by omega)]
theorem of_take {α : Type} {l p : List α} {i : Nat} (h : l.take i = p.take i) (hi : i = p.length) : l = p ++ l.drop p.length := by
  subst hi
  conv => lhs; rw [← List.take_append_drop p.length l, h, List.take_length]

/-! ### lists that are laid -/
theorem lay_l {K : Nat} {p : List T_api_Act} (hp : p.length < 4611686018427387904) : ∀ (d k i : Nat) (l : List T_api_Act), i + d = p.length → d < k → p.length ≤ l.length → l.take i = p.take i →
    plunderlaw2_lay_l1 K p k l (i : Int) = some (p ++ l.drop p.length)
  | d, k, i, l, h, hk, hl, ht => by
    obtain ⟨k, rfl⟩ : ∃ m, k = m + 1 := ⟨k - 1, by omega⟩
    rw [plunderlaw2_lay_l1]
    by_cases hi : i < p.length
    · obtain ⟨d, rfl⟩ : ∃ m, d = m + 1 := ⟨d - 1, by omega⟩
      rw [if_pos (by omega), if_pos ⟨by omega, by omega⟩, if_pos ⟨by omega, by omega⟩, wi1 (by omega) (by omega), Int.toNat_natCast, show ((i : Int) + 1) = ((i + 1 : Nat) : Int) by omega]
      rw [lay_l hp d k (i + 1) _ (by omega) (by omega) (by rw [List.length_set]; exact hl) (take_put ht hi (by omega)), List.drop_set_of_lt hi]
    · rw [if_neg (by omega)]
      exact congrArg some (of_take ht (by omega))
theorem handed_l {K : Nat} {p : List T_api_Act} (hp : p.length < 4611686018427387904) : ∀ (d k i : Nat) (l : List T_api_Act), i + d = p.length → d < k → p.length ≤ l.length → l.take i = p.take i →
    plunderlaw2_handed_l1 K p k l (i : Int) = some (p ++ l.drop p.length)
  | d, k, i, l, h, hk, hl, ht => by
    obtain ⟨k, rfl⟩ : ∃ m, k = m + 1 := ⟨k - 1, by omega⟩
    rw [plunderlaw2_handed_l1]
    by_cases hi : i < p.length
    · obtain ⟨d, rfl⟩ : ∃ m, d = m + 1 := ⟨d - 1, by omega⟩
      rw [if_pos (by omega), if_pos ⟨by omega, by omega⟩, if_pos ⟨by omega, by omega⟩, wi1 (by omega) (by omega), Int.toNat_natCast, show ((i : Int) + 1) = ((i + 1 : Nat) : Int) by omega]
      rw [handed_l hp d k (i + 1) _ (by omega) (by omega) (by rw [List.length_set]; exact hl) (take_put ht hi (by omega)), List.drop_set_of_lt hi]
    · rw [if_neg (by omega)]
      exact congrArg some (of_take ht (by omega))
def mk0 : T_api_Act := ⟨wi ((-7 : Int) - 0), wi ((77 : Int) + 0), -9, 5, 6⟩
def mk1 : T_api_Act := ⟨wi ((-7 : Int) - 1), wi ((77 : Int) + 1), -9, 5, 6⟩
theorem handed_eq {K : Nat} {p : List T_api_Act} (hp : p.length ≤ 1048576) (hK : 4000000 < K) : plunderlaw2_handed K p = some (p ++ [mk0, mk1]) := by
  unfold plunderlaw2_handed plunderlaw2_mark
  have w2 : wi (((p.length : Nat) : Int) + (2 : Int)) = (p.length : Int) + 2 := wi_in (by omega)
  have w1 : wi (((p.length : Nat) : Int) + (1 : Int)) = (p.length : Int) + 1 := wi_in (by omega)
  rw [w2, w1, if_pos ⟨by omega, by omega⟩]
  have hn : ((p.length : Int) + 2).toNat = p.length + 2 := by omega
  have hn1 : ((p.length : Int) + 1).toNat = p.length + 1 := by omega
  have hl := handed_l (K := K) (p := p) (by omega) p.length K 0 (List.replicate (p.length + 2) (⟨0, 0, 0, 0, 0⟩ : T_api_Act)) (by omega) (by omega) (by simp) rfl
  simp only [Int.natCast_zero] at hl
  have hd : (List.replicate (p.length + 2) (⟨0, 0, 0, 0, 0⟩ : T_api_Act)).drop p.length = [⟨0, 0, 0, 0, 0⟩, ⟨0, 0, 0, 0, 0⟩] := by
    rw [List.drop_replicate, show p.length + 2 - p.length = 2 by omega]; rfl
  rw [hn, hn1, hl, hd, ob1_some, ob1_some, if_pos ⟨by omega, by simp <;> omega⟩, ob1_some, if_pos ⟨by omega, by simp <;> omega⟩, Int.toNat_natCast]
  rw [List.set_append_right _ _ (Nat.le_refl _), List.set_append_right _ _ (by omega), Nat.sub_self, show p.length + 1 - p.length = 1 by omega]
  rfl
theorem untouched_l {K : Nat} {p q : List T_api_Act} (hp : p.length < 4611686018427387904) : ∀ (d k i : Nat), i + d = p.length → d < k → plunderlaw2_untouched_l1 K (p ++ q) p k (i : Int) = some true
  | d, k, i, h, hk => by
    obtain ⟨k, rfl⟩ : ∃ m, k = m + 1 := ⟨k - 1, by omega⟩
    rw [plunderlaw2_untouched_l1]
    by_cases hi : i < p.length
    · obtain ⟨d, rfl⟩ : ∃ m, d = m + 1 := ⟨d - 1, by omega⟩
      rw [if_pos (by omega), if_pos ⟨by omega, by simp <;> omega⟩, if_pos ⟨by omega, by omega⟩, wi1 (by omega) (by omega), Int.toNat_natCast, at_append_left hi, if_pos rfl, show ((i : Int) + 1) = ((i + 1 : Nat) : Int) by omega]
      exact untouched_l hp d k (i + 1) (by omega) (by omega)
    · rw [if_neg (by omega)]
theorem at_app {α : Type} [Inhabited α] {p q : List α} {i : Nat} : at_ (p ++ q) (p.length + i) = at_ q i := by
  unfold at_
  rw [List.getD_eq_getElem?_getD, List.getElem?_append_right (by omega), List.getD_eq_getElem?_getD, show p.length + i - p.length = i by omega]
theorem untouched_eq {K : Nat} {p : List T_api_Act} (hp : p.length ≤ 1048576) (hK : 4000000 < K) : plunderlaw2_untouched K (p ++ [mk0, mk1]) p = some true := by
  unfold plunderlaw2_untouched plunderlaw2_mark
  have w1 : wi (((p.length : Nat) : Int) + (1 : Int)) = (p.length : Int) + 1 := wi_in (by omega)
  have hl := untouched_l (K := K) (p := p) (q := [mk0, mk1]) (by omega) p.length K 0 (by omega) (by omega)
  simp only [Int.natCast_zero] at hl
  rw [w1, if_pos ⟨by omega, by simp <;> omega⟩, ob1_some, Int.toNat_natCast, if_pos (show at_ (p ++ [mk0, mk1]) p.length = ⟨wi ((-7 : Int) - 0), wi ((77 : Int) + 0), -9, 5, 6⟩ from at_app (i := 0)), if_pos ⟨by omega, by simp <;> omega⟩, ob1_some,
    show ((p.length : Int) + 1).toNat = p.length + 1 by omega, if_pos (show at_ (p ++ [mk0, mk1]) (p.length + 1) = ⟨wi ((-7 : Int) - 1), wi ((77 : Int) + 1), -9, 5, 6⟩ from at_app (i := 1)), jn0_inl, hl]
theorem turned_l {K : Nat} {p : List T_api_Act} (hp : p.length ≤ 1048576) : ∀ (d k : Nat) (l : List T_api_Act) (g : Int), g + 1 = (d : Int) → d ≤ p.length → d < k → l.length + d = p.length → ∃ t, plunderlaw2_turned_l1 K p k l g = some t ∧ t.length = p.length
  | d, k, l, g, h, hd, hk, hl => by
    obtain ⟨k, rfl⟩ : ∃ m, k = m + 1 := ⟨k - 1, by omega⟩
    rw [plunderlaw2_turned_l1]
    by_cases hg : g ≥ 0
    · obtain ⟨d, rfl⟩ : ∃ m, d = m + 1 := ⟨d - 1, by omega⟩
      rw [if_pos hg, if_pos ⟨by omega, by omega⟩, if_pos (by omega), show wi (g - (1 : Int)) = g - 1 from wi_in (by omega)]
      exact turned_l hp d k _ (g - 1) (by omega) (by omega) (by omega) (by simp <;> omega)
    · rw [if_neg hg]
      exact ⟨l, rfl, by omega⟩
theorem turned_eq {K : Nat} {p : List T_api_Act} (hp : p.length ≤ 1048576) (hK : 4000000 < K) : ∃ t, plunderlaw2_turned K p = some t ∧ t.length = p.length := by
  unfold plunderlaw2_turned
  rw [show wi (((p.length : Nat) : Int) - (1 : Int)) = (p.length : Int) - 1 from wi_in (by omega)]
  exact turned_l hp p.length K [] _ (by omega) (Nat.le_refl _) (by omega) (by simp)

/-! ### the book -/
theorem at_rep {α : Type} [Inhabited α] {n i : Nat} {x : α} (h : i < n) : at_ (List.replicate n x) i = x := by
  unfold at_; rw [List.getD_eq_getElem?_getD, List.getElem?_replicate, if_pos h]; rfl
def ent (m : Int) : T_api_Access := ⟨-3, 9, -4, m, wi (0 - m), true⟩
def shape (m : Int) (n : Nat) : T_plunderlaw2_kept :=
  ⟨m, List.replicate n m, List.replicate n m ++ [wi (m + 1)], List.replicate n m ++ [wi (m + 2), wi (m + 3)], List.replicate n m ++ [wi (m + 4), wi (m + 5), wi (m + 6)]⟩
def shapeA (m : Int) (n : Nat) : T_plunderlaw2_noted :=
  ⟨m, (shape m n).l.map ent, (shape m n).g1.map ent, (shape m n).g2.map ent, (shape m n).g3.map ent⟩
theorem numbers_l1 {K n : Nat} {p1 : List Int} {r : Int} (hn : p1.length = n) (hl : n < 4611686018427387904) : ∀ (d k i : Nat) (l : List Int), l.length = n → l.take i = (List.replicate n r).take i → i + d = n → d < k →
    plunderlaw2_book_numbers_l1 K p1 r k l (i : Int) = some (List.replicate n r)
  | d, k, i, l, hll, ht, h, hk => by
    obtain ⟨k, rfl⟩ : ∃ m, k = m + 1 := ⟨k - 1, by omega⟩
    rw [plunderlaw2_book_numbers_l1]
    by_cases hi : i < n
    · obtain ⟨d, rfl⟩ : ∃ m, d = m + 1 := ⟨d - 1, by omega⟩
      rw [if_pos (by omega), if_pos ⟨by omega, by omega⟩, wi1 (by omega) (by omega), Int.toNat_natCast, show ((i : Int) + 1) = ((i + 1 : Nat) : Int) by omega]
      have := take_put (l := l) (p := List.replicate n r) ht (by simpa using hi) (by omega)
      rw [at_rep hi] at this
      exact numbers_l1 hn hl d k (i + 1) _ (by rw [List.length_set]; exact hll) this (by omega) (by omega)
    · rw [if_neg (by omega)]
      have := of_take ht (by simp <;> omega)
      rw [this, List.drop_of_length_le (by simp <;> omega), List.append_nil]
theorem numbers_l2 {K : Nat} {r : Int} : ∀ (d k i : Nat) (l : List Int), i + d = 64 → d < k → l.length ≤ 1099511627776 + i → plunderlaw2_book_numbers_l2 K r k l (i : Int) = some ()
  | d, k, i, l, h, hk, hl => by
    obtain ⟨k, rfl⟩ : ∃ m, k = m + 1 := ⟨k - 1, by omega⟩
    rw [plunderlaw2_book_numbers_l2]
    by_cases hi : i < 64
    · obtain ⟨d, rfl⟩ : ∃ m, d = m + 1 := ⟨d - 1, by omega⟩
      rw [if_pos (by omega), if_pos (by omega), wi1 (by omega) (by omega), show ((i : Int) + 1) = ((i + 1 : Nat) : Int) by omega]
      exact numbers_l2 d k (i + 1) _ (by omega) (by omega) (by rw [List.length_append]; simp; omega)
    · rw [if_neg (by omega)]
theorem numbers_eq {K : Nat} (hK : 1048640 < K) (b : T_plunderlaw2_book) {l : List Int} (hl : l.length ≤ 1048576) (hn : b.numberLists.length ≤ 1099511627776) :
    ∃ m x, plunderlaw2_book_numbers K b l = some { b with next := x, numberLists := b.numberLists ++ [shape m l.length] } := by
  unfold plunderlaw2_book_numbers plunderlaw2_book_mark
  simp only [ob2_some]
  generalize hr : wi ((wi ((1000003 : Int) * (wi (b.next + (16 : Int))))) + (7 : Int)) = r
  have h1 := numbers_l1 (K := K) (p1 := l) (n := l.length) (r := r) rfl (by omega) l.length K 0 l rfl rfl (by omega) (by omega)
  simp only [Int.natCast_zero] at h1
  rw [h1, ob1_some, if_pos (by simp <;> omega)]
  have h3 := numbers_l2 (K := K) (r := r) 63 K 1 (List.replicate l.length r ++ [wi (r + (7 : Int))]) (by omega) (by omega) (by simp <;> omega)
  simp only [Int.natCast_one] at h3
  rw [h3, ob0_some, if_pos (by simp <;> omega), if_pos (by simp <;> omega), if_pos (by simp <;> omega), if_pos (by show (b.numberLists.length + 1) * 104 ≤ _; omega)]
  exact ⟨r, _, rfl⟩
theorem accesses_l1 {K n : Nat} {p1 : List T_api_Access} {r : Int} (hn : p1.length = n) (hl : n < 4611686018427387904) : ∀ (d k i : Nat) (l : List T_api_Access), l.length = n → l.take i = (List.replicate n (ent r)).take i → i + d = n → d < k →
    plunderlaw2_book_accesses_l1 K p1 r k l (i : Int) = some (List.replicate n (ent r))
  | d, k, i, l, hll, ht, h, hk => by
    obtain ⟨k, rfl⟩ : ∃ m, k = m + 1 := ⟨k - 1, by omega⟩
    rw [plunderlaw2_book_accesses_l1]
    by_cases hi : i < n
    · obtain ⟨d, rfl⟩ : ∃ m, d = m + 1 := ⟨d - 1, by omega⟩
      rw [if_pos (by omega), plunderlaw2_entry, ob1_some, if_pos ⟨by omega, by omega⟩, wi1 (by omega) (by omega), Int.toNat_natCast, show ((i : Int) + 1) = ((i + 1 : Nat) : Int) by omega]
      have := take_put (l := l) (p := List.replicate n (ent r)) ht (by simpa using hi) (by omega)
      rw [at_rep hi] at this
      exact accesses_l1 hn hl d k (i + 1) _ (by rw [List.length_set]; exact hll) this (by omega) (by omega)
    · rw [if_neg (by omega)]
      have := of_take ht (by simp <;> omega)
      rw [this, List.drop_of_length_le (by simp <;> omega), List.append_nil]
theorem accesses_l2 {K : Nat} {r : Int} : ∀ (d k i : Nat) (l : List T_api_Access), i + d = 64 → d < k → l.length ≤ 1099511627776 + i → plunderlaw2_book_accesses_l2 K r k l (i : Int) = some ()
  | d, k, i, l, h, hk, hl => by
    obtain ⟨k, rfl⟩ : ∃ m, k = m + 1 := ⟨k - 1, by omega⟩
    rw [plunderlaw2_book_accesses_l2]
    by_cases hi : i < 64
    · obtain ⟨d, rfl⟩ : ∃ m, d = m + 1 := ⟨d - 1, by omega⟩
      rw [if_pos (by omega), plunderlaw2_entry, ob1_some, if_pos (by omega), wi1 (by omega) (by omega), show ((i : Int) + 1) = ((i + 1 : Nat) : Int) by omega]
      exact accesses_l2 d k (i + 1) _ (by omega) (by omega) (by rw [List.length_append]; simp; omega)
    · rw [if_neg (by omega)]
theorem accesses_eq {K : Nat} (hK : 4000000 < K) (b : T_plunderlaw2_book) {l : List T_api_Access} (hl : l.length ≤ 2097152) (hn : b.accessLists.length ≤ 1099511627776) :
    ∃ m x, plunderlaw2_book_accesses K b l = some { b with next := x, accessLists := b.accessLists ++ [shapeA m l.length] } := by
  unfold plunderlaw2_book_accesses plunderlaw2_book_mark
  simp only [ob2_some]
  generalize hr : wi ((wi ((1000003 : Int) * (wi (b.next + (16 : Int))))) + (7 : Int)) = r
  have h1 := accesses_l1 (K := K) (p1 := l) (n := l.length) (r := r) rfl (by omega) l.length K 0 l rfl rfl (by omega) (by omega)
  simp only [Int.natCast_zero] at h1
  rw [h1, ob1_some]
  simp only [plunderlaw2_entry, ob1_some]
  rw [if_pos (by simp <;> omega)]
  have h3 := fun x => accesses_l2 (K := K) (r := r) 63 K 1 (List.replicate l.length (ent r) ++ [x]) (by omega) (by omega) (by simp <;> omega)
  simp only [Int.natCast_one] at h3
  rw [h3, ob0_some, if_pos (by simp <;> omega), if_pos (by simp <;> omega), if_pos (by simp <;> omega), if_pos (by show (b.accessLists.length + 1) * 104 ≤ _; omega)]
  exact ⟨r, wi (b.next + 16), by simp [shapeA, shape, ent]⟩
theorem full_l {K n : Nat} {g : List Int} {m : Int} (hn : n < 4611686018427387904) (hg : n ≤ g.length) (hm : ∀ i, i < n → at_ g i = m) : ∀ (d k i : Nat), i + d = n → d < k → plunderlaw2_full_l1 K g (n : Int) m k (i : Int) = some true
  | d, k, i, h, hk => by
    obtain ⟨k, rfl⟩ : ∃ m, k = m + 1 := ⟨k - 1, by omega⟩
    rw [plunderlaw2_full_l1]
    by_cases hi : i < n
    · obtain ⟨d, rfl⟩ : ∃ m, d = m + 1 := ⟨d - 1, by omega⟩
      rw [if_pos (by omega), if_pos ⟨by omega, by omega⟩, Int.toNat_natCast, if_pos (hm i hi), wi1 (by omega) (by omega), show ((i : Int) + 1) = ((i + 1 : Nat) : Int) by omega]
      exact full_l hn hg hm d k (i + 1) (by omega) (by omega)
    · rw [if_neg (by omega)]
theorem full_eq {K n : Nat} {m : Int} (hn : n ≤ 2097152) (hK : 4000000 < K) (q : List Int) : plunderlaw2_full K (List.replicate n m ++ q) (n : Int) m = some true := by
  unfold plunderlaw2_full
  rw [if_neg (by simp <;> omega)]
  have := full_l (K := K) (n := n) (g := List.replicate n m ++ q) (m := m) (by omega) (by simp) (fun i hi => by rw [at_append_left (by simpa using hi), at_rep hi]) n K 0 (by omega) (by omega)
  simpa using this
theorem at_repapp {n i : Nat} {m : Int} {q : List Int} : at_ (List.replicate n m ++ q) (n + i) = at_ q i := by
  have := at_app (p := List.replicate n m) (q := q) (i := i)
  rwa [List.length_replicate] at this
theorem stand_eq {K n : Nat} {m : Int} (hn : n ≤ 2097152) (hK : 4000000 < K) : plunderlaw2_stand K (shape m n) = some true := by
  have f0 := full_eq (K := K) (m := m) hn hK []
  rw [List.append_nil] at f0
  have w1 : wi ((n : Int) + (1 : Int)) = (n : Int) + 1 := wi_in (by omega)
  have w2 : wi ((n : Int) + (2 : Int)) = (n : Int) + 2 := wi_in (by omega)
  have w3 : wi ((n : Int) + (3 : Int)) = (n : Int) + 3 := wi_in (by omega)
  have n1 : ((n : Int) + 1).toNat = n + 1 := by omega
  have n2 : ((n : Int) + 2).toNat = n + 2 := by omega
  have b1 : wi (wi (m + 1) - m) = 1 := wi_back (by decide)
  have b2 : wi (wi (m + 2) - m) = 2 := wi_back (by decide)
  have b3 : wi (wi (m + 3) - m) = 3 := wi_back (by decide)
  have a0 : ∀ q : List Int, at_ (List.replicate n m ++ q) n = at_ q 0 := fun q => at_repapp (i := 0)
  unfold plunderlaw2_stand shape
  simp only [List.length_replicate]
  rw [f0, ob1_some, if_pos rfl, full_eq hn hK, ob1_some, if_pos rfl, full_eq hn hK, ob1_some, if_pos rfl, full_eq hn hK, ob1_some, if_pos rfl, jn0_inl, w1, w2, w3,
    if_pos (by simp), if_pos (by simp), if_pos (by simp), jn0_inl, if_pos ⟨by omega, by simp <;> omega⟩, if_pos ⟨by omega, by simp <;> omega⟩, if_pos ⟨by omega, by simp <;> omega⟩, Int.toNat_natCast, n1, n2]
  rw [a0, a0, a0, at_repapp, at_repapp, at_repapp]
  rw [if_pos (show wi (at_ [wi (m + 1)] 0 - m) = 1 from b1), if_pos (show wi (at_ [wi (m + 2), wi (m + 3)] 0 - m) = 2 from b2), if_pos (show wi (at_ [wi (m + 2), wi (m + 3)] 1 - m) = 3 from b3), jn0_inl,
    if_pos ⟨by omega, by simp <;> omega⟩, if_pos (show at_ [wi (m + 4), wi (m + 5), wi (m + 6)] 0 = wi (m + 4) from rfl), if_pos ⟨by omega, by simp <;> omega⟩, if_pos (show at_ [wi (m + 4), wi (m + 5), wi (m + 6)] 1 = wi (m + 5) from rfl), if_pos ⟨by omega, by simp <;> omega⟩]
  exact congrArg some (beq_self_eq_true (wi (m + 6)))
theorem plain_l {K : Nat} {xs : List Int} (hl : xs.length ≤ 4194304) : ∀ (d k i : Nat) (l : List Int), i + d = xs.length → d < k → l.length = i → plunderlaw2_plain_l1 K (xs.map ent) k l (i : Int) = some (l ++ xs.drop i)
  | d, k, i, l, h, hk, hll => by
    obtain ⟨k, rfl⟩ : ∃ m, k = m + 1 := ⟨k - 1, by omega⟩
    rw [plunderlaw2_plain_l1]
    by_cases hi : i < xs.length
    · obtain ⟨d, rfl⟩ : ∃ m, d = m + 1 := ⟨d - 1, by omega⟩
      have ha : at_ (xs.map ent) i = ent (at_ xs i) := by
        unfold at_; rw [List.getD_eq_getElem?_getD, List.getD_eq_getElem?_getD, List.getElem?_map, List.getElem?_eq_getElem hi]; rfl
      rw [if_pos (by simp <;> omega), if_pos ⟨by omega, by simp <;> omega⟩, Int.toNat_natCast, ha, plunderlaw2_entry, ob1_some, if_pos (show ent (at_ xs i) = ⟨-3, 9, -4, (ent (at_ xs i)).A, wi (0 - (ent (at_ xs i)).A), true⟩ from rfl), if_pos (by omega), wi1 (by omega) (by omega), show ((i : Int) + 1) = ((i + 1 : Nat) : Int) by omega,
        plain_l hl d k (i + 1) _ (by omega) (by omega) (by simp <;> omega), drop_cons hi, List.append_assoc]
      rfl
    · rw [if_neg (by simp <;> omega), List.drop_of_length_le (by omega), List.append_nil]
theorem plain_eq {K : Nat} {xs : List Int} (hl : xs.length ≤ 3000000) (hK : 4000000 < K) : plunderlaw2_plain K (xs.map ent) = some xs := by
  unfold plunderlaw2_plain
  have := plain_l (K := K) (xs := xs) (by omega) xs.length K 0 [] (by omega) (by omega) rfl
  simpa using this
theorem stands_l1 {K : Nat} {b : T_plunderlaw2_book} (hK : 4000000 < K) (hb : b.numberLists.length ≤ 1048576) (hs : ∀ x ∈ b.numberLists, ∃ m n, n ≤ 2097152 ∧ x = shape m n) : ∀ (d k i : Nat), i + d = b.numberLists.length → d < k →
    plunderlaw2_book_stands_l1 K b k (i : Int) = some (.inl ())
  | d, k, i, h, hk => by
    obtain ⟨k, rfl⟩ : ∃ m, k = m + 1 := ⟨k - 1, by omega⟩
    rw [plunderlaw2_book_stands_l1]
    by_cases hi : i < b.numberLists.length
    · obtain ⟨d, rfl⟩ : ∃ m, d = m + 1 := ⟨d - 1, by omega⟩
      obtain ⟨m, n, hn, hx⟩ := hs _ (List.mem_of_getElem? (get_at hi))
      rw [if_pos (by omega), if_pos ⟨by omega, by omega⟩, Int.toNat_natCast, hx, stand_eq hn hK, ob1_some, if_pos rfl, wi1 (by omega) (by omega), show ((i : Int) + 1) = ((i + 1 : Nat) : Int) by omega]
      exact stands_l1 hK hb hs d k (i + 1) (by omega) (by omega)
    · rw [if_neg (by omega)]
theorem stands_l2 {K : Nat} {b : T_plunderlaw2_book} (hK : 4000000 < K) (hb : b.accessLists.length ≤ 1048576) (hs : ∀ x ∈ b.accessLists, ∃ m n, n ≤ 2097152 ∧ x = shapeA m n) : ∀ (d k i : Nat), i + d = b.accessLists.length → d < k →
    plunderlaw2_book_stands_l2 K b k (i : Int) = some true
  | d, k, i, h, hk => by
    obtain ⟨k, rfl⟩ : ∃ m, k = m + 1 := ⟨k - 1, by omega⟩
    rw [plunderlaw2_book_stands_l2]
    by_cases hi : i < b.accessLists.length
    · obtain ⟨d, rfl⟩ : ∃ m, d = m + 1 := ⟨d - 1, by omega⟩
      obtain ⟨m, n, hn, hx⟩ := hs _ (List.mem_of_getElem? (get_at hi))
      rw [if_pos (by omega), if_pos ⟨by omega, by omega⟩, Int.toNat_natCast, hx]
      simp only [shapeA]
      rw [plain_eq (by simp [shape]; omega) hK, ob1_some, plain_eq (by simp [shape]; omega) hK, ob1_some, plain_eq (by simp [shape]; omega) hK, ob1_some, plain_eq (by simp [shape]; omega) hK, ob1_some,
        show (⟨m, (shape m n).l, (shape m n).g1, (shape m n).g2, (shape m n).g3⟩ : T_plunderlaw2_kept) = shape m n from rfl, stand_eq hn hK, ob1_some, if_pos rfl, wi1 (by omega) (by omega), show ((i : Int) + 1) = ((i + 1 : Nat) : Int) by omega]
      exact stands_l2 hK hb hs d k (i + 1) (by omega) (by omega)
    · rw [if_neg (by omega)]
theorem stands_eq {K : Nat} {b : T_plunderlaw2_book} (hK : 4000000 < K) (h1 : b.numberLists.length ≤ 1048576) (h2 : b.accessLists.length ≤ 1048576) (hs : ∀ x ∈ b.numberLists, ∃ m n, n ≤ 2097152 ∧ x = shape m n) (ht : ∀ x ∈ b.accessLists, ∃ m n, n ≤ 2097152 ∧ x = shapeA m n) :
    plunderlaw2_book_stands K b = some true := by
  unfold plunderlaw2_book_stands
  have a := stands_l1 hK h1 hs b.numberLists.length K 0 (by omega) (by omega)
  have c := stands_l2 hK h2 ht b.accessLists.length K 0 (by omega) (by omega)
  simp only [Int.natCast_zero] at a c
  rw [a, jn0_inl, c]

/-! ### the play, on both sides -/
theorem act_same' {K : Nat} (hK : 4000000 < K) {S : T_cells_Arena} {R : T_plunderref2_Arena} {n : Nat} (h : Same S R n) (hn : n < 1099511627776) (x : T_api_Act) :
    ∃ e S' R', cells_Arena_act S x = some (e, S') ∧ plunderref2_Arena_Do K { R with Actor := x.Who } x = some (e, R') ∧ Same S' R' (n + 1) ∧ R'.Most = R.Most := by
  have h1 : Same { S with actor := x.Who } { R with Actor := x.Who } n := ⟨h.size, h.mark, h.cell, h.log, rfl, h.on, h.most, h.held, h.book⟩
  have e1 : cells_Arena_act S x = cells_Arena_act { S with actor := x.Who } x := rfl
  rw [e1]
  by_cases k0 : 0 ≤ x.Kind
  · by_cases k4 : x.Kind ≤ 4
    · exact act_same hK h1 hn x rfl k0 k4
    · refine ⟨⟨0, false, 23⟩, _, _, ?_, ?_, h1.up (Nat.le_succ n), rfl⟩
      · unfold cells_Arena_act cells_Arena_Who
        rw [ob1_some, if_neg (by omega), if_neg (by omega), if_neg (by omega), if_neg (by omega), if_neg (by omega)]
      · unfold plunderref2_Arena_Do plunderref2_refused
        rw [if_neg (by omega), if_pos (by omega), ob1_some, jn0_inr]
  · refine ⟨⟨0, false, 23⟩, _, _, ?_, ?_, h1.up (Nat.le_succ n), rfl⟩
    · unfold cells_Arena_act cells_Arena_Who
      rw [ob1_some, if_neg (by omega), if_neg (by omega), if_neg (by omega), if_neg (by omega), if_neg (by omega)]
    · unfold plunderref2_Arena_Do plunderref2_refused
      rw [if_pos (by omega), ob1_some, jn0_inr]
theorem play_both {K : Nat} (hK : 4000000 < K) {p : List T_api_Act} (hp : p.length ≤ 4096) : ∀ (d k i : Nat) (S : T_cells_Arena) (R : T_plunderref2_Arena) (l : List T_api_Effect), i + d = p.length → d < k → Same S R i → l.length = i →
    ∃ S' R' l', cells_Play_l1 K p k S l (i : Int) = some (S', l') ∧ plunderref2_Play_l1 K p k l R (i : Int) = some (l', R') ∧ Same S' R' p.length ∧ l'.length = p.length
  | d, k, i, S, R, l, h, hk, hs, hl => by
    obtain ⟨k, rfl⟩ : ∃ m, k = m + 1 := ⟨k - 1, by omega⟩
    rw [cells_Play_l1, plunderref2_Play_l1]
    by_cases hi : i < p.length
    · obtain ⟨d, rfl⟩ : ∃ m, d = m + 1 := ⟨d - 1, by omega⟩
      obtain ⟨e, S', R', e1, e2, e3, e4⟩ := act_same' hK hs (by omega) (at_ p i)
      rw [if_pos (by omega), if_pos ⟨by omega, by omega⟩, if_pos (by omega), if_pos ⟨by omega, by omega⟩, Int.toNat_natCast, e1, e2, ob2_some, ob2_some, if_pos (by omega), if_pos (by omega), wi1 (by omega) (by omega), show ((i : Int) + 1) = ((i + 1 : Nat) : Int) by omega]
      exact play_both hK hp d k (i + 1) S' R' _ (by omega) (by omega) e3 (by simp <;> omega)
    · rw [if_neg (by omega), if_neg (by omega)]
      exact ⟨S, R, l, rfl, rfl, hs.up (by omega), by omega⟩
theorem rcells_l {K : Nat} {R : T_plunderref2_Arena} (hh : R.Held.length ≤ 1048576) : ∀ (d k i : Nat) (l : List Int), i + d = R.Held.length → d < k → l.length = i → plunderref2_Arena_Cells_l1 K R k l (i : Int) = some (l ++ R.Held.drop i)
  | d, k, i, l, h, hk, hl => by
    obtain ⟨k, rfl⟩ : ∃ m, k = m + 1 := ⟨k - 1, by omega⟩
    rw [plunderref2_Arena_Cells_l1]
    by_cases hi : i < R.Held.length
    · obtain ⟨d, rfl⟩ : ∃ m, d = m + 1 := ⟨d - 1, by omega⟩
      rw [if_pos (by omega), if_pos ⟨by omega, by omega⟩, if_pos (by omega), Int.toNat_natCast, wi1 (by omega) (by omega), show ((i : Int) + 1) = ((i + 1 : Nat) : Int) by omega, rcells_l hh d k (i + 1) _ (by omega) (by omega) (by simp <;> omega), drop_cons hi, List.append_assoc]
      rfl
    · rw [if_neg (by omega), List.drop_of_length_le (by omega), List.append_nil]
theorem rlog_l {K : Nat} {R : T_plunderref2_Arena} (hh : R.Book.length ≤ 1048576) : ∀ (d k i : Nat) (l : List T_api_Access), i + d = R.Book.length → d < k → l.length = i → plunderref2_Arena_Log_l1 K R k l (i : Int) = some (l ++ R.Book.drop i)
  | d, k, i, l, h, hk, hl => by
    obtain ⟨k, rfl⟩ : ∃ m, k = m + 1 := ⟨k - 1, by omega⟩
    rw [plunderref2_Arena_Log_l1]
    by_cases hi : i < R.Book.length
    · obtain ⟨d, rfl⟩ : ∃ m, d = m + 1 := ⟨d - 1, by omega⟩
      rw [if_pos (by omega), if_pos ⟨by omega, by omega⟩, if_pos (by omega), Int.toNat_natCast, wi1 (by omega) (by omega), show ((i : Int) + 1) = ((i + 1 : Nat) : Int) by omega, rlog_l hh d k (i + 1) _ (by omega) (by omega) (by simp <;> omega), drop_cons hi, List.append_assoc]
      rfl
    · rw [if_neg (by omega), List.drop_of_length_le (by omega), List.append_nil]
theorem play_same {K : Nat} (hK : 4000000 < K) (n0 : Int) (p : List T_api_Act) : ∃ run e, cells_Play K n0 p = some (run, e) ∧ plunderref2_Play K n0 p = some (run, e) ∧ run.Effects.length ≤ 4096 ∧ run.Cells.length ≤ 1048576 ∧ run.Log.length ≤ 4096 := by
  unfold cells_Play plunderref2_Play
  rcases new_cases n0 with ⟨R, S, a1, a2, a3⟩ | ⟨R, a1, a2, a3⟩
  · rw [a1, a2, ob2_some, ob2_some]
    simp only []
    by_cases hp : ((p.length : Nat) : Int) > 4096
    · simp only [reduceIte]
      rw [if_pos hp, if_pos hp]
      exact ⟨_, _, rfl, rfl, by simp, by simp, by simp⟩
    · simp only [reduceIte]
      rw [if_neg hp, if_neg hp]
      have h1 : Same { S with watched := true } { R with On := true } 0 := ⟨a3.size, a3.mark, a3.cell, a3.log, a3.actor, rfl, a3.most, a3.held, a3.book⟩
      obtain ⟨S', R', l', e1, e2, e3, e4⟩ := play_both hK (p := p) (by omega) p.length K 0 _ _ [] (by omega) (by omega) h1 rfl
      simp only [Int.natCast_zero] at e1 e2
      have hheld := e3.held
      have hmost := e3.most
      have hbook := e3.book
      have c1 := rcells_l (K := K) (R := R') (by omega) R'.Held.length K 0 [] (by omega) (by omega) rfl
      have c2 := rlog_l (K := K) (R := R') (by omega) R'.Book.length K 0 [] (by omega) (by omega) rfl
      simp only [Int.natCast_zero, List.drop_zero, List.nil_append] at c1 c2
      unfold cells_Arena_Watch plunderref2_Arena_Cells plunderref2_Arena_Log
      rw [ob1_some, e1, e2, ob2_some, ob2_some, c1, c2, cells_eq (S := S') (by rw [e3.cell]; omega), log_eq (S := S') (by rw [e3.log]; omega), ob1_some, ob1_some, ob1_some, ob1_some, e3.cell, e3.log]
      exact ⟨_, _, rfl, rfl, by show l'.length ≤ 4096; omega, by show R'.Held.length ≤ 1048576; omega, by show R'.Book.length ≤ 4096; omega⟩
  · rw [a1, a2, ob2_some, ob2_some]
    simp only []
    rw [if_neg (by decide), if_neg (by decide)]
    exact ⟨_, _, rfl, rfl, by simp, by simp, by simp⟩

/-! ### the law -/
theorem fx_l1 {K : Nat} {run : T_api_CellRun} (hl : run.Effects.length ≤ 4096) : ∀ (d k i : Nat) (l : List T_api_Effect), l.length = run.Effects.length → i + d = run.Effects.length → d < k → ∃ l', plunderlaw2_CellsPlay_l1 K run k l (i : Int) = some l' ∧ l'.length = run.Effects.length
  | d, k, i, l, hll, h, hk => by
    obtain ⟨k, rfl⟩ : ∃ m, k = m + 1 := ⟨k - 1, by omega⟩
    rw [plunderlaw2_CellsPlay_l1]
    by_cases hi : i < run.Effects.length
    · obtain ⟨d, rfl⟩ : ∃ m, d = m + 1 := ⟨d - 1, by omega⟩
      rw [if_pos (by omega), if_pos ⟨by omega, by omega⟩, wi1 (by omega) (by omega), show ((i : Int) + 1) = ((i + 1 : Nat) : Int) by omega]
      exact fx_l1 hl d k (i + 1) _ (by rw [List.length_set]; exact hll) (by omega) (by omega)
    · rw [if_neg (by omega)]
      exact ⟨l, rfl, hll⟩
theorem fx_l2 {K : Nat} : ∀ (d k i : Nat) (l : List T_api_Effect), i + d = 64 → d < k → l.length ≤ 4096 + i → ∃ l', plunderlaw2_CellsPlay_l2 K k l (i : Int) = some l'
  | d, k, i, l, h, hk, hl => by
    obtain ⟨k, rfl⟩ : ∃ m, k = m + 1 := ⟨k - 1, by omega⟩
    rw [plunderlaw2_CellsPlay_l2]
    by_cases hi : i < 64
    · obtain ⟨d, rfl⟩ : ∃ m, d = m + 1 := ⟨d - 1, by omega⟩
      rw [if_pos (by omega), if_pos (by omega), wi1 (by omega) (by omega), show ((i : Int) + 1) = ((i + 1 : Nat) : Int) by omega]
      exact fx_l2 d k (i + 1) _ (by omega) (by omega) (by simp <;> omega)
    · rw [if_neg (by omega)]
      exact ⟨l, rfl⟩
theorem placed_true {K : Nat} (hK : 4000000 < K) (n0 : Int) {p : List T_api_Act} (hp : p.length ≤ 1048576) : plunderlaw2_playPlaced K n0 p = some true := by
  unfold plunderlaw2_playPlaced
  obtain ⟨t, t1, t2⟩ := turned_eq hp hK
  obtain ⟨r1, e1, a1, a2, a3, a4, a5⟩ := play_same hK n0 t
  obtain ⟨r2, e2, b1, b2, b3, b4, b5⟩ := play_same hK n0 p
  have hlay : plunderlaw2_lay K (t ++ [mk0, mk1]) p = some (p ++ [mk0, mk1]) := by
    unfold plunderlaw2_lay
    have := lay_l (K := K) (p := p) (by omega) p.length K 0 (t ++ [mk0, mk1]) (by omega) (by omega) (by simp <;> omega) rfl
    simp only [Int.natCast_zero] at this
    rw [this, ← t2, List.drop_left]
  have tk1 : (t ++ [mk0, mk1]).take (((p.length : Nat) : Int).toNat) = t := by rw [Int.toNat_natCast, ← t2, List.take_left]
  have tk2 : (p ++ [mk0, mk1]).take (((p.length : Nat) : Int).toNat) = p := by rw [Int.toNat_natCast, List.take_left]
  rw [t1, ob1_some, handed_eq (by omega) hK, ob1_some, if_pos ⟨by omega, by simp <;> omega⟩, tk1, a1, ob2_some, hlay, ob1_some, if_pos ⟨by omega, by simp <;> omega⟩, tk2, b1, ob2_some, a2, ob2_some, b2, ob2_some]
  rw [if_pos rfl, if_pos rfl, sameEffects_eq (by omega) (by omega), ob1_some, if_pos (by simp), sameNumbers_eq (by omega) (by omega), ob1_some, if_pos (by simp), sameLog_eq (by omega) (by omega), ob1_some, if_pos (by simp), jn0_inl,
    sameEffects_eq (by omega) (by omega), ob1_some, if_pos (by simp), sameNumbers_eq (by omega) (by omega), ob1_some, if_pos (by simp), sameLog_eq (by omega) (by omega), ob1_some, if_pos (by simp), untouched_eq hp hK, ob1_some]
theorem play_true {K : Nat} (hK : 4000000 < K) (n0 : Int) {p : List T_api_Act} (hp : p.length ≤ 1048576) : plunderlaw2_CellsPlay K n0 p = some true := by
  unfold plunderlaw2_CellsPlay
  obtain ⟨r, e, b1, b2, b3, b4, b5⟩ := play_same hK n0 p
  have tk2 : (p ++ [mk0, mk1]).take (((p.length : Nat) : Int).toNat) = p := by rw [Int.toNat_natCast, List.take_left]
  obtain ⟨l1, x1, x2⟩ := fx_l1 (K := K) (run := r) b3 r.Effects.length K 0 r.Effects rfl (by omega) (by omega)
  obtain ⟨l2, x3⟩ := fx_l2 (K := K) 64 K 0 l1 (by omega) (by omega) (by omega)
  simp only [Int.natCast_zero] at x1 x3
  obtain ⟨m1, n1, y1⟩ := numbers_eq (K := K) (by omega) ⟨[], [], 0⟩ (l := r.Cells) b4 (by simp)
  obtain ⟨m2, n2, y2⟩ := accesses_eq (K := K) hK { ({ numberLists := [], accessLists := [], next := 0 } : T_plunderlaw2_book) with next := n1, numberLists := [] ++ [shape m1 r.Cells.length] } (l := r.Log) (by omega) (by simp)
  simp only [List.nil_append] at y1 y2
  obtain ⟨m3, n3, y3⟩ := numbers_eq (K := K) (by omega) { numberLists := [shape m1 r.Cells.length], accessLists := [shapeA m2 r.Log.length], next := n2 } (l := r.Cells) b4 (by simp)
  obtain ⟨m4, n4, y4⟩ := accesses_eq (K := K) hK { numberLists := [shape m1 r.Cells.length] ++ [shape m3 r.Cells.length], accessLists := [shapeA m2 r.Log.length], next := n3 } (l := r.Log) (by omega) (by simp)
  rw [b2, ob2_some, handed_eq (by omega) hK, ob1_some, if_pos ⟨by omega, by simp <;> omega⟩, tk2, b1, ob2_some, ob2_some]
  rw [if_pos rfl, if_pos rfl, sameEffects_eq (by omega) (by omega), ob1_some, if_pos (by simp), sameNumbers_eq (by omega) (by omega), ob1_some, if_pos (by simp), sameLog_eq (by omega) (by omega), ob1_some, if_pos (by simp), jn0_inl,
    x1, ob1_some, x3, ob1_some, y1, ob1_some, y2, ob1_some, jn0_inl, y3, ob1_some, y4, ob1_some, untouched_eq hp hK, ob1_some, if_pos rfl]
  rw [stands_eq hK (by simp) (by simp) (fun x hx => by
    simp at hx
    rcases hx with rfl | rfl
    · exact ⟨m1, _, by omega, rfl⟩
    · exact ⟨m3, _, by omega, rfl⟩) (fun x hx => by
    simp at hx
    rcases hx with rfl | rfl
    · exact ⟨m2, _, by omega, rfl⟩
    · exact ⟨m4, _, by omega, rfl⟩), ob1_some, if_pos rfl, placed_true hK n0 hp, ob1_some]
end Go.Proofs.Ytacgigkonoegiaa.Mo
