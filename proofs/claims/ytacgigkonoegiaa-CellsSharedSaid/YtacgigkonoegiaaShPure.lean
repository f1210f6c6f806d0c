/- Two Shared in turns: what the walk's plain functions answer. No memory is spoken of. Printed by mkshared.py. -/
import Derived.Test.YtacgigkonoegiaaCh2
namespace Go.Proofs.Ytacgigkonoegiaa.Mo
open Go Go.Proofs.Ytacgigkonoegiaa.SL Go.Proofs.Ytacgigkonoegiaa.GX
set_option linter.unusedVariables false
set_option linter.unusedSimpArgs false
theorem at_rep {α : Type} [Inhabited α] {n i : Nat} {x : α} (h : i < n) : at_ (List.replicate n x) i = x := by
  unfold at_; rw [List.getD_eq_getElem?_getD, List.getElem?_replicate, if_pos h]; rfl
theorem at_appl {α : Type} [Inhabited α] {l m : List α} {q : Nat} (h : q < l.length) : at_ (l ++ m) q = at_ l q := by
  unfold at_; rw [List.getD_eq_getElem?_getD, List.getD_eq_getElem?_getD, List.getElem?_append_left h]
theorem at_appr {α : Type} [Inhabited α] {l m : List α} {q : Nat} (h : l.length ≤ q) : at_ (l ++ m) q = at_ m (q - l.length) := by
  unfold at_; rw [List.getD_eq_getElem?_getD, List.getD_eq_getElem?_getD, List.getElem?_append_right h]
theorem mod_ok (x : Int) {m : Int} (hm : 0 < m) (hm2 : m ≤ 1048576) : ∃ r, plunderlaw2_mod x m = some r ∧ 0 ≤ r ∧ r < m := by
  unfold plunderlaw2_mod
  rw [if_pos (by omega)]
  have h1 := Int.tmod_lt_of_pos x hm
  have h2 : -m < x.tmod m := by
    have := Int.tmod_lt_of_pos (-x) hm
    rw [Int.neg_tmod] at this
    omega
  by_cases h : x.tmod m < 0
  · rw [if_pos h]
    exact ⟨_, rfl, by rw [wi_in (by omega)]; omega, by rw [wi_in (by omega)]; omega⟩
  · rw [if_neg h]
    exact ⟨_, rfl, by omega, h1⟩
/-- What an act on plain cells answers, and the cells behind it. -/
def pl (sz : Int) (c : List Int) (k ad x y : Int) : T_api_Effect × List Int :=
  if k = 4 then (if x < 1 then (⟨0, false, 21⟩, c) else if x > sz - (c.length : Int) then (⟨0, false, 22⟩, c) else (⟨(c.length : Int), true, 0⟩, c ++ List.replicate x.toNat 0))
  else if 0 ≤ ad ∧ ad < (c.length : Int) then
    (if k = 0 then (⟨at_ c ad.toNat, true, 0⟩, c) else if k = 1 then (⟨0, true, 0⟩, c.set ad.toNat x)
     else if k = 2 then (if at_ c ad.toNat = x then (⟨0, true, 0⟩, c.set ad.toNat y) else (⟨0, false, 0⟩, c))
     else (⟨wi (at_ c ad.toNat + x), true, 0⟩, c.set ad.toNat (wi (at_ c ad.toNat + x))))
  else (⟨0, false, 20⟩, c)
/-- Shared cells hold these. -/
structure Ls (sz : Int) (c : List Int) (S : T_cells_Shared) : Prop where
  size : S.ledger_size = sz
  mark : S.ledger_mark = (c.length : Int)
  lock : S.lock_mu_state = 0
  given : S.given_v = (c.length : Int)
  len : (S.cell.length : Int) = sz
  le : (c.length : Int) ≤ sz ∧ sz ≤ 1048576
  lo : ∀ i : Nat, i < c.length → (at_ S.cell i).v = at_ c i
  hi : ∀ i : Nat, c.length ≤ i → (i : Int) < sz → (at_ S.cell i).v = 0
section
variable {S : T_cells_Shared} {sz : Int} {c : List Int}
theorem Ls.out (h : Ls sz c S) (i : Int) : cells_Shared_outside S i = some (!decide (0 ≤ i ∧ i < (c.length : Int))) := by
  unfold cells_Shared_outside
  by_cases h0 : i < 0
  · rw [if_pos h0, decide_eq_false (by omega)]; rfl
  · rw [if_neg h0, h.given]
    by_cases h1 : i ≥ (c.length : Int)
    · rw [decide_eq_true h1, decide_eq_false (by omega)]; rfl
    · rw [decide_eq_false h1, decide_eq_true (by omega)]; rfl
theorem Ls.set (h : Ls sz c S) {i : Int} (hi : 0 ≤ i ∧ i < (c.length : Int)) (v : Int) : Ls sz (c.set i.toNat v) { S with cell := S.cell.set i.toNat ⟨v⟩ } := by
  have hl := h.len
  have hle := h.le
  refine ⟨h.size, by show S.ledger_mark = _; rw [List.length_set]; exact h.mark, h.lock, by show S.given_v = _; rw [List.length_set]; exact h.given, by show ((S.cell.set _ _).length : Int) = sz; rw [List.length_set]; exact hl, by rw [List.length_set]; exact hle, fun q hq => ?_, fun q h1 h2 => ?_⟩
  · rw [List.length_set] at hq
    show (at_ (S.cell.set i.toNat ⟨v⟩) q).v = _
    by_cases e : q = i.toNat
    · subst e; rw [at_set_same (by omega), at_set_same hq]
    · rw [at_set_ne (by omega), at_set_ne (by omega)]; exact h.lo q hq
  · rw [List.length_set] at h1
    show (at_ (S.cell.set i.toNat ⟨v⟩) q).v = _
    rw [at_set_ne (by omega)]; exact h.hi q h1 h2
theorem Ls.load (h : Ls sz c S) (i : Int) : cells_Shared_Load S i = some (if 0 ≤ i ∧ i < (c.length : Int) then (at_ c i.toNat, 0) else (0, 20)) := by
  have hl := h.len
  have hle := h.le
  unfold cells_Shared_Load
  rw [h.out, ob1_some]
  by_cases hi : 0 ≤ i ∧ i < (c.length : Int)
  · rw [decide_eq_true hi, if_neg (by simp), if_pos ⟨hi.1, by omega⟩, if_pos hi, h.lo i.toNat (by omega)]
  · rw [decide_eq_false hi, if_pos (by simp), if_neg hi]
theorem Ls.store (h : Ls sz c S) (i v : Int) : ∃ S', cells_Shared_Store S i v = some ((if 0 ≤ i ∧ i < (c.length : Int) then 0 else 20), S') ∧ Ls sz (if 0 ≤ i ∧ i < (c.length : Int) then c.set i.toNat v else c) S' := by
  have hl := h.len
  have hle := h.le
  unfold cells_Shared_Store
  rw [h.out, ob1_some]
  by_cases hi : 0 ≤ i ∧ i < (c.length : Int)
  · rw [decide_eq_true hi, if_neg (by simp), if_pos ⟨hi.1, by omega⟩, if_pos hi, if_pos hi]
    exact ⟨_, rfl, h.set hi v⟩
  · rw [decide_eq_false hi, if_pos (by simp), if_neg hi, if_neg hi]
    exact ⟨_, rfl, h⟩
theorem Ls.cas (h : Ls sz c S) (i x y : Int) : ∃ S', cells_Shared_CAS S i x y = some ((if 0 ≤ i ∧ i < (c.length : Int) then (if at_ c i.toNat = x then true else false) else false), (if 0 ≤ i ∧ i < (c.length : Int) then 0 else 20), S') ∧
    Ls sz (if 0 ≤ i ∧ i < (c.length : Int) then (if at_ c i.toNat = x then c.set i.toNat y else c) else c) S' := by
  have hl := h.len
  have hle := h.le
  unfold cells_Shared_CAS
  rw [h.out, ob1_some]
  by_cases hi : 0 ≤ i ∧ i < (c.length : Int)
  · rw [decide_eq_true hi, if_neg (by simp), if_pos ⟨hi.1, by omega⟩, if_pos hi, if_pos hi, if_pos hi, h.lo i.toNat (by omega)]
    by_cases hx : at_ c i.toNat = x
    · rw [if_pos hx, if_pos hx, if_pos hx]; exact ⟨_, rfl, h.set hi y⟩
    · rw [if_neg hx, if_neg hx, if_neg hx]; exact ⟨_, rfl, h⟩
  · rw [decide_eq_false hi, if_pos (by simp), if_neg hi, if_neg hi, if_neg hi]
    exact ⟨_, rfl, h⟩
theorem Ls.add (h : Ls sz c S) (i x : Int) : ∃ S', cells_Shared_Add S i x = some ((if 0 ≤ i ∧ i < (c.length : Int) then wi (at_ c i.toNat + x) else 0), (if 0 ≤ i ∧ i < (c.length : Int) then 0 else 20), S') ∧
    Ls sz (if 0 ≤ i ∧ i < (c.length : Int) then c.set i.toNat (wi (at_ c i.toNat + x)) else c) S' := by
  have hl := h.len
  have hle := h.le
  unfold cells_Shared_Add
  rw [h.out, ob1_some]
  by_cases hi : 0 ≤ i ∧ i < (c.length : Int)
  · rw [decide_eq_true hi, if_neg (by simp), if_pos ⟨hi.1, by omega⟩, if_pos hi, if_pos hi, if_pos hi, h.lo i.toNat (by omega)]
    exact ⟨_, rfl, h.set hi _⟩
  · rw [decide_eq_false hi, if_pos (by simp), if_neg hi, if_neg hi, if_neg hi]
    exact ⟨_, rfl, h⟩
theorem Ls.reserve (h : Ls sz c S) (x : Int) : ∃ S', cells_Shared_Reserve S x = some ((if x < 1 then 0 else if x > sz - (c.length : Int) then 0 else (c.length : Int)), (if x < 1 then 21 else if x > sz - (c.length : Int) then 22 else 0), S') ∧
    Ls sz (if x < 1 then c else if x > sz - (c.length : Int) then c else c ++ List.replicate x.toNat 0) S' := by
  have hl := h.len
  have hle := h.le
  have hS : ({ S with ledger_size := sz, ledger_mark := (c.length : Int), lock_mu_state := 0 } : T_cells_Shared) = S := by
    have h1 := h.size; have h2 := h.mark; have h3 := h.lock
    cases S; simp only at h1 h2 h3; rw [h1, h2, h3]
  unfold cells_Shared_Reserve cells_ledger_refuse cells_ledger_take
  rw [if_pos h.lock]
  simp only [h.size, h.mark]
  rw [wi_in (x := sz - (c.length : Int)) (by omega)]
  by_cases h1 : x < 1
  · rw [if_pos h1, ob1_some, if_neg (by decide), hS, if_pos h1, if_pos h1, if_pos h1]; exact ⟨S, rfl, h⟩
  · rw [if_neg h1, if_neg h1, if_neg h1, if_neg h1]
    by_cases h2 : x > sz - (c.length : Int)
    · rw [if_pos h2, ob1_some, if_neg (by decide), hS, if_pos h2, if_pos h2, if_pos h2]; exact ⟨S, rfl, h⟩
    · rw [if_neg h2, if_neg h2, if_neg h2, if_neg h2, ob1_some, if_pos rfl, ob2_some, wi_in (x := (c.length : Int) + x) (by omega)]
      simp only [reduceIte]
      refine ⟨_, rfl, ⟨rfl, by show (c.length : Int) + x = _; simp; omega, rfl, by show (c.length : Int) + x = _; simp; omega, hl, by simp; omega, fun i hi => ?_, fun i h3 h4 => ?_⟩⟩
      · show (at_ S.cell i).v = _
        by_cases hc : i < c.length
        · rw [at_appl hc]; exact h.lo i hc
        · rw [List.length_append, List.length_replicate] at hi
          rw [at_appr (by omega), at_rep (by omega)]; exact h.hi i (by omega) (by omega)
      · rw [List.length_append, List.length_replicate] at h3
        exact h.hi i (by omega) h4
theorem Ls.shared (h : Ls sz c S) (q k ad x y : Int) (h0 : 0 ≤ k) (h4 : k ≤ 4) : ∃ S', plunderlaw2_shared S ⟨q, k, ad, x, y⟩ = some ((pl sz c k ad x y).1, S') ∧ Ls sz (pl sz c k ad x y).2 S' := by
  unfold plunderlaw2_shared pl
  simp only
  by_cases k0 : k = 0
  · subst k0
    rw [if_pos rfl, if_neg (by decide), h.load]
    refine ⟨S, ?_, ?_⟩
    · by_cases hi : 0 ≤ ad ∧ ad < (c.length : Int)
      · rw [if_pos hi, if_pos hi]; rfl
      · rw [if_neg hi, if_neg hi]; rfl
    · by_cases hi : 0 ≤ ad ∧ ad < (c.length : Int)
      · rw [if_pos hi]; exact h
      · rw [if_neg hi]; exact h
  rw [if_neg k0]
  by_cases k1 : k = 1
  · subst k1
    obtain ⟨S', e1, e2⟩ := h.store ad x
    refine ⟨S', ?_, ?_⟩
    · rw [if_pos rfl, if_neg (by decide), e1]
      by_cases hi : 0 ≤ ad ∧ ad < (c.length : Int)
      · rw [if_pos hi, if_pos hi]; rfl
      · rw [if_neg hi, if_neg hi]; rfl
    · rw [if_neg (by decide)]
      by_cases hi : 0 ≤ ad ∧ ad < (c.length : Int)
      · rw [if_pos hi] at e2; rw [if_pos hi]; exact e2
      · rw [if_neg hi] at e2; rw [if_neg hi]; exact e2
  rw [if_neg k1]
  by_cases k2 : k = 2
  · subst k2
    obtain ⟨S', e1, e2⟩ := h.cas ad x y
    refine ⟨S', ?_, ?_⟩
    · rw [if_pos rfl, if_neg (by decide), e1]
      by_cases hi : 0 ≤ ad ∧ ad < (c.length : Int)
      · rw [if_pos hi, if_pos hi, if_pos hi]
        by_cases hx : at_ c ad.toNat = x
        · simp [hx]
        · simp [hx]
      · rw [if_neg hi, if_neg hi, if_neg hi]; rfl
    · rw [if_neg (by decide)]
      by_cases hi : 0 ≤ ad ∧ ad < (c.length : Int)
      · rw [if_pos hi] at e2; rw [if_pos hi, if_neg (by decide), if_neg (by decide), if_pos rfl]
        by_cases hx : at_ c ad.toNat = x
        · rw [if_pos hx] at e2; rw [if_pos hx]; exact e2
        · rw [if_neg hx] at e2; rw [if_neg hx]; exact e2
      · rw [if_neg hi] at e2; rw [if_neg hi]; exact e2
  rw [if_neg k2]
  by_cases k3 : k = 3
  · subst k3
    obtain ⟨S', e1, e2⟩ := h.add ad x
    refine ⟨S', ?_, ?_⟩
    · rw [if_pos rfl, if_neg (by decide), e1]
      by_cases hi : 0 ≤ ad ∧ ad < (c.length : Int)
      · rw [if_pos hi, if_pos hi, if_pos hi]; rfl
      · rw [if_neg hi, if_neg hi, if_neg hi]; rfl
    · rw [if_neg (by decide)]
      by_cases hi : 0 ≤ ad ∧ ad < (c.length : Int)
      · rw [if_pos hi] at e2; rw [if_pos hi]; exact e2
      · rw [if_neg hi] at e2; rw [if_neg hi]; exact e2
  rw [if_neg k3]
  obtain rfl : k = 4 := by omega
  obtain ⟨S', e1, e2⟩ := h.reserve x
  refine ⟨S', ?_, ?_⟩
  · rw [if_pos rfl, e1, ob3_some]
    by_cases h1 : x < 1
    · simp [h1]
    · by_cases h2 : x > sz - (c.length : Int)
      · simp [h1, h2]
      · simp [h1, h2]
  · rw [if_pos rfl]
    by_cases h1 : x < 1
    · rw [if_pos h1] at e2; rw [if_pos h1]; exact e2
    · rw [if_neg h1] at e2; rw [if_neg h1]
      by_cases h2 : x > sz - (c.length : Int)
      · rw [if_pos h2] at e2; rw [if_pos h2]; exact e2
      · rw [if_neg h2] at e2; rw [if_neg h2]; exact e2
theorem Ls.mark_ (h : Ls sz c S) : cells_Shared_Mark S = some ((c.length : Int), S) := by
  have hS : ({ S with lock_mu_state := 0 } : T_cells_Shared) = S := by
    have h3 := h.lock
    cases S; simp only at h3; rw [h3]
  unfold cells_Shared_Mark cells_ledger_Mark
  rw [if_pos h.lock, ob1_some, hS, h.mark]
theorem Ls.holds_l {K : Nat} {w : List Int} (h : Ls sz c S) : ∀ (d k i : Nat), i + d = c.length → d < k → plunderlaw2_holds_l1 K S c k (i : Int) = some (.inl ())
  | d, k, i, he, hk => by
    obtain ⟨k, rfl⟩ : ∃ m, k = m + 1 := ⟨k - 1, by omega⟩
    have hle := h.le
    rw [plunderlaw2_holds_l1]
    by_cases hi : i < c.length
    · obtain ⟨d, rfl⟩ : ∃ m, d = m + 1 := ⟨d - 1, by omega⟩
      rw [if_pos (by omega), h.load, if_pos ⟨by omega, by omega⟩, ob2_some, if_pos rfl, if_pos ⟨by omega, by omega⟩, if_pos rfl, wi_in (x := (i : Int) + 1) (by omega), show ((i : Int) + 1) = ((i + 1 : Nat) : Int) by omega]
      exact h.holds_l (w := w) d k (i + 1) (by omega) (by omega)
    · rw [if_neg (by omega)]
theorem Ls.holds (h : Ls sz c S) {K : Nat} (hK : c.length < K) : plunderlaw2_holds K S c = some (true, S) := by
  unfold plunderlaw2_holds
  have := h.holds_l (K := K) (w := []) c.length K 0 (by omega) hK
  simp only [Int.natCast_zero] at this
  rw [this, jn0_inl, h.load, if_neg (by omega), ob2_some, if_pos rfl, h.mark_, ob2_some]
  simp
theorem Ls.fresh (h0 : 0 ≤ sz) (h1 : sz ≤ 1048576) : cells_NewShared sz = some (some ⟨sz, 0, 0, 0, 0, List.replicate sz.toNat ⟨0⟩⟩, 0) ∧ Ls sz [] ⟨sz, 0, 0, 0, 0, List.replicate sz.toNat ⟨0⟩⟩ := by
  refine ⟨?_, rfl, rfl, rfl, rfl, by show ((List.replicate sz.toNat (⟨0⟩ : T_atomic_Int64)).length : Int) = sz; simp; omega, ⟨h0, h1⟩, fun i hi => by simp at hi, fun i _ hi => by show (at_ (List.replicate sz.toNat (⟨0⟩ : T_atomic_Int64)) i).v = 0; rw [at_rep (by omega)]⟩
  unfold cells_NewShared cells_good
  rw [if_pos h0, ob1_some, if_pos (decide_eq_true h1), if_pos ⟨h0, by omega⟩]
end
/-! ### the document's arena -/
structure Lr (sz : Int) (c : List Int) (R : T_plunderref2_Arena) : Prop where
  most : R.Most = sz
  held : R.Held = c
  off : R.On = false
theorem wi1 {g : Int} (h0 : 0 ≤ g) (h1 : g < 4611686018427387904) : wi (g + (1 : Int)) = g + 1 := wi_in (by omega)
theorem reserve_l {K : Nat} {n : Int} (hn : n ≤ 1048576) : ∀ (d k i : Nat) (l : List Int), (i : Int) + d = n → d < k → l.length ≤ 2097152 + i → plunderref2_Arena_reserve_l1 K n k l (i : Int) = some (l ++ List.replicate d 0)
  | d, k, i, l, h, hk, hl => by
    obtain ⟨k, rfl⟩ : ∃ m, k = m + 1 := ⟨k - 1, by omega⟩
    rw [plunderref2_Arena_reserve_l1]
    by_cases hi : (i : Int) < n
    · obtain ⟨d, rfl⟩ : ∃ m, d = m + 1 := ⟨d - 1, by omega⟩
      rw [if_pos hi, if_pos (by omega), wi1 (by omega) (by omega), show ((i : Int) + 1) = ((i + 1 : Nat) : Int) by omega, reserve_l hn d k (i + 1) _ (by omega) (by omega) (by rw [List.length_append]; simp; omega)]
      rw [List.append_assoc, List.replicate_succ]; rfl
    · obtain rfl : d = 0 := by omega
      rw [if_neg hi]; simp
section
variable {R : T_plunderref2_Arena} {sz : Int} {c : List Int}
theorem Lr.note (h : Lr sz c R) (x : T_api_Access) : plunderref2_Arena_note R x = some R := by
  unfold plunderref2_Arena_note; rw [if_neg (by rw [h.off]; decide)]
theorem Lr.set (h : Lr sz c R) (c' : List Int) : Lr sz c' { R with Held := c' } := ⟨h.most, rfl, h.off⟩
theorem Lr.do_ (h : Lr sz c R) {K : Nat} (hK : 2000000 < K) (hc : (c.length : Int) ≤ sz) (hs : sz ≤ 1048576) (q k ad x y : Int) (h0 : 0 ≤ k) (h4 : k ≤ 4) : ∃ R', plunderref2_Arena_Do K R ⟨q, k, ad, x, y⟩ = some ((pl sz c k ad x y).1, R') ∧ Lr sz (pl sz c k ad x y).2 R' := by
  unfold plunderref2_Arena_Do pl
  simp only
  rw [if_neg (show ¬ k < 0 by omega), if_neg (show ¬ k > 4 by omega), jn0_inl]
  by_cases k4 : k = 4
  · subst k4
    rw [if_pos rfl, if_pos rfl]
    unfold plunderref2_Arena_reserve plunderref2_refused
    rw [h.most, h.held, wi_in (x := sz - (c.length : Int)) (by omega)]
    by_cases h1 : x < 1
    · rw [if_pos h1, if_pos h1]; exact ⟨R, rfl, h⟩
    · rw [if_neg h1, if_neg h1]
      by_cases h2 : x > sz - (c.length : Int)
      · rw [if_pos h2, if_pos h2]; exact ⟨R, rfl, h⟩
      · rw [if_neg h2, if_neg h2]
        have hl := reserve_l (K := K) (n := x) (by omega) x.toNat K 0 c (by omega) (by omega) (by omega)
        simp only [Int.natCast_zero] at hl
        rw [hl, ob1_some, (Lr.mk rfl rfl h.off : Lr sz (c ++ List.replicate x.toNat 0) ⟨sz, c ++ List.replicate x.toNat 0, R.On, R.Actor, R.Book⟩).note]
        exact ⟨_, rfl, rfl, rfl, h.off⟩
  rw [if_neg k4, if_neg k4, h.held]
  by_cases hi : 0 ≤ ad ∧ ad < (c.length : Int)
  · rw [if_neg (show ¬ ad < 0 by omega), if_neg (show ¬ ad ≥ (c.length : Int) by omega), jn0_inl, if_pos hi, if_pos hi]
    by_cases k0 : k = 0
    · rw [if_pos k0, if_pos k0, h.note, ob1_some]; exact ⟨R, rfl, h⟩
    rw [if_neg k0, if_neg k0]
    by_cases k1 : k = 1
    · rw [if_pos k1, if_pos k1, (h.set _).note, ob1_some]; exact ⟨_, rfl, h.set _⟩
    rw [if_neg k1, if_neg k1]
    by_cases k2 : k = 2
    · rw [if_pos k2, if_pos k2]
      by_cases hx : at_ c ad.toNat = x
      · rw [if_pos hx, if_pos hx, (h.set _).note, ob1_some]; exact ⟨_, by simp [hx], h.set _⟩
      · rw [if_neg hx, if_neg hx, h.note, ob1_some]; exact ⟨_, by simp [hx], h⟩
    rw [if_neg k2, if_neg k2, (h.set _).note, ob1_some]
    exact ⟨_, rfl, h.set _⟩
  · rw [if_neg hi, if_neg hi]
    unfold plunderref2_refused
    by_cases ha : ad < 0
    · rw [if_pos ha, ob1_some, jn0_inr]; exact ⟨R, rfl, h⟩
    · rw [if_neg ha, if_pos (show ad ≥ (c.length : Int) by omega), ob1_some, jn0_inr]; exact ⟨R, rfl, h⟩
theorem pl_le (k ad x y : Int) (h : (c.length : Int) ≤ sz) : ((pl sz c k ad x y).2.length : Int) ≤ sz := by
  unfold pl
  split
  · split
    · exact h
    · split
      · exact h
      · simp; omega
  · split
    · split
      · exact h
      · split
        · simpa using h
        · split
          · split
            · simpa using h
            · exact h
          · simpa using h
    · exact h
end
theorem nil_shared (m : T_plunderlaw2_Move) (h0 : 0 ≤ m.Kind) (h4 : m.Kind ≤ 4) : plunderlaw2_shared_nil m = some (pl 0 [] m.Kind m.Addr m.A m.B).1 := by
  unfold plunderlaw2_shared_nil pl
  have hn : ¬ (0 ≤ m.Addr ∧ m.Addr < (([] : List Int).length : Int)) := by simp
  rw [if_neg hn]
  by_cases k0 : m.Kind = 0
  · rw [if_pos k0, if_neg (by omega)]; rfl
  rw [if_neg k0]
  by_cases k1 : m.Kind = 1
  · rw [if_pos k1, if_neg (by omega)]; rfl
  rw [if_neg k1]
  by_cases k2 : m.Kind = 2
  · rw [if_pos k2, if_neg (by omega)]; rfl
  rw [if_neg k2]
  by_cases k3 : m.Kind = 3
  · rw [if_pos k3, if_neg (by omega)]; rfl
  rw [if_neg k3, if_pos (by omega)]
  unfold cells_Shared_Reserve_nil cells_ledger_refuse_nil
  by_cases h1 : m.A < 1
  · rw [if_pos h1, if_pos h1]; rfl
  · rw [if_neg h1, if_neg h1, if_pos (show m.A > 0 - (([] : List Int).length : Int) by show m.A > 0 - 0; omega)]; rfl
theorem nil_pl (k ad x y : Int) : (pl 0 [] k ad x y).2 = [] := by
  have := pl_le (sz := 0) (c := []) k ad x y (by simp)
  exact List.eq_nil_of_length_eq_zero (by omega)
/-- One side: a Shared, or none; the document's arena. -/
def Side (S : Option T_cells_Shared) (R : T_plunderref2_Arena) : Prop :=
  match S with
  | some S => ∃ sz c, Ls sz c S ∧ Lr sz c R
  | none => Lr 0 [] R
theorem new_side (p : Int) : ∃ R e S, plunderref2_New p = some (R, e) ∧ cells_NewShared p = some (S, e) ∧ Side S R ∧ ((S = none ∧ e = 3) ∨ (S ≠ none ∧ e = 0)) := by
  unfold plunderref2_New
  by_cases h0 : p < 0
  · refine ⟨_, 3, none, by rw [if_pos h0], ?_, ⟨rfl, rfl, rfl⟩, .inl ⟨rfl, rfl⟩⟩
    unfold cells_NewShared cells_good
    rw [if_neg (show ¬ p ≥ 0 by omega), ob1_some, if_neg (by decide)]
  · by_cases h1 : p > 1048576
    · refine ⟨_, 3, none, by rw [if_neg h0, if_pos h1], ?_, ⟨rfl, rfl, rfl⟩, .inl ⟨rfl, rfl⟩⟩
      unfold cells_NewShared cells_good
      rw [if_pos (show p ≥ 0 by omega), ob1_some, if_neg (by simp; omega)]
    · obtain ⟨n1, n2⟩ := Ls.fresh (sz := p) (by omega) (by omega)
      exact ⟨_, 0, _, by rw [if_neg h0, if_neg h1], n1, ⟨p, [], n2, rfl, rfl, rfl⟩, .inr ⟨by simp, rfl⟩⟩
theorem gate (k : Int) : ∃ g, (if k ≥ (0 : Int) then some (decide (k ≤ (4 : Int))) else some false) = some g ∧ (g = true ↔ (0 ≤ k ∧ k ≤ 4)) := by
  by_cases h : k ≥ 0
  · rw [if_pos h]; exact ⟨_, rfl, by simp; omega⟩
  · rw [if_neg h]; exact ⟨_, rfl, by simp; omega⟩
theorem holds_nil {K : Nat} (hK : 0 < K) : plunderlaw2_holds_nil K [] = some true := by
  unfold plunderlaw2_holds_nil
  obtain ⟨k, rfl⟩ : ∃ m, K = m + 1 := ⟨K - 1, by omega⟩
  rw [plunderlaw2_holds_nil_l1, if_neg (by simp), jn0_inl]
  rfl
theorem l1 {K : Nat} (hK : 4000000 < K) {p2 : List T_plunderlaw2_Move} (hp : p2.length ≤ 9223372036854775807) : ∀ (d k i : Nat) (R0 R1 : T_plunderref2_Arena) (S0 S1 : T_cells_Shared), i + d = p2.length → d < k →
    ∀ {z0 : Int} {c0 : List Int} (h0 : Ls z0 c0 S0) (g0 : Lr z0 c0 R0) {z1 : Int} {c1 : List Int} (h1 : Ls z1 c1 S1) (g1 : Lr z1 c1 R1),
    ∃ R0' R1' S0' S1', plunderlaw2_CellsShared_l1 K p2 k R0 R1 S0 S1 (i : Int) = some (.inl (R0', R1', S0', S1')) ∧ (∃ z0 c0, Ls z0 c0 S0' ∧ Lr z0 c0 R0') ∧ (∃ z1 c1, Ls z1 c1 S1' ∧ Lr z1 c1 R1')
  | d, k, i, R0, R1, S0, S1, he, hk, z0, c0, h0, g0, z1, c1, h1, g1 => by
    obtain ⟨k, rfl⟩ : ∃ m, k = m + 1 := ⟨k - 1, by omega⟩
    rw [plunderlaw2_CellsShared_l1]
    by_cases hi : i < p2.length
    · obtain ⟨d, rfl⟩ : ∃ m, d = m + 1 := ⟨d - 1, by omega⟩
      have w : wi ((i : Int) + 1) = ((i + 1 : Nat) : Int) := by rw [wi_in (by omega)]; omega
      obtain ⟨q, q1, q2, q3⟩ := mod_ok (at_ p2 i).Side (m := 2) (by decide) (by decide)
      obtain ⟨b, b1, b2⟩ := gate (at_ p2 i).Kind
      rw [if_pos (by omega), if_pos ⟨by omega, by omega⟩, Int.toNat_natCast, q1, ob1_some, w, b1, ob1_some, ob1_some]
      by_cases hq : q = 1
      · rw [if_pos hq]
        by_cases hb : b = true
        · obtain ⟨S2, f1, f2⟩ := h1.shared (at_ p2 i).Side (at_ p2 i).Kind (at_ p2 i).Addr (at_ p2 i).A (at_ p2 i).B (b2.1 hb).1 (b2.1 hb).2
          obtain ⟨R2, e1, e2⟩ := Lr.do_ g1 (K := K) (by omega) h1.le.1 h1.le.2 0 (at_ p2 i).Kind (at_ p2 i).Addr (at_ p2 i).A (at_ p2 i).B (b2.1 hb).1 (b2.1 hb).2
          rw [if_pos hb, show plunderlaw2_shared S1 (at_ p2 i) = _ from f1, ob2_some, plunderlaw2_act, ob1_some, e1, ob2_some, if_pos rfl, jn2_inl]
          by_cases k7 : (at_ p2 i).Kind = 7
          · rw [if_pos k7, cells_Shared_Size, cells_ledger_Size, ob1_some, ob1_some, e2.most, if_pos f2.size, jn0_inl, if_neg (by omega)]
            exact l1 hK hp d k (i + 1) R0 R2 S0 S2 (by omega) (by omega) h0 g0 f2 e2
          · rw [if_neg k7, jn0_inl]
            by_cases k8 : (at_ p2 i).Kind = 8
            · rw [if_pos k8, f2.mark_, ob2_some, e2.held, if_pos rfl]
              exact l1 hK hp d k (i + 1) R0 R2 S0 S2 (by omega) (by omega) h0 g0 f2 e2
            · rw [if_neg k8]
              exact l1 hK hp d k (i + 1) R0 R2 S0 S2 (by omega) (by omega) h0 g0 f2 e2
        · rw [if_neg hb, jn2_inl]
          by_cases k7 : (at_ p2 i).Kind = 7
          · rw [if_pos k7, cells_Shared_Size, cells_ledger_Size, ob1_some, ob1_some, g1.most, if_pos h1.size, jn0_inl, if_neg (by omega)]
            exact l1 hK hp d k (i + 1) R0 R1 S0 S1 (by omega) (by omega) h0 g0 h1 g1
          · rw [if_neg k7, jn0_inl]
            by_cases k8 : (at_ p2 i).Kind = 8
            · rw [if_pos k8, h1.mark_, ob2_some, g1.held, if_pos rfl]
              exact l1 hK hp d k (i + 1) R0 R1 S0 S1 (by omega) (by omega) h0 g0 h1 g1
            · rw [if_neg k8]
              exact l1 hK hp d k (i + 1) R0 R1 S0 S1 (by omega) (by omega) h0 g0 h1 g1
      · rw [if_neg hq]
        by_cases hb : b = true
        · obtain ⟨S2, f1, f2⟩ := h0.shared (at_ p2 i).Side (at_ p2 i).Kind (at_ p2 i).Addr (at_ p2 i).A (at_ p2 i).B (b2.1 hb).1 (b2.1 hb).2
          obtain ⟨R2, e1, e2⟩ := Lr.do_ g0 (K := K) (by omega) h0.le.1 h0.le.2 0 (at_ p2 i).Kind (at_ p2 i).Addr (at_ p2 i).A (at_ p2 i).B (b2.1 hb).1 (b2.1 hb).2
          rw [if_pos hb, show plunderlaw2_shared S0 (at_ p2 i) = _ from f1, ob2_some, plunderlaw2_act, ob1_some, e1, ob2_some, if_pos rfl, jn2_inl]
          by_cases k7 : (at_ p2 i).Kind = 7
          · rw [if_pos k7, cells_Shared_Size, cells_ledger_Size, ob1_some, ob1_some, e2.most, if_pos f2.size, jn0_inl, if_neg (by omega)]
            exact l1 hK hp d k (i + 1) R2 R1 S2 S1 (by omega) (by omega) f2 e2 h1 g1
          · rw [if_neg k7, jn0_inl]
            by_cases k8 : (at_ p2 i).Kind = 8
            · rw [if_pos k8, f2.mark_, ob2_some, e2.held, if_pos rfl]
              exact l1 hK hp d k (i + 1) R2 R1 S2 S1 (by omega) (by omega) f2 e2 h1 g1
            · rw [if_neg k8]
              exact l1 hK hp d k (i + 1) R2 R1 S2 S1 (by omega) (by omega) f2 e2 h1 g1
        · rw [if_neg hb, jn2_inl]
          by_cases k7 : (at_ p2 i).Kind = 7
          · rw [if_pos k7, cells_Shared_Size, cells_ledger_Size, ob1_some, ob1_some, g0.most, if_pos h0.size, jn0_inl, if_neg (by omega)]
            exact l1 hK hp d k (i + 1) R0 R1 S0 S1 (by omega) (by omega) h0 g0 h1 g1
          · rw [if_neg k7, jn0_inl]
            by_cases k8 : (at_ p2 i).Kind = 8
            · rw [if_pos k8, h0.mark_, ob2_some, g0.held, if_pos rfl]
              exact l1 hK hp d k (i + 1) R0 R1 S0 S1 (by omega) (by omega) h0 g0 h1 g1
            · rw [if_neg k8]
              exact l1 hK hp d k (i + 1) R0 R1 S0 S1 (by omega) (by omega) h0 g0 h1 g1
    · rw [if_neg (by omega)]
      exact ⟨R0, R1, S0, S1, rfl, ⟨z0, c0, h0, g0⟩, ⟨z1, c1, h1, g1⟩⟩
theorem l2 {K : Nat} (hK : 4000000 < K) {p2 : List T_plunderlaw2_Move} (hp : p2.length ≤ 9223372036854775807) : ∀ (d k i : Nat) (R0 R1 : T_plunderref2_Arena) (S0 : T_cells_Shared), i + d = p2.length → d < k →
    ∀ {z0 : Int} {c0 : List Int} (h0 : Ls z0 c0 S0) (g0 : Lr z0 c0 R0) (h1 : Lr 0 [] R1),
    ∃ R0' R1' S0', plunderlaw2_CellsShared_l2 K p2 k R0 R1 S0 (i : Int) = some (.inl (R0', R1', S0')) ∧ (∃ z0 c0, Ls z0 c0 S0' ∧ Lr z0 c0 R0') ∧ Lr 0 [] R1'
  | d, k, i, R0, R1, S0, he, hk, z0, c0, h0, g0, h1 => by
    obtain ⟨k, rfl⟩ : ∃ m, k = m + 1 := ⟨k - 1, by omega⟩
    rw [plunderlaw2_CellsShared_l2]
    by_cases hi : i < p2.length
    · obtain ⟨d, rfl⟩ : ∃ m, d = m + 1 := ⟨d - 1, by omega⟩
      have w : wi ((i : Int) + 1) = ((i + 1 : Nat) : Int) := by rw [wi_in (by omega)]; omega
      obtain ⟨q, q1, q2, q3⟩ := mod_ok (at_ p2 i).Side (m := 2) (by decide) (by decide)
      obtain ⟨b, b1, b2⟩ := gate (at_ p2 i).Kind
      rw [if_pos (by omega), if_pos ⟨by omega, by omega⟩, Int.toNat_natCast, q1, ob1_some, w, b1, ob1_some, ob1_some]
      by_cases hq : q = 1
      · rw [if_pos hq]
        by_cases hb : b = true
        · obtain ⟨R2, e1, e2⟩ := Lr.do_ h1 (K := K) (by omega) (by simp) (by decide) 0 (at_ p2 i).Kind (at_ p2 i).Addr (at_ p2 i).A (at_ p2 i).B (b2.1 hb).1 (b2.1 hb).2
          rw [nil_pl] at e2
          rw [if_pos hb, nil_shared _ (b2.1 hb).1 (b2.1 hb).2, ob1_some, plunderlaw2_act, ob1_some, e1, ob2_some, if_pos rfl, jn1_inl]
          by_cases k7 : (at_ p2 i).Kind = 7
          · rw [if_pos k7, cells_Shared_Size_nil, ob1_some, e2.most, if_pos rfl, jn0_inl, if_neg (by omega)]
            exact l2 hK hp d k (i + 1) R0 R2 S0 (by omega) (by omega) h0 g0 e2
          · rw [if_neg k7, jn0_inl]
            by_cases k8 : (at_ p2 i).Kind = 8
            · rw [if_pos k8, cells_Shared_Mark_nil, ob1_some, e2.held, if_pos (show (0 : Int) = (([] : List Int).length : Int) from rfl)]
              exact l2 hK hp d k (i + 1) R0 R2 S0 (by omega) (by omega) h0 g0 e2
            · rw [if_neg k8]
              exact l2 hK hp d k (i + 1) R0 R2 S0 (by omega) (by omega) h0 g0 e2
        · rw [if_neg hb, jn1_inl]
          by_cases k7 : (at_ p2 i).Kind = 7
          · rw [if_pos k7, cells_Shared_Size_nil, ob1_some, h1.most, if_pos rfl, jn0_inl, if_neg (by omega)]
            exact l2 hK hp d k (i + 1) R0 R1 S0 (by omega) (by omega) h0 g0 h1
          · rw [if_neg k7, jn0_inl]
            by_cases k8 : (at_ p2 i).Kind = 8
            · rw [if_pos k8, cells_Shared_Mark_nil, ob1_some, h1.held, if_pos (show (0 : Int) = (([] : List Int).length : Int) from rfl)]
              exact l2 hK hp d k (i + 1) R0 R1 S0 (by omega) (by omega) h0 g0 h1
            · rw [if_neg k8]
              exact l2 hK hp d k (i + 1) R0 R1 S0 (by omega) (by omega) h0 g0 h1
      · rw [if_neg hq]
        by_cases hb : b = true
        · obtain ⟨S2, f1, f2⟩ := h0.shared (at_ p2 i).Side (at_ p2 i).Kind (at_ p2 i).Addr (at_ p2 i).A (at_ p2 i).B (b2.1 hb).1 (b2.1 hb).2
          obtain ⟨R2, e1, e2⟩ := Lr.do_ g0 (K := K) (by omega) h0.le.1 h0.le.2 0 (at_ p2 i).Kind (at_ p2 i).Addr (at_ p2 i).A (at_ p2 i).B (b2.1 hb).1 (b2.1 hb).2
          rw [if_pos hb, show plunderlaw2_shared S0 (at_ p2 i) = _ from f1, ob2_some, plunderlaw2_act, ob1_some, e1, ob2_some, if_pos rfl, jn2_inl]
          by_cases k7 : (at_ p2 i).Kind = 7
          · rw [if_pos k7, cells_Shared_Size, cells_ledger_Size, ob1_some, ob1_some, e2.most, if_pos f2.size, jn0_inl, if_neg (by omega)]
            exact l2 hK hp d k (i + 1) R2 R1 S2 (by omega) (by omega) f2 e2 h1
          · rw [if_neg k7, jn0_inl]
            by_cases k8 : (at_ p2 i).Kind = 8
            · rw [if_pos k8, f2.mark_, ob2_some, e2.held, if_pos rfl]
              exact l2 hK hp d k (i + 1) R2 R1 S2 (by omega) (by omega) f2 e2 h1
            · rw [if_neg k8]
              exact l2 hK hp d k (i + 1) R2 R1 S2 (by omega) (by omega) f2 e2 h1
        · rw [if_neg hb, jn2_inl]
          by_cases k7 : (at_ p2 i).Kind = 7
          · rw [if_pos k7, cells_Shared_Size, cells_ledger_Size, ob1_some, ob1_some, g0.most, if_pos h0.size, jn0_inl, if_neg (by omega)]
            exact l2 hK hp d k (i + 1) R0 R1 S0 (by omega) (by omega) h0 g0 h1
          · rw [if_neg k7, jn0_inl]
            by_cases k8 : (at_ p2 i).Kind = 8
            · rw [if_pos k8, h0.mark_, ob2_some, g0.held, if_pos rfl]
              exact l2 hK hp d k (i + 1) R0 R1 S0 (by omega) (by omega) h0 g0 h1
            · rw [if_neg k8]
              exact l2 hK hp d k (i + 1) R0 R1 S0 (by omega) (by omega) h0 g0 h1
    · rw [if_neg (by omega)]
      exact ⟨R0, R1, S0, rfl, ⟨z0, c0, h0, g0⟩, h1⟩
theorem l3 {K : Nat} (hK : 4000000 < K) {p2 : List T_plunderlaw2_Move} (hp : p2.length ≤ 9223372036854775807) : ∀ (d k i : Nat) (R0 R1 : T_plunderref2_Arena) (S1 : T_cells_Shared), i + d = p2.length → d < k →
    ∀ (h0 : Lr 0 [] R0) {z1 : Int} {c1 : List Int} (h1 : Ls z1 c1 S1) (g1 : Lr z1 c1 R1),
    ∃ R0' R1' S1', plunderlaw2_CellsShared_l3 K p2 k R0 R1 S1 (i : Int) = some (.inl (R0', R1', S1')) ∧ Lr 0 [] R0' ∧ (∃ z1 c1, Ls z1 c1 S1' ∧ Lr z1 c1 R1')
  | d, k, i, R0, R1, S1, he, hk, h0, z1, c1, h1, g1 => by
    obtain ⟨k, rfl⟩ : ∃ m, k = m + 1 := ⟨k - 1, by omega⟩
    rw [plunderlaw2_CellsShared_l3]
    by_cases hi : i < p2.length
    · obtain ⟨d, rfl⟩ : ∃ m, d = m + 1 := ⟨d - 1, by omega⟩
      have w : wi ((i : Int) + 1) = ((i + 1 : Nat) : Int) := by rw [wi_in (by omega)]; omega
      obtain ⟨q, q1, q2, q3⟩ := mod_ok (at_ p2 i).Side (m := 2) (by decide) (by decide)
      obtain ⟨b, b1, b2⟩ := gate (at_ p2 i).Kind
      rw [if_pos (by omega), if_pos ⟨by omega, by omega⟩, Int.toNat_natCast, q1, ob1_some, w, b1, ob1_some, ob1_some]
      by_cases hq : q = 1
      · rw [if_pos hq]
        by_cases hb : b = true
        · obtain ⟨S2, f1, f2⟩ := h1.shared (at_ p2 i).Side (at_ p2 i).Kind (at_ p2 i).Addr (at_ p2 i).A (at_ p2 i).B (b2.1 hb).1 (b2.1 hb).2
          obtain ⟨R2, e1, e2⟩ := Lr.do_ g1 (K := K) (by omega) h1.le.1 h1.le.2 0 (at_ p2 i).Kind (at_ p2 i).Addr (at_ p2 i).A (at_ p2 i).B (b2.1 hb).1 (b2.1 hb).2
          rw [if_pos hb, show plunderlaw2_shared S1 (at_ p2 i) = _ from f1, ob2_some, plunderlaw2_act, ob1_some, e1, ob2_some, if_pos rfl, jn2_inl]
          by_cases k7 : (at_ p2 i).Kind = 7
          · rw [if_pos k7, cells_Shared_Size, cells_ledger_Size, ob1_some, ob1_some, e2.most, if_pos f2.size, jn0_inl, if_neg (by omega)]
            exact l3 hK hp d k (i + 1) R0 R2 S2 (by omega) (by omega) h0 f2 e2
          · rw [if_neg k7, jn0_inl]
            by_cases k8 : (at_ p2 i).Kind = 8
            · rw [if_pos k8, f2.mark_, ob2_some, e2.held, if_pos rfl]
              exact l3 hK hp d k (i + 1) R0 R2 S2 (by omega) (by omega) h0 f2 e2
            · rw [if_neg k8]
              exact l3 hK hp d k (i + 1) R0 R2 S2 (by omega) (by omega) h0 f2 e2
        · rw [if_neg hb, jn2_inl]
          by_cases k7 : (at_ p2 i).Kind = 7
          · rw [if_pos k7, cells_Shared_Size, cells_ledger_Size, ob1_some, ob1_some, g1.most, if_pos h1.size, jn0_inl, if_neg (by omega)]
            exact l3 hK hp d k (i + 1) R0 R1 S1 (by omega) (by omega) h0 h1 g1
          · rw [if_neg k7, jn0_inl]
            by_cases k8 : (at_ p2 i).Kind = 8
            · rw [if_pos k8, h1.mark_, ob2_some, g1.held, if_pos rfl]
              exact l3 hK hp d k (i + 1) R0 R1 S1 (by omega) (by omega) h0 h1 g1
            · rw [if_neg k8]
              exact l3 hK hp d k (i + 1) R0 R1 S1 (by omega) (by omega) h0 h1 g1
      · rw [if_neg hq]
        by_cases hb : b = true
        · obtain ⟨R2, e1, e2⟩ := Lr.do_ h0 (K := K) (by omega) (by simp) (by decide) 0 (at_ p2 i).Kind (at_ p2 i).Addr (at_ p2 i).A (at_ p2 i).B (b2.1 hb).1 (b2.1 hb).2
          rw [nil_pl] at e2
          rw [if_pos hb, nil_shared _ (b2.1 hb).1 (b2.1 hb).2, ob1_some, plunderlaw2_act, ob1_some, e1, ob2_some, if_pos rfl, jn1_inl]
          by_cases k7 : (at_ p2 i).Kind = 7
          · rw [if_pos k7, cells_Shared_Size_nil, ob1_some, e2.most, if_pos rfl, jn0_inl, if_neg (by omega)]
            exact l3 hK hp d k (i + 1) R2 R1 S1 (by omega) (by omega) e2 h1 g1
          · rw [if_neg k7, jn0_inl]
            by_cases k8 : (at_ p2 i).Kind = 8
            · rw [if_pos k8, cells_Shared_Mark_nil, ob1_some, e2.held, if_pos (show (0 : Int) = (([] : List Int).length : Int) from rfl)]
              exact l3 hK hp d k (i + 1) R2 R1 S1 (by omega) (by omega) e2 h1 g1
            · rw [if_neg k8]
              exact l3 hK hp d k (i + 1) R2 R1 S1 (by omega) (by omega) e2 h1 g1
        · rw [if_neg hb, jn1_inl]
          by_cases k7 : (at_ p2 i).Kind = 7
          · rw [if_pos k7, cells_Shared_Size_nil, ob1_some, h0.most, if_pos rfl, jn0_inl, if_neg (by omega)]
            exact l3 hK hp d k (i + 1) R0 R1 S1 (by omega) (by omega) h0 h1 g1
          · rw [if_neg k7, jn0_inl]
            by_cases k8 : (at_ p2 i).Kind = 8
            · rw [if_pos k8, cells_Shared_Mark_nil, ob1_some, h0.held, if_pos (show (0 : Int) = (([] : List Int).length : Int) from rfl)]
              exact l3 hK hp d k (i + 1) R0 R1 S1 (by omega) (by omega) h0 h1 g1
            · rw [if_neg k8]
              exact l3 hK hp d k (i + 1) R0 R1 S1 (by omega) (by omega) h0 h1 g1
    · rw [if_neg (by omega)]
      exact ⟨R0, R1, S1, rfl, h0, ⟨z1, c1, h1, g1⟩⟩
theorem l4 {K : Nat} (hK : 4000000 < K) {p2 : List T_plunderlaw2_Move} (hp : p2.length ≤ 9223372036854775807) : ∀ (d k i : Nat) (R0 R1 : T_plunderref2_Arena), i + d = p2.length → d < k →
    ∀ (h0 : Lr 0 [] R0) (h1 : Lr 0 [] R1),
    ∃ R0' R1', plunderlaw2_CellsShared_l4 K p2 k R0 R1 (i : Int) = some (.inl (R0', R1')) ∧ Lr 0 [] R0' ∧ Lr 0 [] R1'
  | d, k, i, R0, R1, he, hk, h0, h1 => by
    obtain ⟨k, rfl⟩ : ∃ m, k = m + 1 := ⟨k - 1, by omega⟩
    rw [plunderlaw2_CellsShared_l4]
    by_cases hi : i < p2.length
    · obtain ⟨d, rfl⟩ : ∃ m, d = m + 1 := ⟨d - 1, by omega⟩
      have w : wi ((i : Int) + 1) = ((i + 1 : Nat) : Int) := by rw [wi_in (by omega)]; omega
      obtain ⟨q, q1, q2, q3⟩ := mod_ok (at_ p2 i).Side (m := 2) (by decide) (by decide)
      obtain ⟨b, b1, b2⟩ := gate (at_ p2 i).Kind
      rw [if_pos (by omega), if_pos ⟨by omega, by omega⟩, Int.toNat_natCast, q1, ob1_some, w, b1, ob1_some, ob1_some]
      by_cases hq : q = 1
      · rw [if_pos hq]
        by_cases hb : b = true
        · obtain ⟨R2, e1, e2⟩ := Lr.do_ h1 (K := K) (by omega) (by simp) (by decide) 0 (at_ p2 i).Kind (at_ p2 i).Addr (at_ p2 i).A (at_ p2 i).B (b2.1 hb).1 (b2.1 hb).2
          rw [nil_pl] at e2
          rw [if_pos hb, nil_shared _ (b2.1 hb).1 (b2.1 hb).2, ob1_some, plunderlaw2_act, ob1_some, e1, ob2_some, if_pos rfl, jn1_inl]
          by_cases k7 : (at_ p2 i).Kind = 7
          · rw [if_pos k7, cells_Shared_Size_nil, ob1_some, e2.most, if_pos rfl, jn0_inl, if_neg (by omega)]
            exact l4 hK hp d k (i + 1) R0 R2 (by omega) (by omega) h0 e2
          · rw [if_neg k7, jn0_inl]
            by_cases k8 : (at_ p2 i).Kind = 8
            · rw [if_pos k8, cells_Shared_Mark_nil, ob1_some, e2.held, if_pos (show (0 : Int) = (([] : List Int).length : Int) from rfl)]
              exact l4 hK hp d k (i + 1) R0 R2 (by omega) (by omega) h0 e2
            · rw [if_neg k8]
              exact l4 hK hp d k (i + 1) R0 R2 (by omega) (by omega) h0 e2
        · rw [if_neg hb, jn1_inl]
          by_cases k7 : (at_ p2 i).Kind = 7
          · rw [if_pos k7, cells_Shared_Size_nil, ob1_some, h1.most, if_pos rfl, jn0_inl, if_neg (by omega)]
            exact l4 hK hp d k (i + 1) R0 R1 (by omega) (by omega) h0 h1
          · rw [if_neg k7, jn0_inl]
            by_cases k8 : (at_ p2 i).Kind = 8
            · rw [if_pos k8, cells_Shared_Mark_nil, ob1_some, h1.held, if_pos (show (0 : Int) = (([] : List Int).length : Int) from rfl)]
              exact l4 hK hp d k (i + 1) R0 R1 (by omega) (by omega) h0 h1
            · rw [if_neg k8]
              exact l4 hK hp d k (i + 1) R0 R1 (by omega) (by omega) h0 h1
      · rw [if_neg hq]
        by_cases hb : b = true
        · obtain ⟨R2, e1, e2⟩ := Lr.do_ h0 (K := K) (by omega) (by simp) (by decide) 0 (at_ p2 i).Kind (at_ p2 i).Addr (at_ p2 i).A (at_ p2 i).B (b2.1 hb).1 (b2.1 hb).2
          rw [nil_pl] at e2
          rw [if_pos hb, nil_shared _ (b2.1 hb).1 (b2.1 hb).2, ob1_some, plunderlaw2_act, ob1_some, e1, ob2_some, if_pos rfl, jn1_inl]
          by_cases k7 : (at_ p2 i).Kind = 7
          · rw [if_pos k7, cells_Shared_Size_nil, ob1_some, e2.most, if_pos rfl, jn0_inl, if_neg (by omega)]
            exact l4 hK hp d k (i + 1) R2 R1 (by omega) (by omega) e2 h1
          · rw [if_neg k7, jn0_inl]
            by_cases k8 : (at_ p2 i).Kind = 8
            · rw [if_pos k8, cells_Shared_Mark_nil, ob1_some, e2.held, if_pos (show (0 : Int) = (([] : List Int).length : Int) from rfl)]
              exact l4 hK hp d k (i + 1) R2 R1 (by omega) (by omega) e2 h1
            · rw [if_neg k8]
              exact l4 hK hp d k (i + 1) R2 R1 (by omega) (by omega) e2 h1
        · rw [if_neg hb, jn1_inl]
          by_cases k7 : (at_ p2 i).Kind = 7
          · rw [if_pos k7, cells_Shared_Size_nil, ob1_some, h0.most, if_pos rfl, jn0_inl, if_neg (by omega)]
            exact l4 hK hp d k (i + 1) R0 R1 (by omega) (by omega) h0 h1
          · rw [if_neg k7, jn0_inl]
            by_cases k8 : (at_ p2 i).Kind = 8
            · rw [if_pos k8, cells_Shared_Mark_nil, ob1_some, h0.held, if_pos (show (0 : Int) = (([] : List Int).length : Int) from rfl)]
              exact l4 hK hp d k (i + 1) R0 R1 (by omega) (by omega) h0 h1
            · rw [if_neg k8]
              exact l4 hK hp d k (i + 1) R0 R1 (by omega) (by omega) h0 h1
    · rw [if_neg (by omega)]
      exact ⟨R0, R1, rfl, h0, h1⟩
theorem shared_true {K : Nat} (p0 p1 : Int) {p2 : List T_plunderlaw2_Move} (hp : p2.length ≤ 9223372036854775807) (hK : p2.length + 4000001 < K) : plunderlaw2_CellsShared K p0 p1 p2 = some true := by
  unfold plunderlaw2_CellsShared
  obtain ⟨R0, x0, S0, a1, a2, a3, a4⟩ := new_side p0
  obtain ⟨R1, x1, S1, b1, b2, b3, b4⟩ := new_side p1
  rw [a1, ob2_some, b1, ob2_some, a2, ob2_some]
  cases S0 with
  | some S0 =>
    obtain ⟨_, e0⟩ : some S0 ≠ none ∧ x0 = 0 := by rcases a4 with ⟨h, _⟩ | h; · cases h
                                                   · exact h
    cases S1 with
    | some S1 =>
      obtain ⟨_, e1⟩ : some S1 ≠ none ∧ x1 = 0 := by rcases b4 with ⟨h, _⟩ | h; · cases h
                                                     · exact h
      subst e0 e1
      dsimp only
      rw [b2, ob2_some]
      dsimp only
      rw [if_pos rfl, if_pos rfl, if_pos (show false = ((0 : Int) != 0) from rfl), if_pos (show false = ((0 : Int) != 0) from rfl), jn0_inl]
      obtain ⟨z0, c0, h0, g0⟩ := a3
      obtain ⟨z1, c1, h1, g1⟩ := b3
      obtain ⟨R0', R1', S0', S1', e, r0, r1⟩ := l1 (K := K) (by omega) hp p2.length K 0 R0 R1 S0 S1 (by omega) (by omega) h0 g0 h1 g1
      simp only [Int.natCast_zero] at e
      obtain ⟨z0, c0, h0, g0⟩ := r0
      obtain ⟨z1, c1, h1, g1⟩ := r1
      rw [e, jn4_inl, g0.held, h0.holds (by have := h0.le; omega), ob2_some, if_pos rfl, g1.held, h1.holds (by have := h1.le; omega), ob2_some]
    | none =>
      have e1 : x1 = 3 := by rcases b4 with ⟨_, h⟩ | ⟨h, _⟩; · exact h
                             · exact absurd rfl h
      subst e0 e1
      dsimp only
      rw [b2, ob2_some]
      dsimp only
      rw [if_pos rfl, if_pos rfl, if_pos (show false = ((0 : Int) != 0) from rfl), if_pos (show true = ((3 : Int) != 0) from rfl), jn0_inl]
      obtain ⟨z0, c0, h0, g0⟩ := a3
      obtain ⟨R0', R1', S0', e, r0, r1⟩ := l2 (K := K) (by omega) hp p2.length K 0 R0 R1 S0 (by omega) (by omega) h0 g0 b3
      simp only [Int.natCast_zero] at e
      obtain ⟨z0, c0, h0, g0⟩ := r0
      rw [e, jn3_inl, g0.held, h0.holds (by have := h0.le; omega), ob2_some, if_pos rfl, r1.held, holds_nil (by omega), ob1_some]
  | none =>
    have e0 : x0 = 3 := by rcases a4 with ⟨_, h⟩ | ⟨h, _⟩; · exact h
                           · exact absurd rfl h
    cases S1 with
    | some S1 =>
      obtain ⟨_, e1⟩ : some S1 ≠ none ∧ x1 = 0 := by rcases b4 with ⟨h, _⟩ | h; · cases h
                                                     · exact h
      subst e0 e1
      dsimp only
      rw [b2, ob2_some]
      dsimp only
      rw [if_pos rfl, if_pos rfl, if_pos (show true = ((3 : Int) != 0) from rfl), if_pos (show false = ((0 : Int) != 0) from rfl), jn0_inl]
      obtain ⟨z1, c1, h1, g1⟩ := b3
      obtain ⟨R0', R1', S1', e, r0, r1⟩ := l3 (K := K) (by omega) hp p2.length K 0 R0 R1 S1 (by omega) (by omega) a3 h1 g1
      simp only [Int.natCast_zero] at e
      obtain ⟨z1, c1, h1, g1⟩ := r1
      rw [e, jn3_inl, r0.held, holds_nil (by omega), ob1_some, if_pos rfl, g1.held, h1.holds (by have := h1.le; omega), ob2_some]
    | none =>
      have e1 : x1 = 3 := by rcases b4 with ⟨_, h⟩ | ⟨h, _⟩; · exact h
                             · exact absurd rfl h
      subst e0 e1
      dsimp only
      rw [b2, ob2_some]
      dsimp only
      rw [if_pos rfl, if_pos rfl, if_pos (show true = ((3 : Int) != 0) from rfl), if_pos (show true = ((3 : Int) != 0) from rfl), jn0_inl]
      obtain ⟨R0', R1', e, r0, r1⟩ := l4 (K := K) (by omega) hp p2.length K 0 R0 R1 (by omega) (by omega) a3 b3
      simp only [Int.natCast_zero] at e
      rw [e, jn2_inl, r0.held, holds_nil (by omega), ob1_some, if_pos rfl, r1.held, holds_nil (by omega), ob1_some]
end Go.Proofs.Ytacgigkonoegiaa.Mo
