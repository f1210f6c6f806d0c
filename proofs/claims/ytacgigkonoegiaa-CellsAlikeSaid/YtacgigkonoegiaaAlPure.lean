/- A play over an arena and the same acts on shared cells: what the walk's plain functions answer. No memory is spoken of. Printed by mkshared.py. -/
import Derived.Test.YtacgigkonoegiaaCa2
namespace Go.Proofs.Ytacgigkonoegiaa.Mo
open Go Go.Proofs.Ytacgigkonoegiaa.SL Go.Proofs.Ytacgigkonoegiaa.GX
set_option linter.unusedVariables false
set_option linter.unusedSimpArgs false
theorem at_rep {α : Type} [Inhabited α] {n i : Nat} {x : α} (h : i < n) : at_ (List.replicate n x) i = x := by
  unfold at_; rw [List.getD_eq_getElem?_getD, List.getElem?_replicate, if_pos h]; rfl
theorem at_appl {α : Type} [Inhabited α] {l m : List α} {q : Nat} (h : q < l.length) : at_ (l ++ m) q = at_ l q := by
  unfold at_; rw [List.getD_eq_getElem?_getD, List.getD_eq_getElem?_getD, List.getElem?_append_left h]
theorem at_appr {α : Type} [Inhabited α] {l m : List α} {q : Nat} (h : l.length ≤ q) : at_ (l ++ m) q = at_ m (q - l.length) := by
  unfold at_; rw [List.getD_eq_getElem?_getD, List.getD_eq_getElem?_getD, List.getElem?_append_right h]
theorem mod_ok (x : Int) {m : Int} (hm : 0 < m) (hm2 : m ≤ 1048576) : ∃ r, plunderlaw2_mod x m = some r ∧ 0 ≤ r ∧ r < m := by
  unfold plunderlaw2_mod
  rw [if_pos (by omega)]
  have h1 := Int.tmod_lt_of_pos x hm
  have h2 : -m < x.tmod m := by
    have := Int.tmod_lt_of_pos (-x) hm
    rw [Int.neg_tmod] at this
    omega
  by_cases h : x.tmod m < 0
  · rw [if_pos h]
    exact ⟨_, rfl, by rw [wi_in (by omega)]; omega, by rw [wi_in (by omega)]; omega⟩
  · rw [if_neg h]
    exact ⟨_, rfl, by omega, h1⟩
/-- What an act on plain cells answers, and the cells behind it. -/
def pl (sz : Int) (c : List Int) (k ad x y : Int) : T_api_Effect × List Int :=
  if k = 4 then (if x < 1 then (⟨0, false, 21⟩, c) else if x > sz - (c.length : Int) then (⟨0, false, 22⟩, c) else (⟨(c.length : Int), true, 0⟩, c ++ List.replicate x.toNat 0))
  else if 0 ≤ ad ∧ ad < (c.length : Int) then
    (if k = 0 then (⟨at_ c ad.toNat, true, 0⟩, c) else if k = 1 then (⟨0, true, 0⟩, c.set ad.toNat x)
     else if k = 2 then (if at_ c ad.toNat = x then (⟨0, true, 0⟩, c.set ad.toNat y) else (⟨0, false, 0⟩, c))
     else (⟨wi (at_ c ad.toNat + x), true, 0⟩, c.set ad.toNat (wi (at_ c ad.toNat + x))))
  else (⟨0, false, 20⟩, c)
/-- Shared cells hold these. -/
structure Ls (sz : Int) (c : List Int) (S : T_cells_Shared) : Prop where
  size : S.ledger_size = sz
  mark : S.ledger_mark = (c.length : Int)
  lock : S.lock_mu_state = 0
  given : S.given_v = (c.length : Int)
  len : (S.cell.length : Int) = sz
  le : (c.length : Int) ≤ sz ∧ sz ≤ 1048576
  lo : ∀ i : Nat, i < c.length → (at_ S.cell i).v = at_ c i
  hi : ∀ i : Nat, c.length ≤ i → (i : Int) < sz → (at_ S.cell i).v = 0
section
variable {S : T_cells_Shared} {sz : Int} {c : List Int}
theorem Ls.out (h : Ls sz c S) (i : Int) : cells_Shared_outside S i = some (!decide (0 ≤ i ∧ i < (c.length : Int))) := by
  unfold cells_Shared_outside
  by_cases h0 : i < 0
  · rw [if_pos h0, decide_eq_false (by omega)]; rfl
  · rw [if_neg h0, h.given]
    by_cases h1 : i ≥ (c.length : Int)
    · rw [decide_eq_true h1, decide_eq_false (by omega)]; rfl
    · rw [decide_eq_false h1, decide_eq_true (by omega)]; rfl
theorem Ls.set (h : Ls sz c S) {i : Int} (hi : 0 ≤ i ∧ i < (c.length : Int)) (v : Int) : Ls sz (c.set i.toNat v) { S with cell := S.cell.set i.toNat ⟨v⟩ } := by
  have hl := h.len
  have hle := h.le
  refine ⟨h.size, by show S.ledger_mark = _; rw [List.length_set]; exact h.mark, h.lock, by show S.given_v = _; rw [List.length_set]; exact h.given, by show ((S.cell.set _ _).length : Int) = sz; rw [List.length_set]; exact hl, by rw [List.length_set]; exact hle, fun q hq => ?_, fun q h1 h2 => ?_⟩
  · rw [List.length_set] at hq
    show (at_ (S.cell.set i.toNat ⟨v⟩) q).v = _
    by_cases e : q = i.toNat
    · subst e; rw [at_set_same (by omega), at_set_same hq]
    · rw [at_set_ne (by omega), at_set_ne (by omega)]; exact h.lo q hq
  · rw [List.length_set] at h1
    show (at_ (S.cell.set i.toNat ⟨v⟩) q).v = _
    rw [at_set_ne (by omega)]; exact h.hi q h1 h2
theorem Ls.load (h : Ls sz c S) (i : Int) : cells_Shared_Load S i = some (if 0 ≤ i ∧ i < (c.length : Int) then (at_ c i.toNat, 0) else (0, 20)) := by
  have hl := h.len
  have hle := h.le
  unfold cells_Shared_Load
  rw [h.out, ob1_some]
  by_cases hi : 0 ≤ i ∧ i < (c.length : Int)
  · rw [decide_eq_true hi, if_neg (by simp), if_pos ⟨hi.1, by omega⟩, if_pos hi, h.lo i.toNat (by omega)]
  · rw [decide_eq_false hi, if_pos (by simp), if_neg hi]
theorem Ls.store (h : Ls sz c S) (i v : Int) : ∃ S', cells_Shared_Store S i v = some ((if 0 ≤ i ∧ i < (c.length : Int) then 0 else 20), S') ∧ Ls sz (if 0 ≤ i ∧ i < (c.length : Int) then c.set i.toNat v else c) S' := by
  have hl := h.len
  have hle := h.le
  unfold cells_Shared_Store
  rw [h.out, ob1_some]
  by_cases hi : 0 ≤ i ∧ i < (c.length : Int)
  · rw [decide_eq_true hi, if_neg (by simp), if_pos ⟨hi.1, by omega⟩, if_pos hi, if_pos hi]
    exact ⟨_, rfl, h.set hi v⟩
  · rw [decide_eq_false hi, if_pos (by simp), if_neg hi, if_neg hi]
    exact ⟨_, rfl, h⟩
theorem Ls.cas (h : Ls sz c S) (i x y : Int) : ∃ S', cells_Shared_CAS S i x y = some ((if 0 ≤ i ∧ i < (c.length : Int) then (if at_ c i.toNat = x then true else false) else false), (if 0 ≤ i ∧ i < (c.length : Int) then 0 else 20), S') ∧
    Ls sz (if 0 ≤ i ∧ i < (c.length : Int) then (if at_ c i.toNat = x then c.set i.toNat y else c) else c) S' := by
  have hl := h.len
  have hle := h.le
  unfold cells_Shared_CAS
  rw [h.out, ob1_some]
  by_cases hi : 0 ≤ i ∧ i < (c.length : Int)
  · rw [decide_eq_true hi, if_neg (by simp), if_pos ⟨hi.1, by omega⟩, if_pos hi, if_pos hi, if_pos hi, h.lo i.toNat (by omega)]
    by_cases hx : at_ c i.toNat = x
    · rw [if_pos hx, if_pos hx, if_pos hx]; exact ⟨_, rfl, h.set hi y⟩
    · rw [if_neg hx, if_neg hx, if_neg hx]; exact ⟨_, rfl, h⟩
  · rw [decide_eq_false hi, if_pos (by simp), if_neg hi, if_neg hi, if_neg hi]
    exact ⟨_, rfl, h⟩
theorem Ls.add (h : Ls sz c S) (i x : Int) : ∃ S', cells_Shared_Add S i x = some ((if 0 ≤ i ∧ i < (c.length : Int) then wi (at_ c i.toNat + x) else 0), (if 0 ≤ i ∧ i < (c.length : Int) then 0 else 20), S') ∧
    Ls sz (if 0 ≤ i ∧ i < (c.length : Int) then c.set i.toNat (wi (at_ c i.toNat + x)) else c) S' := by
  have hl := h.len
  have hle := h.le
  unfold cells_Shared_Add
  rw [h.out, ob1_some]
  by_cases hi : 0 ≤ i ∧ i < (c.length : Int)
  · rw [decide_eq_true hi, if_neg (by simp), if_pos ⟨hi.1, by omega⟩, if_pos hi, if_pos hi, if_pos hi, h.lo i.toNat (by omega)]
    exact ⟨_, rfl, h.set hi _⟩
  · rw [decide_eq_false hi, if_pos (by simp), if_neg hi, if_neg hi, if_neg hi]
    exact ⟨_, rfl, h⟩
theorem Ls.reserve (h : Ls sz c S) (x : Int) : ∃ S', cells_Shared_Reserve S x = some ((if x < 1 then 0 else if x > sz - (c.length : Int) then 0 else (c.length : Int)), (if x < 1 then 21 else if x > sz - (c.length : Int) then 22 else 0), S') ∧
    Ls sz (if x < 1 then c else if x > sz - (c.length : Int) then c else c ++ List.replicate x.toNat 0) S' := by
  have hl := h.len
  have hle := h.le
  have hS : ({ S with ledger_size := sz, ledger_mark := (c.length : Int), lock_mu_state := 0 } : T_cells_Shared) = S := by
    have h1 := h.size; have h2 := h.mark; have h3 := h.lock
    cases S; simp only at h1 h2 h3; rw [h1, h2, h3]
  unfold cells_Shared_Reserve cells_ledger_refuse_Shared cells_ledger_take_Shared
  rw [if_pos h.lock]
  simp only [h.size, h.mark]
  rw [wi_in (x := sz - (c.length : Int)) (by omega)]
  by_cases h1 : x < 1
  · rw [if_pos h1, ob1_some, if_neg (by decide), hS, if_pos h1, if_pos h1, if_pos h1]; exact ⟨S, rfl, h⟩
  · rw [if_neg h1, if_neg h1, if_neg h1, if_neg h1]
    by_cases h2 : x > sz - (c.length : Int)
    · rw [if_pos h2, ob1_some, if_neg (by decide), hS, if_pos h2, if_pos h2, if_pos h2]; exact ⟨S, rfl, h⟩
    · rw [if_neg h2, if_neg h2, if_neg h2, if_neg h2, ob1_some, if_pos rfl, ob2_some, wi_in (x := (c.length : Int) + x) (by omega)]
      simp only [reduceIte]
      refine ⟨_, rfl, ⟨rfl, by show (c.length : Int) + x = _; simp; omega, rfl, by show (c.length : Int) + x = _; simp; omega, hl, by simp; omega, fun i hi => ?_, fun i h3 h4 => ?_⟩⟩
      · show (at_ S.cell i).v = _
        by_cases hc : i < c.length
        · rw [at_appl hc]; exact h.lo i hc
        · rw [List.length_append, List.length_replicate] at hi
          rw [at_appr (by omega), at_rep (by omega)]; exact h.hi i (by omega) (by omega)
      · rw [List.length_append, List.length_replicate] at h3
        exact h.hi i (by omega) h4
theorem Ls.shared (h : Ls sz c S) (q k ad x y : Int) (h0 : 0 ≤ k) (h4 : k ≤ 4) : ∃ S', plunderlaw2_shared S ⟨q, k, ad, x, y⟩ = some ((pl sz c k ad x y).1, S') ∧ Ls sz (pl sz c k ad x y).2 S' := by
  unfold plunderlaw2_shared pl
  simp only
  by_cases k0 : k = 0
  · subst k0
    rw [if_pos rfl, if_neg (by decide), h.load]
    refine ⟨S, ?_, ?_⟩
    · by_cases hi : 0 ≤ ad ∧ ad < (c.length : Int)
      · rw [if_pos hi, if_pos hi]; rfl
      · rw [if_neg hi, if_neg hi]; rfl
    · by_cases hi : 0 ≤ ad ∧ ad < (c.length : Int)
      · rw [if_pos hi]; exact h
      · rw [if_neg hi]; exact h
  rw [if_neg k0]
  by_cases k1 : k = 1
  · subst k1
    obtain ⟨S', e1, e2⟩ := h.store ad x
    refine ⟨S', ?_, ?_⟩
    · rw [if_pos rfl, if_neg (by decide), e1]
      by_cases hi : 0 ≤ ad ∧ ad < (c.length : Int)
      · rw [if_pos hi, if_pos hi]; rfl
      · rw [if_neg hi, if_neg hi]; rfl
    · rw [if_neg (by decide)]
      by_cases hi : 0 ≤ ad ∧ ad < (c.length : Int)
      · rw [if_pos hi] at e2; rw [if_pos hi]; exact e2
      · rw [if_neg hi] at e2; rw [if_neg hi]; exact e2
  rw [if_neg k1]
  by_cases k2 : k = 2
  · subst k2
    obtain ⟨S', e1, e2⟩ := h.cas ad x y
    refine ⟨S', ?_, ?_⟩
    · rw [if_pos rfl, if_neg (by decide), e1]
      by_cases hi : 0 ≤ ad ∧ ad < (c.length : Int)
      · rw [if_pos hi, if_pos hi, if_pos hi]
        by_cases hx : at_ c ad.toNat = x
        · simp [hx]
        · simp [hx]
      · rw [if_neg hi, if_neg hi, if_neg hi]; rfl
    · rw [if_neg (by decide)]
      by_cases hi : 0 ≤ ad ∧ ad < (c.length : Int)
      · rw [if_pos hi] at e2; rw [if_pos hi, if_neg (by decide), if_neg (by decide), if_pos rfl]
        by_cases hx : at_ c ad.toNat = x
        · rw [if_pos hx] at e2; rw [if_pos hx]; exact e2
        · rw [if_neg hx] at e2; rw [if_neg hx]; exact e2
      · rw [if_neg hi] at e2; rw [if_neg hi]; exact e2
  rw [if_neg k2]
  by_cases k3 : k = 3
  · subst k3
    obtain ⟨S', e1, e2⟩ := h.add ad x
    refine ⟨S', ?_, ?_⟩
    · rw [if_pos rfl, if_neg (by decide), e1]
      by_cases hi : 0 ≤ ad ∧ ad < (c.length : Int)
      · rw [if_pos hi, if_pos hi, if_pos hi]; rfl
      · rw [if_neg hi, if_neg hi, if_neg hi]; rfl
    · rw [if_neg (by decide)]
      by_cases hi : 0 ≤ ad ∧ ad < (c.length : Int)
      · rw [if_pos hi] at e2; rw [if_pos hi]; exact e2
      · rw [if_neg hi] at e2; rw [if_neg hi]; exact e2
  rw [if_neg k3]
  obtain rfl : k = 4 := by omega
  obtain ⟨S', e1, e2⟩ := h.reserve x
  refine ⟨S', ?_, ?_⟩
  · rw [if_pos rfl, e1, ob3_some]
    by_cases h1 : x < 1
    · simp [h1]
    · by_cases h2 : x > sz - (c.length : Int)
      · simp [h1, h2]
      · simp [h1, h2]
  · rw [if_pos rfl]
    by_cases h1 : x < 1
    · rw [if_pos h1] at e2; rw [if_pos h1]; exact e2
    · rw [if_neg h1] at e2; rw [if_neg h1]
      by_cases h2 : x > sz - (c.length : Int)
      · rw [if_pos h2] at e2; rw [if_pos h2]; exact e2
      · rw [if_neg h2] at e2; rw [if_neg h2]; exact e2
theorem Ls.mark_ (h : Ls sz c S) : cells_Shared_Mark S = some ((c.length : Int), S) := by
  have hS : ({ S with lock_mu_state := 0 } : T_cells_Shared) = S := by
    have h3 := h.lock
    cases S; simp only at h3; rw [h3]
  unfold cells_Shared_Mark cells_ledger_Mark
  rw [if_pos h.lock, ob1_some, hS, h.mark]
theorem Ls.holds_l {K : Nat} {w : List Int} (h : Ls sz c S) : ∀ (d k i : Nat), i + d = c.length → d < k → plunderlaw2_holds_l1 K S c k (i : Int) = some (.inl ())
  | d, k, i, he, hk => by
    obtain ⟨k, rfl⟩ : ∃ m, k = m + 1 := ⟨k - 1, by omega⟩
    have hle := h.le
    rw [plunderlaw2_holds_l1]
    by_cases hi : i < c.length
    · obtain ⟨d, rfl⟩ : ∃ m, d = m + 1 := ⟨d - 1, by omega⟩
      rw [if_pos (by omega), h.load, if_pos ⟨by omega, by omega⟩, ob2_some, if_pos rfl, if_pos ⟨by omega, by omega⟩, if_pos rfl, wi_in (x := (i : Int) + 1) (by omega), show ((i : Int) + 1) = ((i + 1 : Nat) : Int) by omega]
      exact h.holds_l (w := w) d k (i + 1) (by omega) (by omega)
    · rw [if_neg (by omega)]
theorem Ls.holds (h : Ls sz c S) {K : Nat} (hK : c.length < K) : plunderlaw2_holds K S c = some (true, S) := by
  unfold plunderlaw2_holds
  have := h.holds_l (K := K) (w := []) c.length K 0 (by omega) hK
  simp only [Int.natCast_zero] at this
  rw [this, jn0_inl, h.load, if_neg (by omega), ob2_some, if_pos rfl, h.mark_, ob2_some]
  simp
theorem Ls.fresh (h0 : 0 ≤ sz) (h1 : sz ≤ 1048576) : cells_NewShared sz = some (some ⟨sz, 0, 0, 0, 0, List.replicate sz.toNat ⟨0⟩⟩, 0) ∧ Ls sz [] ⟨sz, 0, 0, 0, 0, List.replicate sz.toNat ⟨0⟩⟩ := by
  refine ⟨?_, rfl, rfl, rfl, rfl, by show ((List.replicate sz.toNat (⟨0⟩ : T_atomic_Int64)).length : Int) = sz; simp; omega, ⟨h0, h1⟩, fun i hi => by simp at hi, fun i _ hi => by show (at_ (List.replicate sz.toNat (⟨0⟩ : T_atomic_Int64)) i).v = 0; rw [at_rep (by omega)]⟩
  unfold cells_NewShared cells_good
  rw [if_pos h0, ob1_some, if_pos (decide_eq_true h1), if_pos ⟨h0, by omega⟩]
end
/-! ### an arena -/
/-- An arena holds these cells; its log is of at most n. -/
structure La (sz : Int) (c : List Int) (n : Nat) (A : T_cells_Arena) : Prop where
  size : A.ledger_size = sz
  mark : A.ledger_mark = (c.length : Int)
  cell : A.cell = c
  log : A.log.length ≤ n
  le : (c.length : Int) ≤ sz ∧ sz ≤ 1048576
section
variable {A : T_cells_Arena} {sz : Int} {c : List Int} {n : Nat}
theorem La.note (h : La sz c n A) (hn : n ≤ 100000) (k i x y : Int) (ok : Bool) : ∃ A', cells_Arena_note A k i x y ok = some A' ∧ La sz c (n + 1) A' := by
  unfold cells_Arena_note
  have hl := h.log
  by_cases ho : A.watched = true
  · rw [if_pos ho, if_pos (by omega)]
    exact ⟨_, rfl, h.size, h.mark, h.cell, by show (A.log ++ [_]).length ≤ n + 1; simp; omega, h.le⟩
  · rw [if_neg ho]
    exact ⟨_, rfl, h.size, h.mark, h.cell, by omega, h.le⟩
theorem La.up (h : La sz c n A) : La sz c (n + 1) A := { h with log := Nat.le_succ_of_le h.log }
theorem La.set (h : La sz c n A) (i : Nat) (v : Int) : La sz (c.set i v) n { A with cell := c.set i v } := ⟨h.size, by show A.ledger_mark = _; rw [List.length_set]; exact h.mark, rfl, h.log, by rw [List.length_set]; exact h.le⟩
theorem La.out (h : La sz c n A) (i : Int) : cells_Arena_outside A i = some (!decide (0 ≤ i ∧ i < (c.length : Int))) := by
  unfold cells_Arena_outside cells_ledger_has
  by_cases h0 : i ≥ 0
  · rw [if_pos h0, h.mark, ob1_some]; congr 2; simp only [decide_eq_decide]; omega
  · rw [if_neg h0, ob1_some, decide_eq_false (by omega)]
theorem La.act (h : La sz c n A) (hn : n ≤ 100000) (t : T_api_Act) : ∃ r A', cells_Arena_act A t = some (r, A') ∧
    ((t.Kind < 0 ∨ t.Kind > 4) ∧ r.Err ≠ 0 ∧ La sz c (n + 1) A' ∨ (0 ≤ t.Kind ∧ t.Kind ≤ 4) ∧ r = (pl sz c t.Kind t.Addr t.A t.B).1 ∧ La sz (pl sz c t.Kind t.Addr t.A t.B).2 (n + 1) A') := by
  have hle := h.le
  have hw : La sz c n { A with actor := t.Who } := ⟨h.size, h.mark, h.cell, h.log, h.le⟩
  unfold cells_Arena_act
  rw [cells_Arena_Who, ob1_some]
  revert hw
  generalize ({ A with actor := t.Who } : T_cells_Arena) = A1
  intro hw
  unfold pl
  by_cases k0 : t.Kind = 0
  · rw [if_pos k0, k0]
    simp only [Int.reduceEq, reduceIte, Int.reduceLT, Int.reduceLE]
    unfold cells_Arena_Load
    rw [hw.out, ob1_some]
    by_cases hi : 0 ≤ t.Addr ∧ t.Addr < (c.length : Int)
    · obtain ⟨A2, n1, n2⟩ := hw.note hn 0 t.Addr (at_ c t.Addr.toNat) 0 true
      rw [decide_eq_true hi, if_neg (by simp), hw.cell, if_pos hi, n1, ob1_some, ob3_some]
      refine ⟨_, _, rfl, .inr ⟨by decide, ?_, ?_⟩⟩
      · rw [if_pos hi]; rfl
      · rw [if_pos hi]; exact n2
    · rw [decide_eq_false hi, if_pos (by simp), ob3_some]
      refine ⟨_, _, rfl, .inr ⟨by decide, ?_, ?_⟩⟩
      · rw [if_neg hi]; rfl
      · rw [if_neg hi]; exact hw.up
  rw [if_neg k0]
  by_cases k1 : t.Kind = 1
  · rw [if_pos k1, k1]
    simp only [Int.reduceEq, reduceIte, Int.reduceLT, Int.reduceLE]
    unfold cells_Arena_Store
    rw [hw.out, ob1_some]
    by_cases hi : 0 ≤ t.Addr ∧ t.Addr < (c.length : Int)
    · obtain ⟨A2, n1, n2⟩ := (hw.set t.Addr.toNat t.A).note hn 1 t.Addr t.A 0 true
      rw [decide_eq_true hi, if_neg (by simp), hw.cell, if_pos hi, n1, ob1_some, ob2_some]
      refine ⟨_, _, rfl, .inr ⟨by decide, ?_, ?_⟩⟩
      · rw [if_pos hi]; rfl
      · rw [if_pos hi]; exact n2
    · rw [decide_eq_false hi, if_pos (by simp), ob2_some]
      refine ⟨_, _, rfl, .inr ⟨by decide, ?_, ?_⟩⟩
      · rw [if_neg hi]; rfl
      · rw [if_neg hi]; exact hw.up
  rw [if_neg k1]
  by_cases k2 : t.Kind = 2
  · rw [if_pos k2, k2]
    simp only [Int.reduceEq, reduceIte, Int.reduceLT, Int.reduceLE]
    unfold cells_Arena_CAS
    rw [hw.out, ob1_some]
    by_cases hi : 0 ≤ t.Addr ∧ t.Addr < (c.length : Int)
    · rw [decide_eq_true hi, if_neg (by simp), hw.cell, if_pos hi]
      by_cases hx : at_ c t.Addr.toNat = t.A
      · obtain ⟨A2, n1, n2⟩ := (hw.set t.Addr.toNat t.B).note hn 2 t.Addr t.A t.B (at_ c t.Addr.toNat == t.A)
        rw [if_pos hx, n1, ob1_some, ob3_some]
        refine ⟨_, _, rfl, .inr ⟨by decide, ?_, ?_⟩⟩
        · rw [if_pos hi, if_pos hx]; simp [hx]
        · rw [if_pos hi, if_pos hx]; exact n2
      · obtain ⟨A2, n1, n2⟩ := hw.note hn 2 t.Addr t.A t.B (at_ c t.Addr.toNat == t.A)
        rw [if_neg hx, n1, ob1_some, ob3_some]
        refine ⟨_, _, rfl, .inr ⟨by decide, ?_, ?_⟩⟩
        · rw [if_pos hi, if_neg hx]; simp [hx]
        · rw [if_pos hi, if_neg hx]; exact n2
    · rw [decide_eq_false hi, if_pos (by simp), ob3_some]
      refine ⟨_, _, rfl, .inr ⟨by decide, ?_, ?_⟩⟩
      · rw [if_neg hi]
      · rw [if_neg hi]; exact hw.up
  rw [if_neg k2]
  by_cases k3 : t.Kind = 3
  · rw [if_pos k3, k3]
    simp only [Int.reduceEq, reduceIte, Int.reduceLT, Int.reduceLE]
    unfold cells_Arena_Add
    rw [hw.out, ob1_some]
    by_cases hi : 0 ≤ t.Addr ∧ t.Addr < (c.length : Int)
    · obtain ⟨A2, n1, n2⟩ := (hw.set t.Addr.toNat (wi (at_ c t.Addr.toNat + t.A))).note hn 3 t.Addr t.A (wi (at_ c t.Addr.toNat + t.A)) true
      rw [decide_eq_true hi, if_neg (by simp), hw.cell, if_pos hi, if_pos (by rw [List.length_set]; exact hi), n1, ob1_some, n2.cell, if_pos (by rw [List.length_set]; exact hi), at_set_same (by omega), ob3_some]
      refine ⟨_, _, rfl, .inr ⟨by decide, ?_, ?_⟩⟩
      · rw [if_pos hi]; rfl
      · rw [if_pos hi]; exact n2
    · rw [decide_eq_false hi, if_pos (by simp), ob3_some]
      refine ⟨_, _, rfl, .inr ⟨by decide, ?_, ?_⟩⟩
      · rw [if_neg hi]; rfl
      · rw [if_neg hi]; exact hw.up
  rw [if_neg k3]
  by_cases k4 : t.Kind = 4
  · rw [if_pos k4, k4]
    simp only [reduceIte]
    unfold cells_Arena_Reserve cells_ledger_refuse cells_ledger_take
    simp only [hw.size, hw.mark, ob0_some]
    rw [wi_in (x := sz - (c.length : Int)) (by omega)]
    by_cases h1 : t.A < 1
    · rw [if_pos h1, ob1_some, if_neg (by decide), ob3_some]
      refine ⟨_, _, rfl, .inr ⟨by decide, ?_, ?_⟩⟩
      · rw [if_pos h1]; rfl
      · rw [if_pos h1]; exact hw.up
    · rw [if_neg h1]
      by_cases h2 : t.A > sz - (c.length : Int)
      · rw [if_pos h2, ob1_some, if_neg (by decide), ob3_some]
        refine ⟨_, _, rfl, .inr ⟨by decide, ?_, ?_⟩⟩
        · rw [if_neg h1, if_pos h2]; rfl
        · rw [if_neg h1, if_pos h2]; exact hw.up
      · have h3 : La sz (c ++ List.replicate t.A.toNat 0) n { A1 with ledger_size := sz, ledger_mark := (c.length : Int) + t.A, cell := A1.cell ++ List.replicate t.A.toNat 0 } := ⟨rfl, by show (c.length : Int) + t.A = _; simp; omega, by show A1.cell ++ _ = _; rw [hw.cell], hw.log, by simp; omega⟩
        obtain ⟨A2, n1, n2⟩ := h3.note hn 4 (c.length : Int) t.A 0 true
        rw [if_neg h2, ob1_some, if_pos rfl, ob2_some, wi_in (x := (c.length : Int) + t.A) (by omega), if_pos ⟨by omega, by show (A1.cell.length + _) * 8 ≤ _; rw [hw.cell]; omega⟩]
        have n1' := n1
        simp only [← hw.size] at n1' ⊢
        rw [n1', ob1_some, ob3_some]
        refine ⟨_, _, rfl, .inr ⟨by decide, ?_, ?_⟩⟩
        · rw [if_neg h1, if_neg (by rw [hw.size]; exact h2)]; rfl
        · rw [if_neg h1, if_neg (by rw [hw.size]; exact h2), hw.size]; exact n2
  rw [if_neg k4]
  exact ⟨_, _, rfl, .inl ⟨by omega, by show (23 : Int) ≠ 0; decide, hw.up⟩⟩
end
/-! ### the play, and the same acts on shared cells -/
/-- A run over plain cells: the effects, the cells. -/
def runs (sz : Int) : List Int → List T_api_Act → List T_api_Effect → List Int → Prop
  | c, [], es, c' => es = [] ∧ c' = c
  | c, t :: ts, es, c' => ∃ e es', es = e :: es' ∧ ((t.Kind < 0 ∨ t.Kind > 4) ∧ e.Err ≠ 0 ∧ runs sz c ts es' c' ∨ (0 ≤ t.Kind ∧ t.Kind ≤ 4) ∧ e = (pl sz c t.Kind t.Addr t.A t.B).1 ∧ runs sz (pl sz c t.Kind t.Addr t.A t.B).2 ts es' c')
theorem runs_len {sz : Int} : ∀ {ts : List T_api_Act} {c : List Int} {es : List T_api_Effect} {c' : List Int}, runs sz c ts es c' → es.length = ts.length
  | [], c, es, c', h => by rw [h.1]; rfl
  | t :: ts, c, es, c', h => by
    obtain ⟨e, es', rfl, h⟩ := h
    rcases h with ⟨_, _, h⟩ | ⟨_, _, h⟩ <;> simp [runs_len h]
theorem drop_cons {α : Type} [Inhabited α] {l : List α} {i : Nat} (h : i < l.length) : l.drop i = at_ l i :: l.drop (i + 1) := by
  rw [List.drop_eq_getElem_cons h]; unfold at_; rw [List.getD_eq_getElem?_getD, List.getElem?_eq_getElem h]; rfl
theorem play_l {K : Nat} {sz : Int} {p : List T_api_Act} (hp : p.length ≤ 4096) : ∀ (d k i : Nat) (A : T_cells_Arena) (c : List Int) (l : List T_api_Effect), i + d = p.length → d < k → La sz c i A → l.length = i →
    ∃ A' c' es, cells_Play_l1 K p k A l (i : Int) = some (A', l ++ es) ∧ La sz c' p.length A' ∧ runs sz c (p.drop i) es c'
  | d, k, i, A, c, l, h, hk, hA, hl => by
    obtain ⟨k, rfl⟩ : ∃ m, k = m + 1 := ⟨k - 1, by omega⟩
    rw [cells_Play_l1]
    by_cases hi : i < p.length
    · obtain ⟨d, rfl⟩ : ∃ m, d = m + 1 := ⟨d - 1, by omega⟩
      obtain ⟨r, A1, e1, e2⟩ := hA.act (by omega) (at_ p i)
      rw [if_pos (by omega), if_pos ⟨by omega, by omega⟩, Int.toNat_natCast, e1, ob2_some, if_pos (by omega), wi_in (x := (i : Int) + 1) (by omega), show ((i : Int) + 1) = ((i + 1 : Nat) : Int) by omega, drop_cons hi]
      rcases e2 with ⟨q1, q2, q3⟩ | ⟨q1, q2, q3⟩
      · obtain ⟨A', c', es, f1, f2, f3⟩ := play_l hp d k (i + 1) A1 c (l ++ [r]) (by omega) (by omega) q3 (by simp [hl])
        exact ⟨A', c', r :: es, by rw [f1, List.append_assoc]; rfl, f2, r, es, rfl, .inl ⟨q1, q2, f3⟩⟩
      · obtain ⟨A', c', es, f1, f2, f3⟩ := play_l hp d k (i + 1) A1 _ (l ++ [r]) (by omega) (by omega) q3 (by simp [hl])
        exact ⟨A', c', r :: es, by rw [f1, List.append_assoc]; rfl, f2, r, es, rfl, .inr ⟨q1, q2, f3⟩⟩
    · rw [if_neg (by omega), List.drop_of_length_le (by omega)]
      exact ⟨A, c, [], by rw [List.append_nil], { hA with log := by have := hA.log; omega }, rfl, rfl⟩
theorem play_ok {K : Nat} {sz : Int} {p : List T_api_Act} (hp : p.length ≤ 4096) (hK : 5000 < K) (h0 : 0 ≤ sz) (h1 : sz ≤ 4096) :
    ∃ r c', cells_Play K sz p = some (r, 0) ∧ r.Cells = c' ∧ runs sz [] p r.Effects c' := by
  unfold cells_Play
  have hn : cells_New sz = some (some ⟨sz, 0, [], [], 0, false⟩, 0) := by
    unfold cells_New cells_good
    rw [if_pos h0, ob1_some, if_pos (decide_eq_true (by omega))]
  rw [hn, ob2_some]
  simp only [reduceIte]
  rw [if_neg (by omega), cells_Arena_Watch, ob1_some]
  have hA : La sz [] 0 (⟨sz, 0, [], [], 0, true⟩ : T_cells_Arena) := ⟨rfl, rfl, rfl, Nat.le_refl _, h0, by omega⟩
  obtain ⟨A', c', es, f1, f2, f3⟩ := play_l (K := K) hp p.length K 0 _ _ [] (by omega) (by omega) hA rfl
  simp only [Int.natCast_zero, List.nil_append, List.drop_zero] at f1 f3
  have hle := f2.le
  have hlog := f2.log
  have hc : cells_Arena_Cells A' = some A'.cell := by
    unfold cells_Arena_Cells
    rw [if_pos ⟨by omega, by rw [f2.cell]; omega⟩, if_pos (by simp)]
  have hg : cells_Arena_Log A' = some A'.log := by
    unfold cells_Arena_Log
    rw [if_pos ⟨by omega, by omega⟩, if_pos (by simp)]
  rw [f1, ob2_some, hc, ob1_some, hg, ob1_some]
  exact ⟨_, c', rfl, f2.cell, f3⟩
theorem l1 {K : Nat} {sz : Int} {p1 : List T_api_Act} (hp : (p1.take 4096).length ≤ 4096) {r : T_api_CellRun} (hr : r.Effects.length = (p1.take 4096).length) : ∀ (d k i : Nat) (S : T_cells_Shared) (c c' : List Int), i + d = (p1.take 4096).length → d < k → Ls sz c S → runs sz c ((p1.take 4096).drop i) (r.Effects.drop i) c' →
    ∃ S', plunderlaw2_CellsAlike_l1 K p1 r k S (i : Int) = some (.inl S') ∧ Ls sz c' S'
  | d, k, i, S, c, c', h, hk, hS, hq => by
    obtain ⟨k, rfl⟩ : ∃ m, k = m + 1 := ⟨k - 1, by omega⟩
    rw [plunderlaw2_CellsAlike_l1]
    by_cases hi : i < (p1.take 4096).length
    · obtain ⟨d, rfl⟩ : ∃ m, d = m + 1 := ⟨d - 1, by omega⟩
      rw [drop_cons hi, drop_cons (l := r.Effects) (i := i) (by omega)] at hq
      obtain ⟨e, es', he, hq⟩ := hq
      simp only [List.cons.injEq] at he
      obtain ⟨rfl, rfl⟩ := he
      have w : wi ((i : Int) + 1) = ((i + 1 : Nat) : Int) := by rw [wi_in (by omega)]; omega
      rw [if_pos (by omega), if_pos ⟨by omega, by omega⟩, Int.toNat_natCast, w]
      rcases hq with ⟨q1, q2, q3⟩ | ⟨q1, q2, q3⟩
      · by_cases hk0 : (at_ (p1.take 4096) i).Kind < 0
        · rw [if_pos hk0, if_pos ⟨by omega, by omega⟩, if_neg q2]
          exact l1 hp hr d k (i + 1) S c c' (by omega) (by omega) hS q3
        · rw [if_neg hk0, if_pos (by omega), if_pos ⟨by omega, by omega⟩, if_neg q2]
          exact l1 hp hr d k (i + 1) S c c' (by omega) (by omega) hS q3
      · obtain ⟨S1, e1, e2⟩ := hS.shared 0 (at_ (p1.take 4096) i).Kind (at_ (p1.take 4096) i).Addr (at_ (p1.take 4096) i).A (at_ (p1.take 4096) i).B q1.1 q1.2
        rw [if_neg (by omega), if_neg (by omega), e1, ob2_some, if_pos ⟨by omega, by omega⟩, if_pos q2.symm]
        exact l1 hp hr d k (i + 1) S1 _ c' (by omega) (by omega) e2 q3
    · rw [List.drop_of_length_le (by omega), List.drop_of_length_le (by omega)] at hq
      rw [if_neg (by omega), hq.2]
      exact ⟨S, rfl, hS⟩
theorem l2 {K : Nat} {sz : Int} {p1 : List T_api_Act} (hp : (p1).length ≤ 4096) {r : T_api_CellRun} (hr : r.Effects.length = (p1).length) : ∀ (d k i : Nat) (S : T_cells_Shared) (c c' : List Int), i + d = (p1).length → d < k → Ls sz c S → runs sz c ((p1).drop i) (r.Effects.drop i) c' →
    ∃ S', plunderlaw2_CellsAlike_l2 K p1 r k S (i : Int) = some (.inl S') ∧ Ls sz c' S'
  | d, k, i, S, c, c', h, hk, hS, hq => by
    obtain ⟨k, rfl⟩ : ∃ m, k = m + 1 := ⟨k - 1, by omega⟩
    rw [plunderlaw2_CellsAlike_l2]
    by_cases hi : i < (p1).length
    · obtain ⟨d, rfl⟩ : ∃ m, d = m + 1 := ⟨d - 1, by omega⟩
      rw [drop_cons hi, drop_cons (l := r.Effects) (i := i) (by omega)] at hq
      obtain ⟨e, es', he, hq⟩ := hq
      simp only [List.cons.injEq] at he
      obtain ⟨rfl, rfl⟩ := he
      have w : wi ((i : Int) + 1) = ((i + 1 : Nat) : Int) := by rw [wi_in (by omega)]; omega
      rw [if_pos (by omega), if_pos ⟨by omega, by omega⟩, Int.toNat_natCast, w]
      rcases hq with ⟨q1, q2, q3⟩ | ⟨q1, q2, q3⟩
      · by_cases hk0 : (at_ (p1) i).Kind < 0
        · rw [if_pos hk0, if_pos ⟨by omega, by omega⟩, if_neg q2]
          exact l2 hp hr d k (i + 1) S c c' (by omega) (by omega) hS q3
        · rw [if_neg hk0, if_pos (by omega), if_pos ⟨by omega, by omega⟩, if_neg q2]
          exact l2 hp hr d k (i + 1) S c c' (by omega) (by omega) hS q3
      · obtain ⟨S1, e1, e2⟩ := hS.shared 0 (at_ (p1) i).Kind (at_ (p1) i).Addr (at_ (p1) i).A (at_ (p1) i).B q1.1 q1.2
        rw [if_neg (by omega), if_neg (by omega), e1, ob2_some, if_pos ⟨by omega, by omega⟩, if_pos q2.symm]
        exact l2 hp hr d k (i + 1) S1 _ c' (by omega) (by omega) e2 q3
    · rw [List.drop_of_length_le (by omega), List.drop_of_length_le (by omega)] at hq
      rw [if_neg (by omega), hq.2]
      exact ⟨S, rfl, hS⟩
theorem runs_le {sz : Int} : ∀ {ts : List T_api_Act} {c : List Int} {es : List T_api_Effect} {c' : List Int}, runs sz c ts es c' → (c.length : Int) ≤ sz → 0 ≤ sz → (c'.length : Int) ≤ sz
  | [], c, es, c', h, hc, _ => by rw [h.2]; exact hc
  | t :: ts, c, es, c', h, hc, h0 => by
    obtain ⟨e, es', rfl, h⟩ := h
    rcases h with ⟨_, _, h⟩ | ⟨_, _, h⟩
    · exact runs_le h hc h0
    · refine runs_le h ?_ h0
      unfold pl
      split
      · split
        · exact hc
        · split
          · exact hc
          · simp; omega
      · split
        · split
          · exact hc
          · split
            · simpa using hc
            · split
              · split
                · simpa using hc
                · exact hc
              · simpa using hc
        · exact hc
theorem alike_true {K : Nat} (hK : 5000 < K) (p0 : Int) (p1 : List T_api_Act) : plunderlaw2_CellsAlike K p0 p1 = some true := by
  unfold plunderlaw2_CellsAlike
  obtain ⟨sz, a1, a2, a3⟩ := mod_ok p0 (m := 4097) (by decide) (by decide)
  obtain ⟨n1, n2⟩ := Ls.fresh (sz := sz) a2 (by omega)
  rw [a1, ob1_some]
  by_cases hb : (p1.length : Int) > 4096
  · have ht : (p1.take 4096).length ≤ 4096 := by rw [List.length_take]; omega
    obtain ⟨r, c', e1, e2, e3⟩ := play_ok (K := K) ht hK a2 (by omega)
    have hl := runs_len e3
    obtain ⟨S', f1, f2⟩ := l1 (K := K) ht hl (p1.take 4096).length K 0 _ [] c' (by omega) (by omega) n2 (by simpa using e3)
    simp only [Int.natCast_zero] at f1
    have hc := runs_le e3 (by simpa using a2) a2
    rw [if_pos hb, if_pos ⟨by decide, by omega⟩, e1, ob2_some, n1, ob2_some]
    simp only [reduceIte]
    rw [if_pos (by omega), jn0_inl, f1, jn1_inl, e2, f2.holds (by omega), ob2_some]
  · have ht : p1.length ≤ 4096 := by omega
    obtain ⟨r, c', e1, e2, e3⟩ := play_ok (K := K) ht hK a2 (by omega)
    have hl := runs_len e3
    obtain ⟨S', f1, f2⟩ := l2 (K := K) ht hl p1.length K 0 _ [] c' (by omega) (by omega) n2 (by simpa using e3)
    simp only [Int.natCast_zero] at f1
    have hc := runs_le e3 (by simpa using a2) a2
    rw [if_neg hb, e1, ob2_some, n1, ob2_some]
    simp only [reduceIte]
    rw [if_pos (by omega), jn0_inl, f1, jn1_inl, e2, f2.holds (by omega), ob2_some]
end Go.Proofs.Ytacgigkonoegiaa.Mo
