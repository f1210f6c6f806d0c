/- Frames are given out once each: what the walk's plain functions answer. No memory is spoken of. -/
import Derived.Test.YtnghahgfcaolbaaFi2
namespace Go.Proofs.Ytnghahgfcaolbaa.Mo
open Go Go.Proofs.Ytnghahgfcaolbaa.SL Go.Proofs.Ytnghahgfcaolbaa.GX
set_option linter.unusedVariables false
set_option linter.unusedSimpArgs false
theorem wi1 {g : Int} (h0 : 0 ≤ g) (h1 : g < 4611686018427387904) : wi (g + (1 : Int)) = g + 1 := wi_in (by omega)
theorem mod_ok (x : Int) {m : Int} (hm : 0 < m) (hm2 : m ≤ 1048576) : ∃ r, plunderlaw8_mod x m = some r ∧ 0 ≤ r ∧ r < m := by
  unfold plunderlaw8_mod
  rw [if_pos (by omega)]
  have h1 := Int.tmod_lt_of_pos x hm
  have h2 : -m < x.tmod m := by
    have := Int.tmod_lt_of_pos (-x) hm
    rw [Int.neg_tmod] at this
    omega
  by_cases h : x.tmod m < 0
  · rw [if_pos h]
    exact ⟨_, rfl, by rw [wi_in (by omega)]; omega, by rw [wi_in (by omega)]; omega⟩
  · rw [if_neg h]
    exact ⟨_, rfl, by omega, h1⟩
/-- An arena that is not watched: its cells. -/
def ar (s : Int) (c : List Int) : T_cells_Arena := ⟨s, (c.length : Int), c, [], 0, false⟩
theorem ar_out (s : Int) (c : List Int) (i : Int) (h0 : 0 ≤ i) (h1 : i < (c.length : Int)) : cells_Arena_outside (ar s c) i = some false := by
  unfold cells_Arena_outside cells_ledger_has ar
  rw [if_pos (show i ≥ 0 from h0), ob1_some, show decide (i < (c.length : Int)) = true from decide_eq_true h1]; rfl
theorem ar_note (s m : Int) (c : List Int) (k i x y : Int) (ok : Bool) : cells_Arena_note ⟨s, m, c, [], 0, false⟩ k i x y ok = some ⟨s, m, c, [], 0, false⟩ := by
  unfold cells_Arena_note
  simp
theorem ar_store (s : Int) (c : List Int) (i v : Int) (h0 : 0 ≤ i) (h1 : i < (c.length : Int)) : cells_Arena_Store (ar s c) i v = some (0, ar s (c.set i.toNat v)) := by
  unfold cells_Arena_Store
  rw [ar_out s c i h0 h1, ob1_some]
  simp only [Bool.false_eq_true, if_false]
  rw [if_pos ⟨h0, h1⟩]
  simp only [ar, ar_note, ob1_some, List.length_set]
theorem ar_add (s : Int) (c : List Int) (i v : Int) (h0 : 0 ≤ i) (h1 : i < (c.length : Int)) : cells_Arena_Add (ar s c) i v = some (wi (at_ c i.toNat + v), 0, ar s (c.set i.toNat (wi (at_ c i.toNat + v)))) := by
  unfold cells_Arena_Add
  rw [ar_out s c i h0 h1, ob1_some]
  simp only [Bool.false_eq_true, if_false]
  rw [if_pos ⟨h0, h1⟩, if_pos ⟨h0, by simp only [ar, List.length_set]; exact h1⟩]
  simp only [ar, ar_note, ob1_some, List.length_set]
  rw [if_pos ⟨h0, h1⟩, at_set_same (by omega)]
/-- The cells of a table. -/
structure Laid (n : Nat) (c : List Int) : Prop where
  len : c.length = 1 + 10 * n
  next : at_ c 0 = 0
theorem at_rep {α : Type} [Inhabited α] {n i : Nat} {x : α} (h : i < n) : at_ (List.replicate n x) i = x := by
  unfold at_; rw [List.getD_eq_getElem?_getD, List.getElem?_replicate, if_pos h]; rfl
theorem new_l {K : Nat} {n : Nat} {s : Int} (hn : n ≤ 64) : ∀ (d k i : Nat) (c : List Int), i + d = n → d < k → Laid n c → ∃ c', frames_New_iface_l1 K (n : Int) 0 k (ar s c) (i : Int) = some (⟨0, (n : Int)⟩, 0, ar s c') ∧ Laid n c'
  | d, k, i, c, h, hk, hc => by
    obtain ⟨k, rfl⟩ : ∃ m, k = m + 1 := ⟨k - 1, by omega⟩
    have hl := hc.len
    rw [frames_New_iface_l1]
    by_cases hi : i < n
    · obtain ⟨d, rfl⟩ : ∃ m, d = m + 1 := ⟨d - 1, by omega⟩
      have w3 : wi (wi ((0 : Int) + 1) + wi ((i : Int) * 10)) = 1 + (i : Int) * 10 := by rw [wi_in (x := (0 : Int) + 1) (by omega), wi_in (x := (i : Int) * 10) (by omega), wi_in (by omega)]; omega
      rw [if_pos (by omega), frames_Table__join]
      simp only [w3, ob1_some]
      rw [ar_store s c _ _ (by omega) (by omega), ob2_some, if_pos rfl, wi1 (by omega) (by omega), show ((i : Int) + 1) = ((i + 1 : Nat) : Int) by omega]
      exact new_l hn d k (i + 1) _ (by omega) (by omega) ⟨by rw [List.length_set]; exact hl, by rw [at_set_ne (by omega)]; exact hc.next⟩
    · rw [if_neg (by omega)]
      exact ⟨c, rfl, hc⟩
theorem new_ok {K : Nat} {n : Nat} (hn0 : 0 < n) (hn : n ≤ 64) (hK : 5000 < K) : ∃ c, frames_New_iface K ⟨((1 + 10 * n : Nat) : Int), 0, [], [], 0, false⟩ (n : Int) = some (⟨0, (n : Int)⟩, 0, ar ((1 + 10 * n : Nat) : Int) c) ∧ Laid n c := by
  unfold frames_New_iface frames_Cells
  have hw : wi ((1 : Int) + wi ((n : Int) * 10)) = ((1 + 10 * n : Nat) : Int) := by rw [wi_in (x := (n : Int) * 10) (by omega), wi_in (by omega)]; omega
  rw [if_neg (by omega), if_neg (by omega), hw, ob1_some, if_neg (by omega), ob1_some]
  unfold cells_Arena_Reserve cells_ledger_refuse cells_ledger_take
  simp only [ob0_some]
  rw [if_neg (by omega), if_neg (by rw [wi_in (by omega)]; omega), ob1_some, if_pos rfl]
  simp only [ob2_some]
  rw [if_pos ⟨by omega, by simp; omega⟩]
  simp only [ar_note, ob1_some, ob3_some, reduceIte, List.nil_append, Int.toNat_natCast]
  rw [show wi ((0 : Int) + ((1 + 10 * n : Nat) : Int)) = ((List.replicate (1 + 10 * n) (0 : Int)).length : Int) by rw [wi_in (by omega)]; simp]
  have := new_l (K := K) (n := n) (s := ((1 + 10 * n : Nat) : Int)) hn n K 0 (List.replicate (1 + 10 * n) 0) (by omega) (by omega) ⟨by simp, at_rep (by omega)⟩
  simpa [ar] using this
theorem alloc_step {s : Int} {n : Nat} {c : List Int} {q : Nat} (hn0 : 0 < n) (hn : n ≤ 64) (hl : c.length = 1 + 10 * n) (hq : at_ c 0 = (q : Int)) (hq2 : q ≤ 1000) :
    ∃ o, frames_Step_iface (ar s c) ⟨0, (n : Int), 0, 1, 0, 0, 0, 0, 0⟩ = some (o, ar s (c.set 0 ((q : Int) + 1))) ∧ frames_Answer o = some (if q < n then (4, (q : Int)) else (3, 0)) := by
  unfold frames_Step_iface frames_Op_alloc_iface frames_Table__next frames_head_end
  simp only [Int.reduceEq, reduceIte, ob1_some]
  rw [ar_add s c 0 1 (by omega) (by omega), ob3_some]
  simp only [Int.toNat_zero, hq, reduceIte]
  rw [wi1 (by omega) (by omega), if_pos (show (q : Int) + 1 ≥ 1 by omega), ob1_some]
  by_cases h : q < n
  · rw [show decide ((q : Int) + 1 ≤ (n : Int)) = true from decide_eq_true (by omega)]
    simp only [reduceIte, ob3_some]
    rw [if_neg (by omega), show wi ((q : Int) + 1 - 1) = (q : Int) by rw [wi_in (by omega)]; omega]
    refine ⟨_, rfl, ?_⟩
    unfold frames_Answer
    rw [if_neg (by simp), if_neg (by simp), if_pos h]
  · rw [show decide ((q : Int) + 1 ≤ (n : Int)) = false from decide_eq_false (by omega)]
    simp only [Bool.false_eq_true, reduceIte, ob3_some]
    rw [if_neg (by omega)]
    refine ⟨_, rfl, ?_⟩
    unfold frames_Answer
    rw [if_neg (by simp), if_neg (by simp), if_neg h]
theorem ids_l {K n m : Nat} {s r1 r3 : Int} (hn0 : 0 < n) (hn : n ≤ 64) (hm : m ≤ 300) (w1 : wi ((1 : Int) + r1) = (n : Int)) (w2 : wi (r3 + (n : Int)) = (m : Int)) : ∀ (d k i : Nat) (c : List Int), i + d = m → d < k → c.length = 1 + 10 * n → at_ c 0 = (i : Int) →
    plunderlaw8_FramesIds_l1 K r1 r3 ⟨0, (n : Int)⟩ k (ar s c) (i : Int) = some true
  | d, k, i, c, h, hk, hl, hc => by
    obtain ⟨k, rfl⟩ : ∃ m, k = m + 1 := ⟨k - 1, by omega⟩
    rw [plunderlaw8_FramesIds_l1, w1, w2]
    by_cases hi : i < m
    · obtain ⟨d, rfl⟩ : ∃ m, d = m + 1 := ⟨d - 1, by omega⟩
      obtain ⟨o, e1, e2⟩ := alloc_step (s := s) hn0 hn hl hc (by omega)
      have ha : frames_Alloc ⟨0, (n : Int)⟩ = some ⟨0, (n : Int), 0, 1, 0, 0, 0, 0, 0⟩ := by
        unfold frames_Alloc frames_begin frames_Table__has
        simp only [Int.reduceGE, ge_iff_le, Int.reduceLE, reduceIte]
        rw [if_pos (by omega), if_pos (by omega), ob1_some, show decide ((0 : Int) < (n : Int)) = true from decide_eq_true (by omega), if_pos rfl, if_neg (by decide), ob1_some]
      have ih := ids_l (K := K) (s := s) hn0 hn hm w1 w2 d k (i + 1) (c.set 0 ((i : Int) + 1)) (by omega) (by omega) (by rw [List.length_set]; exact hl) (by rw [at_set_same (by omega)]; omega)
      rw [if_pos (by omega), ha, ob1_some, e1, ob2_some, e2]
      by_cases hq : i < n
      · rw [if_pos hq, ob2_some, if_pos (by omega), if_pos rfl, if_pos rfl, if_neg (by omega), wi1 (by omega) (by omega), show ((i : Int) + 1) = ((i + 1 : Nat) : Int) by omega]
        exact ih
      · rw [if_neg hq, ob2_some, if_neg (by omega), if_pos (by omega), if_pos rfl, if_pos rfl, wi1 (by omega) (by omega), show ((i : Int) + 1) = ((i + 1 : Nat) : Int) by omega]
        exact ih
    · rw [if_neg (by omega)]
theorem ids_true {K : Nat} (hK : 5000 < K) (p0 p1 : Int) : plunderlaw8_FramesIds K p0 p1 = some true := by
  unfold plunderlaw8_FramesIds
  obtain ⟨r1, a1, a2, a3⟩ := mod_ok p0 (m := 64) (by decide) (by decide)
  obtain ⟨r3, b1, b2, b3⟩ := mod_ok p1 (m := 200) (by decide) (by decide)
  obtain ⟨n, hn⟩ : ∃ n : Nat, wi ((1 : Int) + r1) = (n : Int) := ⟨(1 + r1).toNat, by rw [wi_in (by omega)]; omega⟩
  have hn1 : (n : Int) = 1 + r1 := by rw [← hn, wi_in (by omega)]
  obtain ⟨m, hm⟩ : ∃ m : Nat, wi (r3 + (n : Int)) = (m : Int) := ⟨(r3 + n).toNat, by rw [wi_in (by omega)]; omega⟩
  have hm1 : (m : Int) = r3 + n := by rw [← hm, wi_in (by omega)]
  have hw : wi ((1 : Int) + wi ((n : Int) * 10)) = ((1 + 10 * n : Nat) : Int) := by rw [wi_in (x := (n : Int) * 10) (by omega), wi_in (by omega)]; omega
  obtain ⟨c, c1, c2⟩ := new_ok (K := K) (n := n) (by omega) (by omega) hK
  have e := ids_l (K := K) (n := n) (m := m) (s := ((1 + 10 * n : Nat) : Int)) (by omega) (by omega) (by omega) hn hm m K 0 c (by omega) (by omega) c2.len (by simpa using c2.next)
  simp only [Int.natCast_zero] at e
  rw [a1, ob1_some, b1, ob1_some, hn]
  unfold frames_Cells cells_New cells_good
  rw [if_neg (by omega), if_neg (by omega), hw, ob1_some, if_pos (by omega), ob1_some, show decide (((1 + 10 * n : Nat) : Int) ≤ 1048576) = true from decide_eq_true (by omega)]
  simp only [reduceIte, ob2_some, jn0_inl]
  rw [c1, ob3_some]
  simp only [reduceIte, jn0_inl]
  exact e
end Go.Proofs.Ytnghahgfcaolbaa.Mo
