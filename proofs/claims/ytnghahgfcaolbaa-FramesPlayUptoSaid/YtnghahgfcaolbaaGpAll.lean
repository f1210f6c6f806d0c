/- The program's play from its rounds and picks to its answer. -/
import Derived.Test.YtnghahgfcaolbaaGpPlay
namespace Go.Proofs.Ytnghahgfcaolbaa.Mo
open Go Go.Proofs.Ytnghahgfcaolbaa.SL Go.Proofs.Ytnghahgfcaolbaa.GX
set_option linter.unusedVariables false
set_option linter.unusedSimpArgs false
def ini (F : Nat) : PM := ⟨0, 0, 1, List.replicate 8 0, List.replicate F 0, 0, [(0, .alloc0)], 1, [], [], false, []⟩
theorem at_rep {α : Type} [Inhabited α] {n i : Nat} {x : α} (h : i < n) : at_ (List.replicate n x) i = x := by
  unfold at_; rw [List.getD_eq_getElem?_getD, List.getElem?_replicate, if_pos h]; rfl
theorem at_rep0 {n i : Nat} : at_ (List.replicate n (0 : Int)) i = 0 := by
  unfold at_; rw [List.getD_eq_getElem?_getD, List.getElem?_replicate]; split <;> rfl
/-! ### a new table -/
theorem nw_store {sz w : Int} {c : List Int} {lg : List T_api_Access} (i v : Int) (h : 0 ≤ i ∧ i < (c.length : Int)) :
    cells_Arena_Store ⟨sz, (c.length : Int), c, lg, w, false⟩ i v = some (0, ⟨sz, ((c.set i.toNat v).length : Int), c.set i.toNat v, lg, w, false⟩) := by
  unfold cells_Arena_Store cells_Arena_outside cells_ledger_has cells_Arena_note
  rw [if_pos (show i ≥ 0 from h.1), ob1_some, show decide (i < (c.length : Int)) = true from decide_eq_true h.2, ob1_some]
  simp only [Bool.not_true, Bool.false_eq_true, if_false]
  rw [if_pos (show inr_ i c.length from h)]
  simp only [ob1_some, List.length_set]
theorem new_l1 {K F : Nat} {sz : Int} (hF : F ≤ 4096) : ∀ (d k i : Nat) (c : List Int), i + d = F → d < k → c.length = 1 + 10 * F → (0 < i → at_ c 1 = 1) →
    ∃ c', frames_New_iface_l1 K (F : Int) 0 k ⟨sz, (c.length : Int), c, [], 0, false⟩ (i : Int) = some (⟨0, (F : Int)⟩, 0, ⟨sz, (c'.length : Int), c', [], 0, false⟩) ∧ c'.length = 1 + 10 * F ∧ (0 < F → at_ c' 1 = 1) ∧ (∀ x, x % 10 ≠ 1 → at_ c' x = at_ c x)
  | d, k, i, c, h, hk, hl, h1 => by
    obtain ⟨k, rfl⟩ : ∃ m, k = m + 1 := ⟨k - 1, by omega⟩
    rw [frames_New_iface_l1]
    by_cases hi : i < F
    · obtain ⟨d, rfl⟩ : ∃ m, d = m + 1 := ⟨d - 1, by omega⟩
      rw [if_pos (by omega), jaddr (by omega) (by omega), ob1_some, nw_store _ _ ⟨by omega, by omega⟩, ob2_some, if_pos rfl, wi1 (by omega) (by omega), show ((i : Int) + 1) = ((i + 1 : Nat) : Int) by omega, show ((1 : Int) + 10 * (i : Int)).toNat = 1 + 10 * i by omega]
      obtain ⟨c', a1, a2, a3, a4⟩ := new_l1 (K := K) (sz := sz) hF d k (i + 1) (c.set (1 + 10 * i) 1) (by omega) (by omega) (by rw [List.length_set]; exact hl) (fun _ => by
        by_cases e : i = 0
        · subst e; exact at_set_same (by omega)
        · rw [at_set_ne (by omega)]; exact h1 (by omega))
      exact ⟨c', a1, a2, a3, fun x hx => by rw [a4 x hx, at_set_ne (by omega)]⟩
    · rw [if_neg (by omega)]
      exact ⟨c, rfl, hl, fun hF0 => h1 (by omega), fun _ _ => rfl⟩
theorem new_ok {K F : Nat} (h1 : 1 ≤ F) (hF : F ≤ 4096) (hK : F < K) :
    ∃ c, frames_New_iface K ⟨((1 + 10 * F : Nat) : Int), 0, [], [], 0, false⟩ (F : Int) = some (⟨0, (F : Int)⟩, 0, ⟨((1 + 10 * F : Nat) : Int), (c.length : Int), c, [], 0, false⟩) ∧ Cl F c 0 1 (List.replicate F 0) (List.replicate 8 0) := by
  unfold frames_New_iface frames_Cells
  have hw : wi ((1 : Int) + wi ((F : Int) * 10)) = ((1 + 10 * F : Nat) : Int) := by rw [wi_in (x := (F : Int) * 10) (by omega), wi_in (by omega)]; omega
  rw [if_neg (by omega), if_neg (by omega), hw, ob1_some, if_neg (by omega), ob1_some]
  unfold cells_Arena_Reserve cells_ledger_refuse cells_ledger_take cells_Arena_note
  simp only [ob0_some]
  rw [if_neg (by omega), if_neg (by rw [wi_in (by omega)]; omega), ob1_some, if_pos rfl]
  simp only [ob2_some]
  rw [if_pos ⟨by omega, by simp; omega⟩]
  simp only [Bool.false_eq_true, if_false, ob1_some, ob3_some, reduceIte, List.nil_append, Int.toNat_natCast]
  rw [show wi ((0 : Int) + ((1 + 10 * F : Nat) : Int)) = ((List.replicate (1 + 10 * F) (0 : Int)).length : Int) by rw [wi_in (by omega)]; simp]
  obtain ⟨c', a1, a2, a3, a4⟩ := new_l1 (K := K) (sz := ((1 + 10 * F : Nat) : Int)) hF F K 0 (List.replicate (1 + 10 * F) 0) (by omega) (by omega) (by simp) (fun h => absurd h (by omega))
  exact ⟨c', a1, a2, by rw [a4 0 (by decide)]; exact at_rep0, a3 h1, fun f hf => by rw [a4 _ (by omega), at_rep0, at_rep0], fun k hk => by rw [a4 _ (by omega), at_rep0, at_rep0], by simp, by simp, h1⟩
/-! ### the frames, the marks -/
section
variable {q picks : List Int} {F K : Nat}
theorem play_l1 (hq : ∀ i, i < q.length → 0 ≤ at_ q i ∧ at_ q i ≤ 8) (hl : q.length ≤ 64) : ∀ (d k i : Nat), i + d = q.length → d < k → frames_Play_l1 K q k (1 + pre q i) (i : Int) = some (.inl (1 + isum q))
  | d, k, i, h, hk => by
    obtain ⟨k, rfl⟩ : ∃ m, k = m + 1 := ⟨k - 1, by omega⟩
    rw [frames_Play_l1]
    by_cases hi : i < q.length
    · obtain ⟨d, rfl⟩ : ∃ m, d = m + 1 := ⟨d - 1, by omega⟩
      have hb := hq i hi
      have hp := pre_le hq i
      have hs : isum q ≤ 8 * (q.length : Int) := isum_le fun x hx => by obtain ⟨j, hj, rfl⟩ := at_mem hx; exact (hq j hj).2
      rw [if_pos (by omega), if_pos ⟨by omega, by omega⟩, Int.toNat_natCast, if_neg (by omega), if_neg (by omega), wi_in (by omega), wi1 (by omega) (by omega), show ((i : Int) + 1) = ((i + 1 : Nat) : Int) by omega]
      have := play_l1 hq hl d k (i + 1) (by omega) (by omega)
      rw [pre_next hi] at this
      rw [← this]; congr 1; omega
    · rw [if_neg (by omega)]
      have : pre q i = isum q := by unfold pre; rw [List.take_of_length_le (by omega)]
      rw [this]
theorem at_ext_take {l : List Int} {i : Nat} (h : i < l.length) : l.take (i + 1) = l.take i ++ [at_ l i] := by
  rw [List.take_add_one, List.getElem?_eq_getElem h]
  unfold at_; rw [List.getD_eq_getElem?_getD, List.getElem?_eq_getElem h]; rfl
theorem play_l3 {J : T_frames_join} {c m : List Int} (hb : J.table_Base = 0) (hF : F ≤ 4096) (hl : c.length = 1 + 10 * F) (hm : m.length = F) (hc : ∀ f, f < F → at_ c (2 + 10 * f) = at_ m f) :
    ∀ (d k i : Nat), i + d = F → d < k → frames_Play_l3 K (F : Int) J c k (m.take i) (i : Int) = some m
  | d, k, i, h, hk => by
    obtain ⟨k, rfl⟩ : ∃ n, k = n + 1 := ⟨k - 1, by omega⟩
    rw [frames_Play_l3]
    by_cases hi : i < F
    · obtain ⟨d, rfl⟩ : ∃ n, d = n + 1 := ⟨d - 1, by omega⟩
      have ha : frames_Table__mark ⟨J.table_Base, J.table_Frames⟩ (i : Int) = some (((2 + 10 * i : Nat)) : Int) := by
        unfold frames_Table__mark frames_Table__join
        rw [hb, wi_in (x := (i : Int) * 10) (by omega), wi_in (x := (0 : Int) + 1) (by omega), wi_in (x := (0 : Int) + 1 + (i : Int) * 10) (by omega), ob1_some, wi_in (by omega)]; congr 1; omega
      rw [if_pos (by omega), ha, ob1_some, if_pos ⟨by omega, by omega⟩, if_pos (by rw [List.length_take]; omega), Int.toNat_natCast, hc i hi, ← at_ext_take (by omega), wi1 (by omega) (by omega), show ((i : Int) + 1) = ((i + 1 : Nat) : Int) by omega]
      exact play_l3 hb hF hl hm hc d k (i + 1) (by omega) (by omega)
    · rw [if_neg (by omega), List.take_of_length_le (by omega)]
end
/-! ### the play -/
section
variable {q picks : List Int} {K : Nat}
def nF (q : List Int) : Nat := (1 + isum q).toNat
theorem play_ok (hq : ∀ i, i < q.length → 0 ≤ at_ q i ∧ at_ q i ≤ 8) (hl : q.length ≤ 64) (hn : picks.length ≤ 1048576) (hK : picks.length + 5000 < K) :
    ∃ (st : Int) (s : PM) (P : Int), frames_Play K q picks = some (⟨s.done, (s.log.length : Int), s.holders, s.reads, s.marks, s.log⟩, 0) ∧ Inv q (nF q) s ∧ Mode q (nF q) s P ∧ P + s.log.length = 2 + fut q 0 ∧ s.log.length ≤ picks.length ∧ (s.done = true ∨ s.log.length = picks.length) ∧ s = go q picks picks.length 0 (ini (nF q)) := by
  have hm : ∀ x ∈ q, 0 ≤ x ∧ x ≤ 8 := fun x hx => by obtain ⟨i, hi', rfl⟩ := at_mem hx; exact hq i hi'
  have s1 := isum_nn (l := q) (fun x hx => (hm x hx).1)
  have s2 := isum_le (l := q) (fun x hx => (hm x hx).2)
  have hF : ((nF q : Nat) : Int) = 1 + isum q := by unfold nF; omega
  have hf : fut q 0 ≤ 50 * (q.length : Int) := by unfold fut; exact futl_le fun x hx => (hm x hx).2
  unfold frames_Play
  rw [if_neg (by omega), if_neg (by omega)]
  simp only [jn0_inl]
  have h1 := play_l1 (K := K) hq hl q.length K 0 (by omega) (by omega)
  rw [show (1 : Int) + pre q 0 = 1 by rfl] at h1
  rw [show ((0 : Nat) : Int) = 0 by rfl] at h1
  rw [h1, jn1_inl, ← hF]
  generalize nF q = F at *
  have hw : frames_Cells (F : Int) = some ((1 + 10 * F : Nat) : Int) := by
    unfold frames_Cells
    rw [if_neg (by omega), if_neg (by omega), wi_in (x := (F : Int) * 10) (by omega), wi_in (by omega)]; congr 1; omega
  have hc : cells_New ((1 + 10 * F : Nat) : Int) = some (some ⟨((1 + 10 * F : Nat) : Int), 0, [], [], 0, false⟩, 0) := by
    unfold cells_New cells_good
    rw [if_pos (by omega), ob1_some, decide_eq_true (show ((1 + 10 * F : Nat) : Int) ≤ 1048576 by omega), if_pos rfl]
  obtain ⟨c, n1, n2⟩ := new_ok (K := K) (F := F) (by omega) (by omega) (by omega)
  rw [hw, ob1_some, hc, ob2_some]
  simp only
  rw [n1, ob3_some]
  unfold cells_Arena_Watch
  rw [ob1_some]
  unfold frames_join_join
  simp only [List.length_nil, List.nil_append]
  rw [if_pos (by decide), ob1_some]
  have hS : Sm F ⟨0, (F : Int), 0, [⟨0, 0, 0, 0, 0, 0, 0, 0, 0, 0, 0, false, 0, 0, 0, 0, false⟩], wi (0 + 1), 0, false, 0, [], [], [], []⟩ ⟨((1 + 10 * F : Nat) : Int), (c.length : Int), c, [], 0, true⟩ (ini F) :=
    ⟨rfl, rfl, rfl, rfl, rfl, rfl, rfl, rfl, rfl, fun _ i hi => by
      have : i = 0 := by have : i < 1 := hi; omega
      subst this; exact ⟨rfl, rfl, rfl, rfl, rfl⟩, ⟨_, c, 0, rfl, n2⟩⟩
  have hi : Inv q F (ini F) := ⟨hq, hl, hF, by show 0 ≤ _; omega, by simp [ini], fun f hf => by show 0 ≤ at_ (List.replicate F (0 : Int)) f ∧ at_ (List.replicate F (0 : Int)) f ≤ _; rw [at_rep0]; simp [ini], by simp [ini], by show ((0 : Nat) : Int) ≤ F; omega, rfl, by show 0 ≤ 64; omega, by show 1 ≤ 10; omega, by show 0 ≤ _; omega⟩
  have hmo : Mode q F (ini F) (2 + fut q 0) := Mode.ini0 0 rfl rfl rfl rfl rfl rfl
  obtain ⟨J', A', s', P', q1, q2, q3, q4, q5, q6, q7, q8, q9⟩ := play_l2 (K := K) hn picks.length K 0 _ _ (ini F) _ (by omega) (by omega) hS hi hmo rfl (by show 2 + fut q 0 + ((0 : Nat) : Int) ≤ 10000; omega)
  rw [show ((0 : Nat) : Int) = 0 by rfl] at q1
  rw [q1, ob2_some]
  obtain ⟨sz, c2, w2, a1, a2⟩ := q2.arena
  have hc2 : cells_Arena_Cells A' = some c2 := by
    subst a1
    unfold cells_Arena_Cells AW
    have := a2.len
    simp only [List.length_replicate]
    rw [if_pos ⟨by omega, by omega⟩, if_pos trivial]
  have hlg : cells_Arena_Log A' = some s'.log := by
    subst a1
    unfold cells_Arena_Log AW
    have := q3.ll
    simp only [List.length_replicate]
    rw [if_pos ⟨by omega, by omega⟩, if_pos trivial]
  have hl3 := play_l3 (K := K) (F := F) (J := J') (c := c2) (m := s'.marks) q2.base (by omega) a2.len q3.ml a2.mks F K 0 (by omega) (by omega)
  rw [List.take_zero, show ((0 : Nat) : Int) = 0 by rfl] at hl3
  rw [hc2, ob1_some, q2.marks0, hl3, ob1_some, hlg, ob1_some, q2.done, q5, q2.holders, q2.reads]
  exact ⟨0, s', P', rfl, q3, q4, by rw [q6]; show 2 + fut q 0 + ((0 : Nat) : Int) = _; omega, by have : s'.log.length ≤ 0 + picks.length := q7; omega, q8.imp id (fun h => by have : s'.log.length = 0 + picks.length := h; omega), q9⟩
end
end Go.Proofs.Ytnghahgfcaolbaa.Mo
