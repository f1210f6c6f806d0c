/- A counter of children: what the walk's plain functions answer. No memory is spoken of. -/
import Derived.Test.YtnghahgfcaolbaaFc3
namespace Go.Proofs.Ytnghahgfcaolbaa.Mo
open Go Go.Proofs.Ytnghahgfcaolbaa.SL Go.Proofs.Ytnghahgfcaolbaa.GX
set_option linter.unusedVariables false
set_option linter.unusedSimpArgs false
theorem wi1 {g : Int} (h0 : 0 ≤ g) (h1 : g < 4611686018427387904) : wi (g + (1 : Int)) = g + 1 := wi_in (by omega)
theorem mod_ok (x : Int) {m : Int} (hm : 0 < m) (hm2 : m ≤ 1048576) : ∃ r, plunderlaw8_mod x m = some r ∧ 0 ≤ r ∧ r < m := by
  unfold plunderlaw8_mod
  rw [if_pos (by omega)]
  have h1 := Int.tmod_lt_of_pos x hm
  have h2 : -m < x.tmod m := by
    have := Int.tmod_lt_of_pos (-x) hm
    rw [Int.neg_tmod] at this
    omega
  by_cases h : x.tmod m < 0
  · rw [if_pos h]
    exact ⟨_, rfl, by rw [wi_in (by omega)]; omega, by rw [wi_in (by omega)]; omega⟩
  · rw [if_neg h]
    exact ⟨_, rfl, by omega, h1⟩
/-- An arena that is not watched: its cells. -/
def ar (s : Int) (c : List Int) : T_cells_Arena := ⟨s, (c.length : Int), c, [], 0, false⟩
theorem ar_out (s : Int) (c : List Int) (i : Int) (h0 : 0 ≤ i) (h1 : i < (c.length : Int)) : cells_Arena_outside (ar s c) i = some false := by
  unfold cells_Arena_outside cells_ledger_has ar
  rw [if_pos (show i ≥ 0 from h0), ob1_some, show decide (i < (c.length : Int)) = true from decide_eq_true h1]; rfl
theorem ar_note (s m : Int) (c : List Int) (k i x y : Int) (ok : Bool) : cells_Arena_note ⟨s, m, c, [], 0, false⟩ k i x y ok = some ⟨s, m, c, [], 0, false⟩ := by
  unfold cells_Arena_note
  simp
theorem ar_store (s : Int) (c : List Int) (i v : Int) (h0 : 0 ≤ i) (h1 : i < (c.length : Int)) : cells_Arena_Store (ar s c) i v = some (0, ar s (c.set i.toNat v)) := by
  unfold cells_Arena_Store
  rw [ar_out s c i h0 h1, ob1_some]
  simp only [Bool.false_eq_true, if_false]
  rw [if_pos ⟨h0, h1⟩]
  simp only [ar, ar_note, ob1_some, List.length_set]
theorem ar_add (s : Int) (c : List Int) (i v : Int) (h0 : 0 ≤ i) (h1 : i < (c.length : Int)) : cells_Arena_Add (ar s c) i v = some (wi (at_ c i.toNat + v), 0, ar s (c.set i.toNat (wi (at_ c i.toNat + v)))) := by
  unfold cells_Arena_Add
  rw [ar_out s c i h0 h1, ob1_some]
  simp only [Bool.false_eq_true, if_false]
  rw [if_pos ⟨h0, h1⟩, if_pos ⟨h0, by simp only [ar, List.length_set]; exact h1⟩]
  simp only [ar, ar_note, ob1_some, List.length_set]
  rw [if_pos ⟨h0, h1⟩, at_set_same (by omega)]
/-- The cells of a table. -/
structure Laid (n : Nat) (c : List Int) : Prop where
  len : c.length = 1 + 10 * n
theorem at_rep {α : Type} [Inhabited α] {n i : Nat} {x : α} (h : i < n) : at_ (List.replicate n x) i = x := by
  unfold at_; rw [List.getD_eq_getElem?_getD, List.getElem?_replicate, if_pos h]; rfl
theorem new_l {K : Nat} {n : Nat} {s : Int} (hn : n ≤ 64) : ∀ (d k i : Nat) (c : List Int), i + d = n → d < k → Laid n c → (0 < i → at_ c 1 = 1) → ∃ c', frames_New_iface_l1 K (n : Int) 0 k (ar s c) (i : Int) = some (⟨0, (n : Int)⟩, 0, ar s c') ∧ Laid n c' ∧ (0 < n → at_ c' 1 = 1)
  | d, k, i, c, h, hk, hc, h1 => by
    obtain ⟨k, rfl⟩ : ∃ m, k = m + 1 := ⟨k - 1, by omega⟩
    have hl := hc.len
    rw [frames_New_iface_l1]
    by_cases hi : i < n
    · obtain ⟨d, rfl⟩ : ∃ m, d = m + 1 := ⟨d - 1, by omega⟩
      have w3 : wi (wi ((0 : Int) + 1) + wi ((i : Int) * 10)) = 1 + (i : Int) * 10 := by rw [wi_in (x := (0 : Int) + 1) (by omega), wi_in (x := (i : Int) * 10) (by omega), wi_in (by omega)]; omega
      rw [if_pos (by omega), frames_Table__join]
      simp only [w3, ob1_some]
      rw [ar_store s c _ _ (by omega) (by omega), ob2_some, if_pos rfl, wi1 (by omega) (by omega), show ((i : Int) + 1) = ((i + 1 : Nat) : Int) by omega]
      exact new_l hn d k (i + 1) _ (by omega) (by omega) ⟨by rw [List.length_set]; exact hl⟩ (fun _ => by
        by_cases e : i = 0
        · subst e; exact at_set_same (by omega)
        · rw [at_set_ne (by omega)]; exact h1 (by omega))
    · rw [if_neg (by omega)]
      exact ⟨c, rfl, hc, fun hn0 => h1 (by omega)⟩
theorem new_ok {K : Nat} {n : Nat} (hn0 : 0 < n) (hn : n ≤ 64) (hK : 5000 < K) : ∃ c, frames_New_iface K ⟨((1 + 10 * n : Nat) : Int), 0, [], [], 0, false⟩ (n : Int) = some (⟨0, (n : Int)⟩, 0, ar ((1 + 10 * n : Nat) : Int) c) ∧ Laid n c ∧ at_ c 1 = 1 := by
  unfold frames_New_iface frames_Cells
  have hw : wi ((1 : Int) + wi ((n : Int) * 10)) = ((1 + 10 * n : Nat) : Int) := by rw [wi_in (x := (n : Int) * 10) (by omega), wi_in (by omega)]; omega
  rw [if_neg (by omega), if_neg (by omega), hw, ob1_some, if_neg (by omega), ob1_some]
  unfold cells_Arena_Reserve cells_ledger_refuse cells_ledger_take
  simp only [ob0_some]
  rw [if_neg (by omega), if_neg (by rw [wi_in (by omega)]; omega), ob1_some, if_pos rfl]
  simp only [ob2_some]
  rw [if_pos ⟨by omega, by simp; omega⟩]
  simp only [ar_note, ob1_some, ob3_some, reduceIte, List.nil_append, Int.toNat_natCast]
  rw [show wi ((0 : Int) + ((1 + 10 * n : Nat) : Int)) = ((List.replicate (1 + 10 * n) (0 : Int)).length : Int) by rw [wi_in (by omega)]; simp]
  have := new_l (K := K) (n := n) (s := ((1 + 10 * n : Nat) : Int)) hn n K 0 (List.replicate (1 + 10 * n) 0) (by omega) (by omega) ⟨by simp⟩ (fun h => absurd h (by omega))
  obtain ⟨c', q1, q2, q3⟩ := this
  exact ⟨c', by simpa [ar] using q1, q2, q3 hn0⟩

theorem sub1 {j : Int} (h0 : 0 ≤ j) (h1 : j ≤ 1000) : wi (j + (-1)) = j - 1 := wi_in (by omega)
theorem step_fork {s j : Int} {c : List Int} (hl : c.length = 11) (hj : at_ c 1 = j) (h0 : 0 ≤ j) (h1 : j ≤ 1000) :
    frames_Step_iface (ar s c) ⟨0, 1, 0, 1, 0, 0, 1, 0, 0⟩ = some (⟨0, 1, 0, 0, 9, j + 1, 1, 0, 0⟩, ar s (c.set 1 (j + 1))) := by
  unfold frames_Step_iface frames_Op_fork_iface frames_Table__join frames_head_end
  simp only [Int.reduceEq, reduceIte, ob1_some]
  rw [show wi (wi ((0 : Int) + 1) + wi ((0 : Int) * 10)) = 1 from rfl, ar_add s c 1 1 (by omega) (by omega), ob3_some]
  simp only [Int.toNat_one, hj, reduceIte, ob3_some]
  rw [wi1 h0 (by omega), if_neg (by simp)]
theorem step_put {s k v : Int} {c : List Int} (hl : c.length = 11) (h0 : 0 ≤ k) (h1 : k < 8) :
    frames_Step_iface (ar s c) ⟨0, 1, 0, 1, 0, 0, 2, k, v⟩ = some (⟨0, 1, 0, 2, 0, 0, 2, k, v⟩, ar s (c.set (3 + k).toNat v)) := by
  unfold frames_Step_iface frames_Op_finish_iface frames_Table__slot frames_Table__join frames_head_end
  simp only [Int.reduceEq, reduceIte, ob1_some]
  rw [show wi (wi (wi (wi ((0 : Int) + 1) + wi ((0 : Int) * 10)) + 2) + k) = 3 + k by rw [show wi (wi (wi ((0 : Int) + 1) + wi ((0 : Int) * 10)) + 2) = 3 from rfl, wi_in (by omega)], ar_store s c (3 + k) v (by omega) (by omega), ob2_some, ob3_some]
  simp only [reduceIte]
  rw [if_pos (by simp)]
  rfl
theorem step_less_f {s j k v : Int} {c : List Int} (hl : c.length = 11) (hj : at_ c 1 = j) (h0 : 0 ≤ j) (h1 : j ≤ 1000) :
    frames_Step_iface (ar s c) ⟨0, 1, 0, 2, 0, 0, 2, k, v⟩ = some (if j - 1 = 0 then ⟨0, 1, 0, 3, 0, 0, 2, k, v⟩ else ⟨0, 1, 0, 0, 10, j - 1, 2, k, v⟩, ar s (c.set 1 (j - 1))) := by
  unfold frames_Step_iface frames_Op_finish_iface frames_Op_less_iface frames_Table__join frames_head_end
  simp only [Int.reduceEq, reduceIte, ob1_some]
  rw [show wi (wi ((0 : Int) + 1) + wi ((0 : Int) * 10)) = 1 from rfl, ar_add s c 1 (-1) (by omega) (by omega), ob3_some]
  simp only [Int.toNat_one, hj, reduceIte, sub1 h0 h1]
  by_cases e : j - 1 = 0
  · simp only [if_pos e, ob3_some, reduceIte]
    rw [if_pos (by simp)]
    rfl
  · simp only [if_neg e, ob3_some, reduceIte]
    rw [if_neg (by simp)]
theorem step_less_s {s j : Int} {c : List Int} (hl : c.length = 11) (hj : at_ c 1 = j) (h0 : 0 ≤ j) (h1 : j ≤ 1000) :
    frames_Step_iface (ar s c) ⟨0, 1, 0, 1, 0, 0, 3, 0, 0⟩ = some (if j - 1 = 0 then ⟨0, 1, 0, 2, 0, 0, 3, 0, 0⟩ else ⟨0, 1, 0, 0, 12, j - 1, 3, 0, 0⟩, ar s (c.set 1 (j - 1))) := by
  unfold frames_Step_iface frames_Op_sync_iface frames_Op_less_iface frames_Table__join frames_head_end
  simp only [Int.reduceEq, reduceIte, ob1_some]
  rw [show wi (wi ((0 : Int) + 1) + wi ((0 : Int) * 10)) = 1 from rfl, ar_add s c 1 (-1) (by omega) (by omega), ob3_some]
  simp only [Int.toNat_one, hj, reduceIte, sub1 h0 h1]
  by_cases e : j - 1 = 0
  · simp only [if_pos e, ob3_some, reduceIte]
    rw [if_pos (by simp)]
    rfl
  · simp only [if_neg e, ob3_some, reduceIte]
    rw [if_neg (by simp)]
theorem step_again_f {s k v : Int} {c : List Int} (hl : c.length = 11) :
    frames_Step_iface (ar s c) ⟨0, 1, 0, 3, 0, 0, 2, k, v⟩ = some (⟨0, 1, 0, 0, 11, 0, 2, k, v⟩, ar s (c.set 1 1)) := by
  unfold frames_Step_iface frames_Op_finish_iface frames_Op_again_iface frames_Table__join frames_head_end
  simp only [Int.reduceEq, reduceIte, ob1_some]
  rw [show wi (wi ((0 : Int) + 1) + wi ((0 : Int) * 10)) = 1 from rfl, ar_store s c 1 1 (by omega) (by omega), ob2_some]
  simp only [Int.toNat_one, reduceIte, ob3_some]
  rw [if_neg (by simp)]
theorem step_again_s {s : Int} {c : List Int} (hl : c.length = 11) :
    frames_Step_iface (ar s c) ⟨0, 1, 0, 2, 0, 0, 3, 0, 0⟩ = some (⟨0, 1, 0, 0, 13, 0, 3, 0, 0⟩, ar s (c.set 1 1)) := by
  unfold frames_Step_iface frames_Op_sync_iface frames_Op_again_iface frames_Table__join frames_head_end
  simp only [Int.reduceEq, reduceIte, ob1_some]
  rw [show wi (wi ((0 : Int) + 1) + wi ((0 : Int) * 10)) = 1 from rfl, ar_store s c 1 1 (by omega) (by omega), ob2_some]
  simp only [Int.toNat_one, reduceIte, ob3_some]
  rw [if_neg (by simp)]
theorem step_fetch {s k : Int} {c : List Int} (hl : c.length = 11) (h0 : 0 ≤ k) (h1 : k < 8) :
    frames_Step_iface (ar s c) ⟨0, 1, 0, 1, 0, 0, 5, k, 0⟩ = some (⟨0, 1, 0, 0, 15, at_ c (3 + k).toNat, 5, k, 0⟩, ar s c) := by
  unfold frames_Step_iface frames_Op_fetch_iface frames_Table__slot frames_Table__join frames_head_end cells_Arena_Load
  simp only [Int.reduceEq, reduceIte, ob1_some]
  rw [show wi (wi (wi (wi ((0 : Int) + 1) + wi ((0 : Int) * 10)) + 2) + k) = 3 + k by rw [show wi (wi (wi ((0 : Int) + 1) + wi ((0 : Int) * 10)) + 2) = 3 from rfl, wi_in (by omega)], ar_out s c (3 + k) (by omega) (by omega), ob1_some]
  simp only [Bool.false_eq_true, reduceIte]
  rw [if_pos ⟨by omega, by show (3 + k) < (c.length : Int); omega⟩]
  simp only [ar, ar_note, ob1_some, ob3_some, reduceIte]
  rw [if_neg (by simp)]
theorem ans {f : Int} {o : T_frames_Op} (h : o.head_t_Frames = 1) : frames_Answer o = some (if o.head_stands > 0 then (0, 0) else (o.head_code, o.head_v)) := by
  unfold frames_Answer
  rw [if_neg (fun e => by rw [e] at h; simp at h)]
  split <;> rfl
theorem begin_ok {k f sl v : Int} (h0 : 0 ≤ sl) (h1 : sl < 8) : frames_begin k ⟨0, 1⟩ 0 sl v = some ⟨0, 1, 0, 1, 0, 0, k, sl, v⟩ := by
  unfold frames_begin frames_Table__has
  simp only [ge_iff_le, Int.reduceLE, Int.reduceLT, reduceIte, decide_true, ob1_some]
  rw [if_neg (by omega), if_neg (by omega)]
theorem cnt_l1 {K n : Nat} {s : Int} (hn : n ≤ 8) : ∀ (d k i : Nat) (c : List Int), i + d = n → d < k → c.length = 11 → at_ c 1 = (i : Int) + 1 →
    ∃ c', plunderlaw8_FramesCount_l1 K (n : Int) ⟨0, 1⟩ k (ar s c) (i : Int) = some (.inl (ar s c')) ∧ c'.length = 11 ∧ at_ c' 1 = (n : Int) + 1
  | d, k, i, c, h, hk, hl, hc => by
    obtain ⟨k, rfl⟩ : ∃ m, k = m + 1 := ⟨k - 1, by omega⟩
    rw [plunderlaw8_FramesCount_l1]
    by_cases hi : i < n
    · obtain ⟨d, rfl⟩ : ∃ m, d = m + 1 := ⟨d - 1, by omega⟩
      rw [if_pos (by omega), frames_Fork, begin_ok (f := 0) (by omega) (by omega)]
      simp only [ob1_some]
      rw [step_fork hl hc (by omega) (by omega), ob2_some, ans (f := 0) rfl]
      simp only [gt_iff_lt, Int.reduceLT, reduceIte, ob2_some]
      rw [show wi ((i : Int) + 2) = (i : Int) + 1 + 1 by rw [wi_in (by omega)]; omega, if_pos rfl, wi1 (by omega) (by omega), show ((i : Int) + 1) = ((i + 1 : Nat) : Int) by omega]
      exact cnt_l1 hn d k (i + 1) _ (by omega) (by omega) (by rw [List.length_set]; exact hl) (by rw [at_set_same (by omega)])
    · rw [if_neg (by omega)]
      exact ⟨c, rfl, hl, by rw [hc]; omega⟩
def v8 (p2 : List Int) : List Int := [at_ p2 0, at_ p2 1, at_ p2 2, at_ p2 3, at_ p2 4, at_ p2 5, at_ p2 6, at_ p2 7]
structure Cnt (n a i : Nat) (V c : List Int) : Prop where
  len : c.length = 11
  join : i ≤ n → at_ c 1 = (n : Int) + 1 - i
  slots : ∀ q, q < (if i ≤ a then i else i - 1) → at_ c (3 + q) = at_ V q
theorem Cnt.keep {n a i : Nat} {V c : List Int} (h : Cnt n a i V c) (ha : i = a) (v : Int) (hv : i + 1 ≤ n → v = (n : Int) + 1 - (i + 1 : Nat)) : Cnt n a (i + 1) V (c.set 1 v) :=
  ⟨by rw [List.length_set]; exact h.len, fun h1 => by rw [at_set_same (by have := h.len; omega)]; exact hv h1, fun q hq => by
    rw [at_set_ne (by omega)]
    refine h.slots q ?_
    rw [if_neg (by omega)] at hq
    rw [if_pos (by omega)]; omega⟩
theorem Cnt.put {n a i : Nat} {V c : List Int} (h : Cnt n a i V c) (ha : i ≠ a) {ch : Nat} (hch : ch = if i ≤ a then i else i - 1) (hc8 : ch < 8) (v : Int) (hv : i + 1 ≤ n → v = (n : Int) + 1 - (i + 1 : Nat)) : Cnt n a (i + 1) V ((c.set (3 + ch) (at_ V ch)).set 1 v) := by
  have hl := h.len
  refine ⟨by rw [List.length_set, List.length_set]; exact h.len, fun h1 => by rw [at_set_same (by rw [List.length_set]; omega)]; exact hv h1, fun q hq => ?_⟩
  rw [at_set_ne (by omega)]
  by_cases e : q = ch
  · subst e; exact at_set_same (by omega)
  · rw [at_set_ne (by omega)]
    refine h.slots q ?_
    by_cases h1 : i ≤ a
    · rw [if_pos h1] at hch ⊢
      rw [if_pos (by omega)] at hq; omega
    · rw [if_neg h1] at hch ⊢
      rw [if_neg (by omega)] at hq; omega
theorem cnt_l2 {K n a : Nat} {s : Int} {p2 : List Int} (hn : n ≤ 8) (ha : a ≤ n) : ∀ (d k i ch : Nat) (c : List Int), i + d = n + 1 → d < k → (ch = if i ≤ a then i else i - 1) → Cnt n a i (v8 p2) c →
    ∃ c', plunderlaw8_FramesCount_l2 K p2 (n : Int) (a : Int) ⟨0, 1⟩ k (ar s c) (ch : Int) (i : Int) = some (.inl (ar s c')) ∧ Cnt n a (n + 1) (v8 p2) c'
  | d, k, i, ch, c, h, hk, hch, hc => by
    obtain ⟨k, rfl⟩ : ∃ m, k = m + 1 := ⟨k - 1, by omega⟩
    have hl := hc.len
    rw [plunderlaw8_FramesCount_l2]
    by_cases hi : i ≤ n
    · obtain ⟨d, rfl⟩ : ∃ m, d = m + 1 := ⟨d - 1, by omega⟩
      have hj := hc.join hi
      have wd : wi ((n : Int) - (i : Int)) = (n : Int) - i := wi_in (by omega)
      have ws : wi ((i : Int) + (1 : Int)) = ((i + 1 : Nat) : Int) := by rw [wi_in (by omega)]; omega
      have ej : (n : Int) + 1 - i - 1 = (n : Int) - i := by omega
      rw [if_pos (by omega), frames_Sync, begin_ok (f := 0) (by omega) (by omega)]
      simp only [ob1_some]
      by_cases hia : i = a
      · rw [if_pos (by omega)]
        simp only [ob5_some]
        have hch2 : ch = if i + 1 ≤ a then i + 1 else i + 1 - 1 := by
          rw [if_pos (by omega)] at hch
          rw [if_neg (by omega)]; omega
        rw [step_less_s hl hj (by omega) (by omega), ob2_some, ej]
        by_cases hlast : i = n
        · have e0 : (n : Int) - i = 0 := by omega
          rw [if_pos e0, ans (f := 0) rfl]
          simp only [gt_iff_lt, Int.reduceLT, reduceIte, ob2_some]
          rw [if_neg (by omega), jn0_inl, if_pos (by omega), jn0_inl, step_again_s (by rw [List.length_set]; exact hl), ob2_some, ans (f := 0) rfl]
          simp only [gt_iff_lt, Int.reduceLT, reduceIte, ob2_some]
          rw [ws]
          refine cnt_l2 hn ha d k (i + 1) ch _ (by omega) (by omega) hch2 ?_
          have := hc.keep hia 1 (fun h => absurd h (by omega))
          rwa [List.set_set]
        · rw [if_neg (by omega), ans (f := 0) rfl]
          simp only [gt_iff_lt, Int.reduceLT, reduceIte, ob2_some]
          rw [if_pos (by omega), wd, if_pos rfl, jn0_inl, if_neg (by omega), ws]
          exact cnt_l2 hn ha d k (i + 1) ch _ (by omega) (by omega) hch2 (hc.keep hia _ (fun _ => by omega))
      · have h8 : ch < 8 := by
          by_cases h1 : i ≤ a
          · rw [if_pos h1] at hch; omega
          · rw [if_neg h1] at hch; omega
        have hch2 : ch + 1 = if i + 1 ≤ a then i + 1 else i + 1 - 1 := by
          by_cases h1 : i ≤ a
          · rw [if_pos h1] at hch; rw [if_pos (by omega)]; omega
          · rw [if_neg h1] at hch; rw [if_neg (by omega)]; omega
        have wc : wi ((ch : Int) + (1 : Int)) = ((ch + 1 : Nat) : Int) := by rw [wi_in (by omega)]; omega
        have h3 : (3 + (ch : Int)).toNat = 3 + ch := by omega
        rw [if_neg (by omega), if_pos ⟨by omega, by simp; omega⟩, frames_Finish, begin_ok (f := 0) (by omega) (by omega)]
        simp only [ob1_some]
        rw [show at_ [at_ p2 0, at_ p2 1, at_ p2 2, at_ p2 3, at_ p2 4, at_ p2 5, at_ p2 6, at_ p2 7] ((ch : Int)).toNat = at_ (v8 p2) ch from rfl, step_put hl (by omega) (by omega), ob2_some, wc, h3]
        simp only [ob5_some]
        have hj2 : at_ (c.set (3 + ch) (at_ (v8 p2) ch)) 1 = (n : Int) + 1 - i := by rw [at_set_ne (by omega)]; exact hj
        rw [step_less_f (by rw [List.length_set]; exact hl) hj2 (by omega) (by omega), ob2_some, ej]
        by_cases hlast : i = n
        · have e0 : (n : Int) - i = 0 := by omega
          rw [if_pos e0, ans (f := 0) rfl]
          simp only [gt_iff_lt, Int.reduceLT, reduceIte, ob2_some]
          rw [if_neg (by omega), jn0_inl, if_pos (by omega), jn0_inl, step_again_f (by rw [List.length_set, List.length_set]; exact hl), ob2_some, ans (f := 0) rfl]
          simp only [gt_iff_lt, Int.reduceLT, reduceIte, ob2_some]
          rw [ws]
          refine cnt_l2 hn ha d k (i + 1) (ch + 1) _ (by omega) (by omega) hch2 ?_
          have := hc.put hia hch h8 1 (fun h => absurd h (by omega))
          rwa [List.set_set]
        · rw [if_neg (by omega), ans (f := 0) rfl]
          simp only [gt_iff_lt, Int.reduceLT, reduceIte, ob2_some]
          rw [if_pos (by omega), wd, if_pos rfl, jn0_inl, if_neg (by omega), ws]
          exact cnt_l2 hn ha d k (i + 1) (ch + 1) _ (by omega) (by omega) hch2 (hc.put hia hch h8 _ (fun _ => by omega))
    · rw [if_neg (by omega)]
      have : i = n + 1 := by omega
      subst this
      exact ⟨c, rfl, hc⟩
theorem cnt_l3 {K n : Nat} {s : Int} {p2 c : List Int} (hn : n ≤ 8) (hl : c.length = 11) (hs : ∀ q, q < n → at_ c (3 + q) = at_ (v8 p2) q) : ∀ (d k i : Nat), i + d = n → d < k → plunderlaw8_FramesCount_l3 K p2 (n : Int) ⟨0, 1⟩ k (ar s c) (i : Int) = some true
  | d, k, i, h, hk => by
    obtain ⟨k, rfl⟩ : ∃ m, k = m + 1 := ⟨k - 1, by omega⟩
    rw [plunderlaw8_FramesCount_l3]
    by_cases hi : i < n
    · obtain ⟨d, rfl⟩ : ∃ m, d = m + 1 := ⟨d - 1, by omega⟩
      rw [if_pos (by omega), frames_Fetch, begin_ok (f := 0) (by omega) (by omega)]
      simp only [ob1_some]
      rw [step_fetch hl (by omega) (by omega), ob2_some, ans (f := 0) rfl]
      simp only [gt_iff_lt, Int.reduceLT, reduceIte, ob2_some]
      rw [if_pos ⟨by omega, by simp; omega⟩, show (3 + (i : Int)).toNat = 3 + i by omega, hs i hi, if_pos (show at_ (v8 p2) i = at_ [at_ p2 0, at_ p2 1, at_ p2 2, at_ p2 3, at_ p2 4, at_ p2 5, at_ p2 6, at_ p2 7] ((i : Int)).toNat from rfl), wi1 (by omega) (by omega), show ((i : Int) + 1) = ((i + 1 : Nat) : Int) by omega]
      exact cnt_l3 hn hl hs d k (i + 1) (by omega) (by omega)
    · rw [if_neg (by omega)]
theorem count_true {K : Nat} (hK : 5000 < K) (p0 p1 : Int) (p2 : List Int) : plunderlaw8_FramesCount K p0 p1 p2 = some true := by
  unfold plunderlaw8_FramesCount
  obtain ⟨r2, a1, a2, a3⟩ := mod_ok p0 (m := 9) (by decide) (by decide)
  have w1 : wi (r2 + (1 : Int)) = r2 + 1 := wi_in (by omega)
  obtain ⟨r4, b1, b2, b3⟩ := mod_ok p1 (m := r2 + 1) (by omega) (by omega)
  obtain ⟨n, rfl⟩ : ∃ n : Nat, r2 = (n : Int) := ⟨r2.toNat, by omega⟩
  obtain ⟨a, rfl⟩ : ∃ n : Nat, r4 = (n : Int) := ⟨r4.toNat, by omega⟩
  obtain ⟨c, c1, c2, c3⟩ := new_ok (K := K) (n := 1) (by omega) (by omega) hK
  have hl : c.length = 11 := c2.len
  obtain ⟨c4, d1, d2, d3⟩ := cnt_l1 (K := K) (n := n) (s := ((1 + 10 * 1 : Nat) : Int)) (by omega) n K 0 c (by omega) (by omega) hl (by rw [c3]; rfl)
  obtain ⟨c5, f1, f2⟩ := cnt_l2 (K := K) (n := n) (a := a) (s := ((1 + 10 * 1 : Nat) : Int)) (p2 := p2) (by omega) (by omega) (n + 1) K 0 0 c4 (by omega) (by omega) (by simp) ⟨d2, fun _ => by rw [d3]; omega, fun q hq => by simp at hq⟩
  have g1 := cnt_l3 (K := K) (n := n) (s := ((1 + 10 * 1 : Nat) : Int)) (p2 := p2) (c := c5) (by omega) f2.len (fun q hq => f2.slots q (by rw [if_neg (by omega)]; omega)) n K 0 (by omega) (by omega)
  simp only [Int.natCast_zero, Int.natCast_one] at c1 d1 f1 g1
  rw [a1, ob1_some, w1, b1, ob1_some]
  have hcell : frames_Cells 1 = some ((1 + 10 * 1 : Nat) : Int) := rfl
  have hnew : cells_New ((1 + 10 * 1 : Nat) : Int) = some (some ⟨((1 + 10 * 1 : Nat) : Int), 0, [], [], 0, false⟩, 0) := rfl
  rw [hcell, ob1_some, hnew, ob2_some]
  simp only [reduceIte, jn0_inl]
  rw [c1, ob3_some]
  simp only [reduceIte]
  rw [d1, jn1_inl, f1, jn1_inl, g1]
end Go.Proofs.Ytnghahgfcaolbaa.Mo
