/- A table in an arena: what the walk's plain functions answer. No memory is spoken of. -/
import Derived.Test.YtnghahgfcaolbaaFStBase
namespace Go.Proofs.Ytnghahgfcaolbaa.Mo
open Go Go.Proofs.Ytnghahgfcaolbaa.SL Go.Proofs.Ytnghahgfcaolbaa.GX
set_option linter.unusedVariables false
set_option linter.unusedSimpArgs false
theorem drop_cons {α : Type} [Inhabited α] {l : List α} {i : Nat} (h : i < l.length) : l.drop i = at_ l i :: l.drop (i + 1) := by
  rw [List.drop_eq_getElem_cons h]; unfold at_; rw [List.getD_eq_getElem?_getD, List.getElem?_eq_getElem h]; rfl
theorem rcells_l {K : Nat} {R : T_plunderref2_Arena} (hh : R.Held.length ≤ 1048576) : ∀ (d k i : Nat) (l : List Int), i + d = R.Held.length → d < k → l.length = i → plunderref2_Arena_Cells_l1 K R k l (i : Int) = some (l ++ R.Held.drop i)
  | d, k, i, l, h, hk, hl => by
    obtain ⟨k, rfl⟩ : ∃ m, k = m + 1 := ⟨k - 1, by omega⟩
    rw [plunderref2_Arena_Cells_l1]
    by_cases hi : i < R.Held.length
    · obtain ⟨d, rfl⟩ : ∃ m, d = m + 1 := ⟨d - 1, by omega⟩
      rw [if_pos (by omega), if_pos ⟨by omega, by omega⟩, if_pos (by omega), Int.toNat_natCast, wi1 (by omega) (by omega), show ((i : Int) + 1) = ((i + 1 : Nat) : Int) by omega, rcells_l hh d k (i + 1) _ (by omega) (by omega) (by simp; omega), drop_cons hi, List.append_assoc]
      rfl
    · rw [if_neg (by omega), List.drop_of_length_le (by omega), List.append_nil]
theorem rlog_l {K : Nat} {R : T_plunderref2_Arena} (hh : R.Book.length ≤ 1048576) : ∀ (d k i : Nat) (l : List T_api_Access), i + d = R.Book.length → d < k → l.length = i → plunderref2_Arena_Log_l1 K R k l (i : Int) = some (l ++ R.Book.drop i)
  | d, k, i, l, h, hk, hl => by
    obtain ⟨k, rfl⟩ : ∃ m, k = m + 1 := ⟨k - 1, by omega⟩
    rw [plunderref2_Arena_Log_l1]
    by_cases hi : i < R.Book.length
    · obtain ⟨d, rfl⟩ : ∃ m, d = m + 1 := ⟨d - 1, by omega⟩
      rw [if_pos (by omega), if_pos ⟨by omega, by omega⟩, if_pos (by omega), Int.toNat_natCast, wi1 (by omega) (by omega), show ((i : Int) + 1) = ((i + 1 : Nat) : Int) by omega, rlog_l hh d k (i + 1) _ (by omega) (by omega) (by simp; omega), drop_cons hi, List.append_assoc]
      rfl
    · rw [if_neg (by omega), List.drop_of_length_le (by omega), List.append_nil]
theorem fcells (p : Int) : (frames_Cells p = some 0 ∧ plunderref8_Cells p = some 0) ∨ (1 ≤ p ∧ p ≤ 4096 ∧ frames_Cells p = some (1 + p * 10) ∧ plunderref8_Cells p = some (1 + p * 10)) := by
  unfold frames_Cells plunderref8_Cells
  by_cases h : p < 1
  · left; rw [if_pos h]; exact ⟨rfl, rfl⟩
  · by_cases h2 : p > 4096
    · left; rw [if_neg h, if_pos h2]; exact ⟨rfl, rfl⟩
    · right
      rw [if_neg h, if_neg h2, wi_in (x := p * 10) (by omega), wi_in (x := 1 + p * 10) (by omega)]
      exact ⟨by omega, by omega, rfl, rfl⟩
theorem lay_both {K : Nat} {p base : Int} {hl : Nat} (hb : 0 ≤ base) (hp : p ≤ 4096) (hh : base + 1 + p * 10 ≤ (hl : Int)) (hm : hl ≤ 1048576) {r : T_api_Effect} (hr : r.V = base) : ∀ (d k i : Nat) (S : T_cells_Arena) (R : T_plunderref2_Arena) (n : Nat), (i : Int) + d = p → d < k → Same S R n → n + d ≤ 1048576 → R.Held.length = hl →
    ∃ S' R', frames_New_iface_l1 K p base k S (i : Int) = some (⟨base, p⟩, 0, S') ∧ plunderref8_New_l1 K p r k R (i : Int) = some R' ∧ Same S' R' (n + d)
  | d, k, i, S, R, n, h, hk, hs, hn, hlen => by
    obtain ⟨k, rfl⟩ : ∃ m, k = m + 1 := ⟨k - 1, by omega⟩
    rw [frames_New_iface_l1, plunderref8_New_l1]
    by_cases hi : (i : Int) < p
    · obtain ⟨d, rfl⟩ : ∃ m, d = m + 1 := ⟨d - 1, by omega⟩
      have w1 : wi (base + 1) = base + 1 := wi_in (by omega)
      have w2 : wi ((i : Int) * 10) = (i : Int) * 10 := wi_in (by omega)
      have w3 : wi (base + 1 + (i : Int) * 10) = base + 1 + (i : Int) * 10 := wi_in (by omega)
      obtain ⟨S', R', e1, e2, e3, e4, e5⟩ := store_same (K := K) hs (by omega) (base + 1 + (i : Int) * 10) 1 0 0 (by omega) (by omega)
      rw [if_pos hi, if_pos hi, frames_Table__join, hr]
      simp only [w1, w2, w3, ob1_some, e1, e2, ob2_some, if_true]
      rw [wi1 (by omega) (by omega), show ((i : Int) + 1) = ((i + 1 : Nat) : Int) by omega]
      obtain ⟨S2, R2, f1, f2, f3⟩ := lay_both hb hp hh hm hr d k (i + 1) S' R' (n + 1) (by omega) (by omega) e3 (by omega) (by rw [e4, List.length_set]; exact hlen)
      exact ⟨S2, R2, f1, f2, by rw [show n + (d + 1) = n + 1 + d by omega]; exact f3⟩
    · rw [if_neg hi, if_neg hi]
      obtain rfl : d = 0 := by omega
      exact ⟨S, R, rfl, rfl, hs⟩
theorem new_both {K : Nat} (hK : 4000000 < K) {S : T_cells_Arena} {R : T_plunderref2_Arena} {n : Nat} (hs : Same S R n) (hn : n ≤ 100000) (p : Int) :
    ∃ b f e S' R', frames_New_iface K S p = some (⟨b, f⟩, e, S') ∧ plunderref8_New K R p = some (⟨b, f⟩, e, R') ∧ Same S' R' (n + 4097) := by
  unfold frames_New_iface plunderref8_New
  have hmost := hs.most
  have hheld := hs.held
  rcases fcells p with ⟨a1, a2⟩ | ⟨h1, h2, a1, a2⟩
  · rw [a1, a2, ob1_some, if_pos rfl, ob1_some, if_pos rfl]
    exact ⟨0, 0, 3, S, R, rfl, rfl, hs.up (by omega)⟩
  · rw [a1, a2, ob1_some, if_neg (by omega), ob1_some, ob1_some, if_neg (by omega)]
    rcases reserve_same hK hs (by omega) (1 + p * 10) 0 0 0 (by omega) with ⟨S', R', e1, e2, e3, e4, e5, e6⟩ | ⟨e1, e2, _⟩
    · rw [e1, e2, ob3_some, ob2_some, if_pos rfl, if_pos rfl]
      have hl : R'.Held.length = R.Held.length + (1 + p * 10).toNat := by rw [e4]; simp
      have hm2 := e3.held
      have hm3 := e3.most
      obtain ⟨S2, R2, f1, f2, f3⟩ := lay_both (K := K) (p := p) (base := (R.Held.length : Int)) (hl := R'.Held.length) (r := ⟨(R.Held.length : Int), true, 0⟩) (by omega) h2 (by omega) (by omega) rfl p.toNat K 0 S' R' (n + 1) (by omega) (by omega) e3 (by omega) rfl
      simp only [Int.natCast_zero] at f1 f2
      rw [f1, f2, ob1_some]
      exact ⟨_, _, 0, S2, R2, rfl, rfl, f3.up (by omega)⟩
    · rw [e1, e2, ob3_some, ob2_some, if_neg (by decide), if_neg (by decide)]
      exact ⟨0, 0, 22, S, R, rfl, rfl, hs.up (by omega)⟩
end Go.Proofs.Ytnghahgfcaolbaa.Mo
