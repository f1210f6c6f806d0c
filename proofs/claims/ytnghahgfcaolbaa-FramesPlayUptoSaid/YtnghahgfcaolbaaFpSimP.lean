/- A play of a parent and its children, as a small machine; the program's play goes by it. No memory is spoken of. -/
import Derived.Test.YtnghahgfcaolbaaFp3
namespace Go.Proofs.Ytnghahgfcaolbaa.Mo
open Go Go.Proofs.Ytnghahgfcaolbaa.SL Go.Proofs.Ytnghahgfcaolbaa.GX
set_option linter.unusedVariables false
set_option linter.unusedSimpArgs false
theorem wi1 {g : Int} (h0 : 0 ≤ g) (h1 : g < 4611686018427387904) : wi (g + 1) = g + 1 := wi_in (by omega)
theorem at_app {α : Type} [Inhabited α] (l : List α) (x : α) : at_ (l ++ [x]) l.length = x := by
  unfold at_; rw [List.getD_eq_getElem?_getD, List.getElem?_append_right (Nat.le_refl _)]; simp
theorem at_app_ne {α : Type} [Inhabited α] {l : List α} (x : α) {q : Nat} (h : q < l.length) : at_ (l ++ [x]) q = at_ l q := by
  unfold at_; rw [List.getD_eq_getElem?_getD, List.getD_eq_getElem?_getD, List.getElem?_append_left h]
theorem at_erase_lt {α : Type} [Inhabited α] {l : List α} {i q : Nat} (h : q < i) : at_ (l.eraseIdx i) q = at_ l q := by
  unfold at_; rw [List.getD_eq_getElem?_getD, List.getD_eq_getElem?_getD, List.getElem?_eraseIdx_of_lt h]
theorem at_erase_ge {α : Type} [Inhabited α] {l : List α} {i q : Nat} (h : i ≤ q) : at_ (l.eraseIdx i) q = at_ l (q + 1) := by
  unfold at_; rw [List.getD_eq_getElem?_getD, List.getD_eq_getElem?_getD, List.getElem?_eraseIdx_of_ge h]
/-! ### the machine -/
inductive Ab where
  | alloc0 | mark0 | alloc | fork (fr : Nat) | sync | back | start (fr k : Nat) (v : Int) | store (k : Nat) (v : Int) | leave (k : Nat) (v : Int) | last (k : Nat) (v : Int) | read
deriving Inhabited, DecidableEq
structure PM where
  rd : Nat
  pos : Nat
  join : Int
  slots : List Int
  marks : List Int
  taken : Nat
  live : List (Int × Ab)
  made : Nat
  holders : List Int
  reads : List (List Int)
  done : Bool
  log : List T_api_Access
def PM.setb (s : PM) (p : Nat) (b : Ab) : PM := { s with live := s.live.set p ((at_ s.live p).1, b) }
def PM.note (s : PM) (who k ad x y : Int) : PM := { s with log := s.log ++ [⟨who, k, ad, x, y, true⟩] }
def PM.enter (q : List Int) (s : PM) (p : Nat) : PM :=
  if q.length ≤ s.rd then { s with done := true } else ({ s with pos := 0 } : PM).setb p (if at_ q s.rd ≤ 0 then .sync else .alloc)
def PM.rdg (q : List Int) (s : PM) (p : Nat) : PM :=
  if at_ q s.rd ≤ (s.pos : Int) then ({ s with rd := s.rd + 1 } : PM).enter q p else s.setb p .read
def PM.hold (q : List Int) (s : PM) (p : Nat) : PM :=
  ({ s with holders := s.holders ++ [(at_ s.live p).1], reads := s.reads ++ [[]], pos := 0 } : PM).rdg q p
def PM.step (q : List Int) (s : PM) (p : Nat) : PM :=
  match (at_ s.live p).2 with
  | .alloc0 => (({ s with taken := s.taken + 1 } : PM).note (at_ s.live p).1 3 0 1 ((s.taken : Int) + 1)).setb p .mark0
  | .mark0 => (({ s with marks := s.marks.set 0 (at_ s.marks 0 + 1) } : PM).note (at_ s.live p).1 3 2 1 (at_ s.marks 0 + 1)).enter q p
  | .alloc => (({ s with taken := s.taken + 1 } : PM).note (at_ s.live p).1 3 0 1 ((s.taken : Int) + 1)).setb p (.fork s.taken)
  | .fork fr =>
    ({ s with join := s.join + 1, live := s.live ++ [((s.made : Int), .start fr s.pos (100 * (s.rd : Int) + s.pos))], made := s.made + 1, pos := s.pos + 1, log := s.log ++ [⟨(at_ s.live p).1, 3, 1, 1, s.join + 1, true⟩] } : PM).setb p (if at_ q s.rd ≤ (s.pos : Int) + 1 then .sync else .alloc)
  | .sync =>
    if s.join - 1 = 0 then (({ s with join := s.join - 1 } : PM).note (at_ s.live p).1 3 1 (-1) (s.join - 1)).setb p .back
    else ({ s with join := s.join - 1, live := s.live.eraseIdx p } : PM).note (at_ s.live p).1 3 1 (-1) (s.join - 1)
  | .back => (({ s with join := 1 } : PM).note (at_ s.live p).1 1 1 1 0).hold q p
  | .start fr k v => (({ s with marks := s.marks.set fr (at_ s.marks fr + 1) } : PM).note (at_ s.live p).1 3 (2 + 10 * (fr : Int)) 1 (at_ s.marks fr + 1)).setb p (.store k v)
  | .store k v => (({ s with slots := s.slots.set k v } : PM).note (at_ s.live p).1 1 (3 + (k : Int)) v 0).setb p (.leave k v)
  | .leave k v =>
    if s.join - 1 = 0 then (({ s with join := s.join - 1 } : PM).note (at_ s.live p).1 3 1 (-1) (s.join - 1)).setb p (.last k v)
    else ({ s with join := s.join - 1, live := s.live.eraseIdx p } : PM).note (at_ s.live p).1 3 1 (-1) (s.join - 1)
  | .last k v => (({ s with join := 1 } : PM).note (at_ s.live p).1 1 1 1 0).hold q p
  | .read =>
    (({ s with reads := s.reads.set (s.reads.length - 1) (at_ s.reads (s.reads.length - 1) ++ [at_ s.slots s.pos]), pos := s.pos + 1 } : PM).note (at_ s.live p).1 0 (3 + (s.pos : Int)) (at_ s.slots s.pos) 0).rdg q p
/-! ### the arena -/
def AW (sz : Int) (c : List Int) (lg : List T_api_Access) (who : Int) : T_cells_Arena := ⟨sz, (c.length : Int), c, lg, who, true⟩
section
variable {sz : Int} {c : List Int} {lg : List T_api_Access} {w : Int}
theorem aw_out (i : Int) (h : 0 ≤ i ∧ i < (c.length : Int)) : cells_Arena_outside (AW sz c lg w) i = some false := by
  unfold cells_Arena_outside cells_ledger_has AW
  rw [if_pos (show i ≥ 0 from h.1), ob1_some, show decide (i < (c.length : Int)) = true from decide_eq_true h.2]; rfl
theorem aw_note (hl : lg.length ≤ 1073741824) (m : Int) (k i x y : Int) : cells_Arena_note ⟨sz, m, c, lg, w, true⟩ k i x y true = some ⟨sz, m, c, lg ++ [⟨w, k, i, x, y, true⟩], w, true⟩ := by
  unfold cells_Arena_note
  rw [if_pos rfl, if_pos (show (lg.length + 1) * 48 ≤ 140737488355328 by omega)]
theorem aw_store (hl : lg.length ≤ 1073741824) (i v : Int) (h : 0 ≤ i ∧ i < (c.length : Int)) : cells_Arena_Store (AW sz c lg w) i v = some (0, AW sz (c.set i.toNat v) (lg ++ [⟨w, 1, i, v, 0, true⟩]) w) := by
  unfold cells_Arena_Store
  rw [aw_out i h, ob1_some]
  simp only [Bool.false_eq_true, if_false]
  rw [if_pos (show inr_ i (AW sz c lg w).cell.length from h)]
  simp only [AW, aw_note hl, ob1_some, List.length_set]
theorem aw_add (hl : lg.length ≤ 1073741824) (i v : Int) (h : 0 ≤ i ∧ i < (c.length : Int)) : cells_Arena_Add (AW sz c lg w) i v = some (wi (at_ c i.toNat + v), 0, AW sz (c.set i.toNat (wi (at_ c i.toNat + v))) (lg ++ [⟨w, 3, i, v, wi (at_ c i.toNat + v), true⟩]) w) := by
  unfold cells_Arena_Add
  rw [aw_out i h, ob1_some]
  simp only [Bool.false_eq_true, if_false]
  rw [if_pos (show inr_ i (AW sz c lg w).cell.length from h), if_pos (show inr_ i ((AW sz c lg w).cell.set i.toNat (wi (at_ (AW sz c lg w).cell i.toNat + v))).length by rw [List.length_set]; exact h)]
  simp only [AW, aw_note hl, ob1_some, List.length_set]
  rw [if_pos (show inr_ i c.length from h), at_set_same (by omega)]
theorem aw_load (hl : lg.length ≤ 1073741824) (i : Int) (h : 0 ≤ i ∧ i < (c.length : Int)) : cells_Arena_Load (AW sz c lg w) i = some (at_ c i.toNat, 0, AW sz c (lg ++ [⟨w, 0, i, at_ c i.toNat, 0, true⟩]) w) := by
  unfold cells_Arena_Load
  rw [aw_out i h, ob1_some]
  simp only [Bool.false_eq_true, if_false]
  rw [if_pos (show inr_ i (AW sz c lg w).cell.length from h)]
  simp only [AW, aw_note hl, ob1_some]
/-! ### ops -/
theorem op_begin (k : Int) {F f s v : Int} (hF : 1 ≤ F ∧ F ≤ 4096) (hf : 0 ≤ f ∧ f < F) (hs : 0 ≤ s ∧ s < 8) : frames_begin k ⟨0, F⟩ f s v = some ⟨0, F, f, 1, 0, 0, k, s, v⟩ := by
  unfold frames_begin frames_Table__has
  rw [if_pos (show (0 : Int) ≥ 0 by decide), if_pos hF.1, if_pos hF.2, if_pos hf.1, ob1_some, if_pos (decide_eq_true hf.2), if_neg (by omega), if_neg (by omega)]
theorem op_ans {F f st code v k s g : Int} (hF : 1 ≤ F) : frames_Answer ⟨0, F, f, st, code, v, k, s, g⟩ = some (if st > 0 then (0, 0) else (code, v)) := by
  unfold frames_Answer
  rw [if_neg (by simp only [T_frames_Op.mk.injEq]; omega)]
  by_cases h : st > 0
  · rw [if_pos h, if_pos h]
  · rw [if_neg h, if_neg h]
theorem op_ans0 {F f code v k s g : Int} (hF : 1 ≤ F) : frames_Answer ⟨0, F, f, 0, code, v, k, s, g⟩ = some (code, v) := by rw [op_ans hF, if_neg (by decide)]
theorem op_ansR {F f st code v k s g : Int} (hF : 1 ≤ F) (hs : st > 0) : frames_Answer ⟨0, F, f, st, code, v, k, s, g⟩ = some (0, 0) := by rw [op_ans hF, if_pos hs]
variable {F : Int}
theorem jaddr {f : Int} (h0 : 0 ≤ f) (h1 : f ≤ 4096) : frames_Table__join ⟨0, F⟩ f = some (1 + 10 * f) := by
  unfold frames_Table__join
  rw [wi_in (x := f * 10) (by omega), wi_in (x := (0 : Int) + 1) (by omega), wi_in (by omega)]; congr 1; omega
theorem st_alloc (hl : lg.length ≤ 1073741824) {t : Int} (hc : 0 < c.length) (ht : at_ c 0 = t) (h0 : 0 ≤ t) (h1 : t < F) (hF : F ≤ 4096) :
    frames_Step_iface (AW sz c lg w) ⟨0, F, 0, 1, 0, 0, 0, 0, 0⟩ = some (⟨0, F, 0, 0, 4, t, 0, 0, 0⟩, AW sz (c.set 0 (t + 1)) (lg ++ [⟨w, 3, 0, 1, t + 1, true⟩]) w) := by
  unfold frames_Step_iface frames_Op_alloc_iface frames_Table__next frames_head_end
  simp only [Int.reduceEq, reduceIte, ob1_some]
  rw [aw_add hl 0 1 (by omega), ob3_some]
  simp only [Int.toNat_zero, ht, reduceIte]
  rw [wi_in (x := t + 1) (by omega), if_pos (by omega), ob1_some, if_pos (decide_eq_true (by omega)), ob3_some]
  simp only [reduceIte]
  rw [if_neg (by decide), wi_in (x := t + 1 - 1) (by omega), show t + 1 - 1 = t by omega]
theorem st_fork (hl : lg.length ≤ 1073741824) {j : Int} (hc : 1 < c.length) (hj : at_ c 1 = j) (h0 : 0 ≤ j) (h1 : j ≤ 1000) :
    frames_Step_iface (AW sz c lg w) ⟨0, F, 0, 1, 0, 0, 1, 0, 0⟩ = some (⟨0, F, 0, 0, 9, j + 1, 1, 0, 0⟩, AW sz (c.set 1 (j + 1)) (lg ++ [⟨w, 3, 1, 1, j + 1, true⟩]) w) := by
  unfold frames_Step_iface frames_Op_fork_iface frames_head_end
  simp only [Int.reduceEq, reduceIte]
  rw [jaddr (by decide) (by decide), ob1_some, show (1 : Int) + 10 * 0 = 1 from rfl, aw_add hl 1 1 (by omega), ob3_some]
  simp only [Int.toNat_one, hj, reduceIte, ob1_some, ob3_some]
  rw [wi_in (x := j + 1) (by omega), if_neg (by decide)]
theorem st_less {k s g o : Int} (hl : lg.length ≤ 1073741824) {j : Int} (hc : 1 < c.length) (hj : at_ c 1 = j) (h0 : 0 ≤ j) (h1 : j ≤ 1000) (st : Int) :
    frames_Op_less_iface ⟨0, F, 0, st, 0, 0, k, s, g⟩ (AW sz c lg w) o = some (0, (if j - 1 = 0 then ⟨0, F, 0, st, 0, 0, k, s, g⟩ else ⟨0, F, 0, 0, o, j - 1, k, s, g⟩), AW sz (c.set 1 (j - 1)) (lg ++ [⟨w, 3, 1, -1, j - 1, true⟩]) w) := by
  unfold frames_Op_less_iface frames_head_end
  simp only
  rw [jaddr (by decide) (by decide), ob1_some, show (1 : Int) + 10 * 0 = 1 from rfl, aw_add hl 1 (-1) (by omega), ob3_some]
  simp only [Int.toNat_one, hj, reduceIte, ob1_some]
  rw [wi_in (x := j + -1) (by omega), show j + -1 = j - 1 by omega]
  by_cases h : j - 1 = 0
  · rw [if_pos h, if_pos h]
  · rw [if_neg h, if_neg h]
theorem st_again {k s g o : Int} (hl : lg.length ≤ 1073741824) (hc : 1 < c.length) (st : Int) :
    frames_Op_again_iface ⟨0, F, 0, st, 0, 0, k, s, g⟩ (AW sz c lg w) o = some (0, ⟨0, F, 0, 0, o, 0, k, s, g⟩, AW sz (c.set 1 1) (lg ++ [⟨w, 1, 1, 1, 0, true⟩]) w) := by
  unfold frames_Op_again_iface frames_head_end
  simp only
  rw [jaddr (by decide) (by decide), ob1_some, show (1 : Int) + 10 * 0 = 1 from rfl, aw_store hl 1 1 (by omega), ob2_some]
  simp only [Int.toNat_one, reduceIte, ob1_some]
theorem st_sync1 (hl : lg.length ≤ 1073741824) {j : Int} (hc : 1 < c.length) (hj : at_ c 1 = j) (h0 : 0 ≤ j) (h1 : j ≤ 1000) :
    frames_Step_iface (AW sz c lg w) ⟨0, F, 0, 1, 0, 0, 3, 0, 0⟩ = some ((if j - 1 = 0 then ⟨0, F, 0, 2, 0, 0, 3, 0, 0⟩ else ⟨0, F, 0, 0, 12, j - 1, 3, 0, 0⟩), AW sz (c.set 1 (j - 1)) (lg ++ [⟨w, 3, 1, -1, j - 1, true⟩]) w) := by
  unfold frames_Step_iface frames_Op_sync_iface
  simp only [Int.reduceEq, reduceIte]
  rw [st_less hl hc hj h0 h1, ob3_some, ob3_some]
  simp only [reduceIte]
  by_cases h : j - 1 = 0
  · simp only [h, reduceIte]; rfl
  · simp only [h, reduceIte]; rfl
theorem st_sync2 (hl : lg.length ≤ 1073741824) (hc : 1 < c.length) :
    frames_Step_iface (AW sz c lg w) ⟨0, F, 0, 2, 0, 0, 3, 0, 0⟩ = some (⟨0, F, 0, 0, 13, 0, 3, 0, 0⟩, AW sz (c.set 1 1) (lg ++ [⟨w, 1, 1, 1, 0, true⟩]) w) := by
  unfold frames_Step_iface frames_Op_sync_iface
  simp only [Int.reduceEq, reduceIte]
  rw [st_again hl hc, ob3_some, ob3_some]
  simp only [reduceIte]; rfl
theorem st_fin1 (hl : lg.length ≤ 1073741824) {k : Nat} {v : Int} (hc : 3 + k < c.length) (hk : k < 8) :
    frames_Step_iface (AW sz c lg w) ⟨0, F, 0, 1, 0, 0, 2, (k : Int), v⟩ = some (⟨0, F, 0, 2, 0, 0, 2, (k : Int), v⟩, AW sz (c.set (3 + k) v) (lg ++ [⟨w, 1, 3 + (k : Int), v, 0, true⟩]) w) := by
  unfold frames_Step_iface frames_Op_finish_iface frames_Table__slot
  simp only [Int.reduceEq, reduceIte]
  rw [jaddr (by decide) (by decide), ob1_some, show wi (wi ((1 : Int) + 10 * 0 + 2) + (k : Int)) = 3 + (k : Int) by rw [show wi ((1 : Int) + 10 * 0 + 2) = 3 from rfl, wi_in (by omega)], ob1_some, aw_store hl (3 + (k : Int)) v (by omega), ob2_some, ob3_some]
  simp only [reduceIte]
  rw [show (3 + (k : Int)).toNat = 3 + k by omega]; rfl
theorem st_fin2 (hl : lg.length ≤ 1073741824) {j k v : Int} (hc : 1 < c.length) (hj : at_ c 1 = j) (h0 : 0 ≤ j) (h1 : j ≤ 1000) :
    frames_Step_iface (AW sz c lg w) ⟨0, F, 0, 2, 0, 0, 2, k, v⟩ = some ((if j - 1 = 0 then ⟨0, F, 0, 3, 0, 0, 2, k, v⟩ else ⟨0, F, 0, 0, 10, j - 1, 2, k, v⟩), AW sz (c.set 1 (j - 1)) (lg ++ [⟨w, 3, 1, -1, j - 1, true⟩]) w) := by
  unfold frames_Step_iface frames_Op_finish_iface
  simp only [Int.reduceEq, reduceIte]
  rw [st_less hl hc hj h0 h1, ob3_some, ob3_some]
  simp only [reduceIte]
  by_cases h : j - 1 = 0
  · simp only [h, reduceIte]; rfl
  · simp only [h, reduceIte]; rfl
theorem st_fin3 (hl : lg.length ≤ 1073741824) {k v : Int} (hc : 1 < c.length) :
    frames_Step_iface (AW sz c lg w) ⟨0, F, 0, 3, 0, 0, 2, k, v⟩ = some (⟨0, F, 0, 0, 11, 0, 2, k, v⟩, AW sz (c.set 1 1) (lg ++ [⟨w, 1, 1, 1, 0, true⟩]) w) := by
  unfold frames_Step_iface frames_Op_finish_iface
  simp only [Int.reduceEq, reduceIte]
  rw [st_again hl hc, ob3_some, ob3_some]
  simp only [reduceIte]; rfl
theorem st_start (hl : lg.length ≤ 1073741824) {f : Nat} {m : Int} (hc : 2 + 10 * f < c.length) (hf : f ≤ 4096) (hm : at_ c (2 + 10 * f) = m) (h0 : 0 ≤ m) (h1 : m ≤ 1000000) :
    frames_Step_iface (AW sz c lg w) ⟨0, F, (f : Int), 1, 0, 0, 4, 0, 0⟩ = some (⟨0, F, (f : Int), 0, 14, m + 1, 4, 0, 0⟩, AW sz (c.set (2 + 10 * f) (m + 1)) (lg ++ [⟨w, 3, 2 + 10 * (f : Int), 1, m + 1, true⟩]) w) := by
  unfold frames_Step_iface frames_Op_start_iface frames_Table__mark frames_head_end
  simp only [Int.reduceEq, reduceIte]
  rw [jaddr (by omega) (by omega), ob1_some, show wi (1 + 10 * (f : Int) + 1) = 2 + 10 * (f : Int) by rw [wi_in (by omega)]; omega, ob1_some, aw_add hl (2 + 10 * (f : Int)) 1 (by omega), ob3_some, show (2 + 10 * (f : Int)).toNat = 2 + 10 * f by omega]
  simp only [hm, reduceIte, ob1_some, ob3_some]
  rw [wi_in (x := m + 1) (by omega), if_neg (by decide)]
theorem st_fetch (hl : lg.length ≤ 1073741824) {k : Nat} (hc : 3 + k < c.length) (hk : k < 8) :
    frames_Step_iface (AW sz c lg w) ⟨0, F, 0, 1, 0, 0, 5, (k : Int), 0⟩ = some (⟨0, F, 0, 0, 15, at_ c (3 + k), 5, (k : Int), 0⟩, AW sz c (lg ++ [⟨w, 0, 3 + (k : Int), at_ c (3 + k), 0, true⟩]) w) := by
  unfold frames_Step_iface frames_Op_fetch_iface frames_Table__slot frames_head_end
  simp only [Int.reduceEq, reduceIte]
  rw [jaddr (by decide) (by decide), ob1_some, show wi (wi ((1 : Int) + 10 * 0 + 2) + (k : Int)) = 3 + (k : Int) by rw [show wi ((1 : Int) + 10 * 0 + 2) = 3 from rfl, wi_in (by omega)], ob1_some, aw_load hl (3 + (k : Int)) (by omega), ob3_some, show (3 + (k : Int)).toNat = 3 + k by omega]
  simp only [reduceIte, ob1_some, ob3_some]
  rw [if_neg (by decide)]
end
end Go.Proofs.Ytnghahgfcaolbaa.Mo
