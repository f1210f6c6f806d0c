/- Ops that are stepped in any order: what the walk's plain functions answer. No memory is spoken of. -/
import Derived.Test.YtnghahgfcaolbaaFStNew
namespace Go.Proofs.Ytnghahgfcaolbaa.Mo
open Go Go.Proofs.Ytnghahgfcaolbaa.SL Go.Proofs.Ytnghahgfcaolbaa.GX
set_option linter.unusedVariables false
set_option linter.unusedSimpArgs false
/-! ### accesses -/
/-- What a memory of one side answers, the other's answers too; before: A, behind: B. -/
structure Mem (K : Nat) (A B : T_cells_Arena → T_plunderref2_Arena → Prop) : Prop where
  id : ∀ {S R}, A S R → B S R
  store : ∀ {S R}, A S R → ∀ ad v : Int, ∃ e ok S' R', cells_Arena_Store S ad v = some (e, S') ∧ plunderref2_Arena_Do K R ⟨0, 1, ad, v, 0⟩ = some (⟨0, ok, e⟩, R') ∧ B S' R'
  add : ∀ {S R}, A S R → ∀ ad v : Int, ∃ x e ok S' R', cells_Arena_Add S ad v = some (x, e, S') ∧ plunderref2_Arena_Do K R ⟨0, 3, ad, v, 0⟩ = some (⟨x, ok, e⟩, R') ∧ B S' R'
  load : ∀ {S R}, A S R → ∀ ad : Int, ∃ x e ok S' R', cells_Arena_Load S ad = some (x, e, S') ∧ plunderref2_Arena_Do K R ⟨0, 0, ad, 0, 0⟩ = some (⟨x, ok, e⟩, R') ∧ B S' R'
theorem refuse_do {K : Nat} {R : T_plunderref2_Arena} {k ad x y z : Int} (h0 : 0 ≤ k) (h4 : k < 4) (h : ¬ (0 ≤ ad ∧ ad < (R.Held.length : Int))) : plunderref2_Arena_Do K R ⟨z, k, ad, x, y⟩ = some (⟨0, false, 20⟩, R) := by
  unfold plunderref2_Arena_Do plunderref2_refused
  rw [if_neg (show ¬ k < 0 by omega), if_neg (show ¬ k > 4 by omega), jn0_inl, if_neg (show ¬ k = 4 by omega)]
  by_cases h1 : ad < 0
  · rw [if_pos h1, ob1_some, jn0_inr]
  · rw [if_neg h1, if_pos (show ad ≥ (R.Held.length : Int) by omega), ob1_some, jn0_inr]
/-- Two memories: the same cells; what is noted goes by note. -/
theorem mem_of {K : Nat} {A B : T_cells_Arena → T_plunderref2_Arena → Prop} (hid : ∀ {S R}, A S R → B S R)
    (hm : ∀ {S R}, A S R → S.ledger_mark = (R.Held.length : Int) ∧ S.cell = R.Held)
    (hn : ∀ {S R}, A S R → ∀ (c : List Int), c.length = R.Held.length → ∀ (k i x y : Int) (ok : Bool), ∃ S' R', cells_Arena_note { S with cell := c } k i x y ok = some S' ∧ plunderref2_Arena_note { R with Held := c } ⟨R.Actor, k, i, x, y, ok⟩ = some R' ∧ B S' R' ∧ S'.cell = c) : Mem K A B := by
  refine ⟨hid, ?_, ?_, ?_⟩
  · intro S R h ad v
    obtain ⟨h1, h2⟩ := hm h
    have ho := outside_eq S ad
    rw [h1] at ho
    by_cases hi : 0 ≤ ad ∧ ad < (R.Held.length : Int)
    · obtain ⟨S', R', n1, n2, n3, n4⟩ := hn h (R.Held.set ad.toNat v) (by simp) 1 ad v 0 true
      refine ⟨0, true, S', R', ?_, ?_, n3⟩
      · unfold cells_Arena_Store
        rw [ho, ob1_some, decide_eq_true hi]
        simp only [Bool.not_true, Bool.false_eq_true, if_false]
        rw [h2, if_pos hi, n1, ob1_some]
      · unfold plunderref2_Arena_Do
        simp only [Int.reduceLT, gt_iff_lt, Int.reduceEq, reduceIte, jn0_inl]
        rw [if_neg (by omega), if_neg (by omega), jn0_inl, if_pos hi, n2, ob1_some]
    · refine ⟨20, false, S, R, ?_, refuse_do (by decide) (by decide) hi, hid h⟩
      unfold cells_Arena_Store
      rw [ho, ob1_some, decide_eq_false hi]
      simp
  · intro S R h ad v
    obtain ⟨h1, h2⟩ := hm h
    have ho := outside_eq S ad
    rw [h1] at ho
    by_cases hi : 0 ≤ ad ∧ ad < (R.Held.length : Int)
    · obtain ⟨S', R', n1, n2, n3, n4⟩ := hn h (R.Held.set ad.toNat (wi (at_ R.Held ad.toNat + v))) (by simp) 3 ad v (wi (at_ R.Held ad.toNat + v)) true
      refine ⟨wi (at_ R.Held ad.toNat + v), 0, true, S', R', ?_, ?_, n3⟩
      · unfold cells_Arena_Add
        rw [ho, ob1_some, decide_eq_true hi]
        simp only [Bool.not_true, Bool.false_eq_true, if_false]
        rw [h2, if_pos hi, if_pos (by rw [List.length_set]; exact hi), n1, ob1_some, n4, if_pos (by rw [List.length_set]; exact hi), at_set_same (by omega)]
      · unfold plunderref2_Arena_Do
        simp only [Int.reduceLT, gt_iff_lt, Int.reduceEq, reduceIte, jn0_inl]
        rw [if_neg (by omega), if_neg (by omega), jn0_inl, if_pos hi, n2, ob1_some]
    · refine ⟨0, 20, false, S, R, ?_, refuse_do (by decide) (by decide) hi, hid h⟩
      unfold cells_Arena_Add
      rw [ho, ob1_some, decide_eq_false hi]
      simp
  · intro S R h ad
    obtain ⟨h1, h2⟩ := hm h
    have ho := outside_eq S ad
    rw [h1] at ho
    by_cases hi : 0 ≤ ad ∧ ad < (R.Held.length : Int)
    · obtain ⟨S', R', n1, n2, n3, n4⟩ := hn h R.Held rfl 0 ad (at_ R.Held ad.toNat) 0 true
      refine ⟨at_ R.Held ad.toNat, 0, true, S', R', ?_, ?_, n3⟩
      · unfold cells_Arena_Load
        rw [ho, ob1_some, decide_eq_true hi]
        simp only [Bool.not_true, Bool.false_eq_true, if_false]
        rw [← h2] at n1
        rw [h2, if_pos hi, ← h2, n1, ob1_some]
      · unfold plunderref2_Arena_Do
        simp only [Int.reduceLT, gt_iff_lt, Int.reduceEq, reduceIte, jn0_inl]
        rw [if_neg (by omega), if_neg (by omega), jn0_inl, if_pos hi, n2, ob1_some]
    · refine ⟨0, 20, false, S, R, ?_, refuse_do (by decide) (by decide) hi, hid h⟩
      unfold cells_Arena_Load
      rw [ho, ob1_some, decide_eq_false hi]
      simp
/-- The same cells, nothing watched. -/
structure Bare (S : T_cells_Arena) (R : T_plunderref2_Arena) : Prop where
  mark : S.ledger_mark = (R.Held.length : Int)
  cell : S.cell = R.Held
  off : S.watched = false
  on : R.On = true
  held : R.Held.length ≤ 1048576
theorem mem_same {K n : Nat} (hn : n < 2097152) : Mem K (fun S R => Same S R n) (fun S R => Same S R (n + 1)) :=
  mem_of (fun h => h.up (Nat.le_succ n)) (fun h => ⟨h.mark, h.cell⟩) fun {S R} h c hc k i x y ok => by
    have h2 : Same { S with cell := c } { R with Held := c } n := ⟨h.size, by show S.ledger_mark = _; rw [h.mark, hc], rfl, h.log, h.actor, h.on, h.most, by show (c.length : Int) ≤ _; rw [hc]; exact h.held, h.book⟩
    obtain ⟨S', R', a1, a2, a3, a4, a5, a6⟩ := note_same h2 (by omega) k i x y ok
    exact ⟨S', R', a1, a2, a3, a4⟩
theorem mem_bare {K n : Nat} (hn : n < 2097152) : Mem K (fun S R => Bare S R ∧ R.Book.length ≤ n) (fun S R => Bare S R ∧ R.Book.length ≤ n + 1) :=
  mem_of (fun h => ⟨h.1, by omega⟩) (fun h => ⟨h.1.mark, h.1.cell⟩) fun {S R} h c hc k i x y ok => by
    refine ⟨{ S with cell := c }, { R with Held := c, Book := R.Book ++ [⟨R.Actor, k, i, x, y, ok⟩] }, ?_, ?_, ⟨⟨?_, rfl, h.1.off, h.1.on, ?_⟩, ?_⟩, rfl⟩
    · unfold cells_Arena_note
      simp [h.1.off]
    · unfold plunderref2_Arena_note
      rw [if_pos h.1.on, if_pos (by have := h.2; show (R.Book.length + 1) * 48 ≤ _; omega)]
    · show S.ledger_mark = (c.length : Int)
      rw [hc]; exact h.1.mark
    · show c.length ≤ 1048576
      rw [hc]; exact h.1.held
    · simp; have := h.2; omega
/-! ### ops -/
abbrev jn_ (b f : Int) : Int := wi (wi (b + (1 : Int)) + wi (f * (10 : Int)))
abbrev sl_ (b f s : Int) : Int := wi (wi (jn_ b f + (2 : Int)) + s)
structure Runs (o : T_frames_Op) (r : T_plunderref8_Op) : Prop where
  stands : o.head_stands = r.Made + 1
  code : r.Code = 0
  came : r.Came = 0
  kind : o.kind = r.Kind
  k0 : 0 ≤ r.Kind
  k5 : r.Kind ≤ 5
  fr : 1 ≤ o.head_t_Frames
  frames : r.Frames = o.head_t_Frames
  next : r.Next = o.head_t_Base
  join : r.Kind ≠ 0 → r.Join = jn_ o.head_t_Base o.head_frame
  cell : r.Kind = 2 ∨ r.Kind = 5 → r.Cell = sl_ o.head_t_Base o.head_frame o.slot
  give : r.Kind = 2 → r.V = o.give
  made : 0 ≤ r.Made ∧ r.Made ≤ 2
  m2 : r.Kind = 3 → r.Made ≤ 1
  m1 : r.Kind ≠ 2 → r.Kind ≠ 3 → r.Made = 0
structure Ends (o : T_frames_Op) (r : T_plunderref8_Op) : Prop where
  stands : o.head_stands = 0
  fr : 1 ≤ o.head_t_Frames
  code : o.head_code = r.Code
  v : o.head_v = r.Came
  n0 : r.Code ≠ 0
abbrev o0 : T_frames_Op := ⟨0, 0, 0, 0, 0, 0, 0, 0, 0⟩
def Sim (o : T_frames_Op) (r : T_plunderref8_Op) : Prop := Runs o r ∨ Ends o r ∨ (o = o0 ∧ r.Code = 1 ∧ r.Came = 0)
theorem answers_sim {o : T_frames_Op} {r : T_plunderref8_Op} (h : Sim o r) : plunderlaw8_answers o r = some true := by
  unfold plunderlaw8_answers frames_Answer
  rcases h with h | h | ⟨rfl, h1, h2⟩
  · have h3 := h.fr; have h4 := h.stands; have h5 := h.made
    rw [if_neg (fun e => by rw [e] at h3; exact absurd h3 (by decide)), if_pos (show o.head_stands > 0 by omega), ob2_some, h.code, if_pos rfl, h.came]; rfl
  · have h3 := h.fr; have h4 := h.stands
    rw [if_neg (fun e => by rw [e] at h3; exact absurd h3 (by decide)), if_neg (show ¬ o.head_stands > 0 by omega), ob2_some, if_pos h.code, h.v]; simp
  · rw [if_pos rfl, ob2_some, if_pos h1.symm, h2]; rfl
/-! ### how they begin -/
theorem has_eq (t : T_frames_Table) (f : Int) : frames_Table__has t f = some (decide (0 ≤ t.Base ∧ 1 ≤ t.Frames ∧ t.Frames ≤ 4096 ∧ 0 ≤ f ∧ f < t.Frames)) := by
  unfold frames_Table__has
  by_cases h1 : t.Base ≥ 0
  · rw [if_pos h1]
    by_cases h2 : t.Frames ≥ 1
    · rw [if_pos h2]
      by_cases h3 : t.Frames ≤ 4096
      · rw [if_pos h3]
        by_cases h4 : f ≥ 0
        · rw [if_pos h4]; congr 1; simp only [decide_eq_decide]; omega
        · rw [if_neg h4]; congr 1; symm; rw [decide_eq_false_iff_not]; omega
      · rw [if_neg h3]; congr 1; symm; rw [decide_eq_false_iff_not]; omega
    · rw [if_neg h2]; congr 1; symm; rw [decide_eq_false_iff_not]; omega
  · rw [if_neg h1]; congr 1; symm; rw [decide_eq_false_iff_not]; omega
theorem begin_eq (k : Int) (t : T_frames_Table) (f s v : Int) : frames_begin k t f s v = some (if 0 ≤ t.Base ∧ 1 ≤ t.Frames ∧ t.Frames ≤ 4096 ∧ (0 ≤ f ∧ f < t.Frames) ∧ (0 ≤ s ∧ s < 8) then ⟨t.Base, t.Frames, f, 1, 0, 0, k, s, v⟩ else o0) := by
  unfold frames_begin
  rw [has_eq, ob1_some]
  by_cases h : 0 ≤ t.Base ∧ 1 ≤ t.Frames ∧ t.Frames ≤ 4096 ∧ 0 ≤ f ∧ f < t.Frames
  · rw [if_pos (decide_eq_true h)]
    by_cases h1 : s < 0
    · rw [if_pos h1, if_neg (by omega)]
    · rw [if_neg h1]
      by_cases h2 : s ≥ 8
      · rw [if_pos h2, if_neg (by omega)]
      · rw [if_neg h2, if_pos (by omega)]
  · rw [if_neg (by simpa using h), if_neg (by omega)]
theorem ref_begin (k : Int) (t : T_plunderref8_Table) (f s v : Int) : plunderref8_Begin k t f s v = some (
    if 0 ≤ t.Base ∧ 1 ≤ t.Frames ∧ t.Frames ≤ 4096 ∧ (k = 0 ∨ (0 ≤ f ∧ f < t.Frames) ∧ ((k = 2 ∨ k = 5) → 0 ≤ s ∧ s < 8)) then
      (if k = 0 then ⟨k, 0, 0, v, t.Base, t.Frames, 0, 0, 0⟩ else ⟨k, jn_ t.Base f, sl_ t.Base f s, v, t.Base, t.Frames, 0, 0, 0⟩) else ⟨k, 0, 0, v, t.Base, t.Frames, 0, 1, 0⟩) := by
  unfold plunderref8_Begin
  by_cases h1 : t.Base < 0
  · rw [if_pos h1, jn0_inr, if_neg (by omega)]
  rw [if_neg h1]
  by_cases h2 : t.Frames < 1
  · rw [if_pos h2, jn0_inr, if_neg (by omega)]
  rw [if_neg h2]
  by_cases h3 : t.Frames > 4096
  · rw [if_pos h3, jn0_inr, if_neg (by omega)]
  rw [if_neg h3, jn0_inl]
  by_cases h4 : k = 0
  · rw [if_pos h4, if_pos (by omega), if_pos h4]
  rw [if_neg h4]
  by_cases h5 : f < 0
  · rw [if_pos h5, jn0_inr, if_neg (by omega)]
  rw [if_neg h5]
  by_cases h6 : f ≥ t.Frames
  · rw [if_pos h6, jn0_inr, if_neg (by omega)]
  rw [if_neg h6, jn0_inl]
  obtain ⟨g, hg, hg2⟩ : ∃ g, (if k = (2 : Int) then some true else some (k == (5 : Int))) = some g ∧ (g = true ↔ (k = 2 ∨ k = 5)) := by
    by_cases h7 : k = 2
    · rw [if_pos h7]; exact ⟨_, rfl, by simp [h7]⟩
    · rw [if_neg h7]; exact ⟨_, rfl, by simp [h7]⟩
  rw [hg, ob1_some]
  by_cases h8 : g = true
  · have h9 := hg2.1 h8
    rw [if_pos h8]
    by_cases h10 : s < 0
    · rw [if_pos h10, jn0_inr, if_neg (by omega)]
    rw [if_neg h10]
    by_cases h11 : s ≥ 8
    · rw [if_pos h11, jn0_inr, if_neg (by omega)]
    rw [if_neg h11, jn0_inl, if_pos (by omega), if_neg h4]
  · have h9 : ¬ (k = 2 ∨ k = 5) := fun e => h8 (hg2.2 e)
    rw [if_neg h8, jn0_inl, if_pos (by omega), if_neg h4]
theorem mod_ok (x : Int) {m : Int} (hm : 0 < m) (hm2 : m ≤ 4611686018427387904) : ∃ r, plunderlaw8_mod x m = some r ∧ 0 ≤ r ∧ r < m := by
  unfold plunderlaw8_mod
  rw [if_pos (by omega)]
  have h1 := Int.tmod_lt_of_pos x hm
  have h2 : -m < x.tmod m := by
    have := Int.tmod_lt_of_pos (-x) hm
    rw [Int.neg_tmod] at this
    omega
  by_cases h : x.tmod m < 0
  · rw [if_pos h]
    exact ⟨_, rfl, by rw [wi_in (by omega)]; omega, by rw [wi_in (by omega)]; omega⟩
  · rw [if_neg h]
    exact ⟨_, rfl, by omega, h1⟩
theorem sim_of {k : Int} (hk0 : 0 ≤ k) (hk5 : k ≤ 5) (b n f s v f2 s2 v2 : Int) (ha : k ≠ 0 → f = f2) (hs : k = 2 ∨ k = 5 → s = s2) (hv : k = 2 → v = v2) (ha0 : k = 0 → f2 = 0) (hs0 : ¬ (k = 2 ∨ k = 5) → s2 = 0) :
    Sim (if 0 ≤ b ∧ 1 ≤ n ∧ n ≤ 4096 ∧ (0 ≤ f2 ∧ f2 < n) ∧ (0 ≤ s2 ∧ s2 < 8) then (⟨b, n, f2, 1, 0, 0, k, s2, v2⟩ : T_frames_Op) else o0)
      (if 0 ≤ b ∧ 1 ≤ n ∧ n ≤ 4096 ∧ (k = 0 ∨ (0 ≤ f ∧ f < n) ∧ ((k = 2 ∨ k = 5) → 0 ≤ s ∧ s < 8)) then
        (if k = 0 then (⟨k, 0, 0, v, b, n, 0, 0, 0⟩ : T_plunderref8_Op) else ⟨k, jn_ b f, sl_ b f s, v, b, n, 0, 0, 0⟩) else ⟨k, 0, 0, v, b, n, 0, 1, 0⟩) := by
  by_cases h : 0 ≤ b ∧ 1 ≤ n ∧ n ≤ 4096 ∧ (0 ≤ f2 ∧ f2 < n) ∧ (0 ≤ s2 ∧ s2 < 8)
  · rw [if_pos h, if_pos (by omega)]
    left
    by_cases hk : k = 0
    · rw [if_pos hk]
      exact ⟨rfl, rfl, rfl, rfl, hk0, hk5, h.2.1, rfl, rfl, fun e => absurd hk e, fun e => by simp only at e; omega, fun e => by simp only at e; omega, ⟨by show (0 : Int) ≤ 0; decide, by show (0 : Int) ≤ 2; decide⟩, fun e => by simp only at e; omega, fun _ _ => rfl⟩
    · rw [if_neg hk]
      exact ⟨rfl, rfl, rfl, rfl, hk0, hk5, h.2.1, rfl, rfl, fun e => by rw [ha hk], fun e => by rw [ha hk, hs e], fun e => hv e, ⟨by show (0 : Int) ≤ 0; decide, by show (0 : Int) ≤ 2; decide⟩, fun e => by show (0 : Int) ≤ 1; decide, fun _ _ => rfl⟩
  · rw [if_neg h, if_neg (by omega)]
    exact .inr (.inr ⟨rfl, rfl, rfl⟩)
theorem begin_sim (b n : Int) (x : T_plunderlaw8_Ask) : ∃ o r, plunderlaw8_begin ⟨b, n⟩ x = some o ∧ plunderlaw8_beginRef ⟨b, n⟩ x = some r ∧ Sim o r := by
  unfold plunderlaw8_begin plunderlaw8_beginRef
  obtain ⟨b', n', e1, e2⟩ : ∃ b' n', (if x.Odd = true then some (⟨x.Base, x.Frames⟩ : T_frames_Table) else some ⟨b, n⟩) = some ⟨b', n'⟩ ∧ (if x.Odd = true then some (⟨x.Base, x.Frames⟩ : T_plunderref8_Table) else some ⟨b, n⟩) = some ⟨b', n'⟩ := by
    by_cases h : x.Odd = true
    · rw [if_pos h, if_pos h]; exact ⟨_, _, rfl, rfl⟩
    · rw [if_neg h, if_neg h]; exact ⟨_, _, rfl, rfl⟩
  obtain ⟨k, k1, k2, k3⟩ := mod_ok x.Kind (m := 6) (by decide) (by decide)
  rw [e1, e2, ob1_some, ob1_some, k1, ob1_some, ob1_some, ref_begin]
  simp only [frames_Alloc, frames_Fork, frames_Finish, frames_Sync, frames_Start, frames_Fetch, begin_eq, ob1_some]
  by_cases h0 : k = 0
  · rw [if_pos h0]
    subst h0
    exact ⟨_, _, rfl, rfl, sim_of (k := 0) (by omega) (by omega) b' n' x.Frame x.Slot x.V 0 0 0 (by omega) (by omega) (by omega) (by omega) (by omega)⟩
  rw [if_neg h0]
  by_cases h1 : k = 1
  · rw [if_pos h1]
    subst h1
    exact ⟨_, _, rfl, rfl, sim_of (k := 1) (by omega) (by omega) b' n' x.Frame x.Slot x.V x.Frame 0 0 (by omega) (by omega) (by omega) (by omega) (by omega)⟩
  rw [if_neg h1]
  by_cases h2 : k = 2
  · rw [if_pos h2]
    subst h2
    exact ⟨_, _, rfl, rfl, sim_of (k := 2) (by omega) (by omega) b' n' x.Frame x.Slot x.V x.Frame x.Slot x.V (by omega) (by omega) (by omega) (by omega) (by omega)⟩
  rw [if_neg h2]
  by_cases h3 : k = 3
  · rw [if_pos h3]
    subst h3
    exact ⟨_, _, rfl, rfl, sim_of (k := 3) (by omega) (by omega) b' n' x.Frame x.Slot x.V x.Frame 0 0 (by omega) (by omega) (by omega) (by omega) (by omega)⟩
  rw [if_neg h3]
  by_cases h4 : k = 4
  · rw [if_pos h4]
    subst h4
    exact ⟨_, _, rfl, rfl, sim_of (k := 4) (by omega) (by omega) b' n' x.Frame x.Slot x.V x.Frame 0 0 (by omega) (by omega) (by omega) (by omega) (by omega)⟩
  rw [if_neg h4]
  obtain rfl : k = 5 := by omega
  exact ⟨_, _, rfl, rfl, sim_of (k := 5) (by omega) (by omega) b' n' x.Frame x.Slot x.V x.Frame x.Slot 0 (by omega) (by omega) (by omega) (by omega) (by omega)⟩
/-! ### a step -/
theorem step_ended {o : T_frames_Op} (h : o.head_stands = 0) (S : T_cells_Arena) : frames_Step_iface S o = some (o, S) := by
  unfold frames_Step_iface
  rw [if_pos h]
theorem refstep_ended {K : Nat} {r : T_plunderref8_Op} (h : r.Code ≠ 0) (R : T_plunderref2_Arena) : plunderref8_Step K R r = some (r, R) := by
  unfold plunderref8_Step
  rw [if_neg h]
/-- How a step goes on behind its access: e the error; o1 what the access made of the op. -/
def tail_ (e : Int) (o1 : T_frames_Op) : T_frames_Op := if e = 0 then (if o1.head_stands > 0 then { o1 with head_stands := wi (o1.head_stands + (1 : Int)) } else o1) else { o1 with head_stands := 0, head_code := 1, head_v := 0 }
theorem tail_eq {γ : Type} (f : T_frames_Op → γ) (e : Int) (o1 : T_frames_Op) :
    (if e = (0 : Int) then (if o1.head_stands > (0 : Int) then some (f { o1 with head_stands := wi (o1.head_stands + (1 : Int)) }) else some (f o1)) else ob1 (frames_head_end o1 1 0) (fun S19 => some (f S19))) = some (f (tail_ e o1)) := by
  unfold tail_ frames_head_end
  by_cases h : e = 0
  · rw [if_pos h, if_pos h]
    by_cases h2 : o1.head_stands > 0
    · rw [if_pos h2, if_pos h2]
    · rw [if_neg h2, if_neg h2]
  · rw [if_neg h, if_neg h, ob1_some]
theorem sim_broken {o o1 : T_frames_Op} {r : T_plunderref8_Op} (h : Runs o r) {e : Int} (he : e ≠ 0) (hf : o1.head_t_Frames = o.head_t_Frames) : Sim (tail_ e o1) { r with Code := 1, Came := 0 } := by
  right; left
  unfold tail_
  rw [if_neg he]
  exact ⟨rfl, by show 1 ≤ o1.head_t_Frames; rw [hf]; exact h.fr, rfl, rfl, by show (1 : Int) ≠ 0; decide⟩
theorem sim_end {o : T_frames_Op} {r : T_plunderref8_Op} (h : Runs o r) (c v m : Int) (hc : c ≠ 0) : Sim (tail_ 0 { o with head_stands := 0, head_code := c, head_v := v }) { r with Made := m, Code := c, Came := v } := by
  right; left
  unfold tail_
  rw [if_pos rfl, if_neg (show ¬ (0 : Int) > 0 by decide)]
  exact ⟨rfl, h.fr, rfl, rfl, hc⟩
theorem sim_on {o : T_frames_Op} {r : T_plunderref8_Op} (h : Runs o r) (h2 : r.Kind = 2 ∧ r.Made ≤ 1 ∨ r.Kind = 3 ∧ r.Made = 0) : Sim (tail_ 0 o) { r with Made := wi (r.Made + (1 : Int)) } := by
  left
  unfold tail_
  have hs := h.stands
  have hm := h.made
  have w1 : wi (r.Made + (1 : Int)) = r.Made + 1 := wi_in (by omega)
  have w2 : wi (o.head_stands + (1 : Int)) = o.head_stands + 1 := wi_in (by omega)
  rw [if_pos rfl, if_pos (by omega), w1, w2]
  exact ⟨by show o.head_stands + 1 = r.Made + 1 + 1; omega, h.code, h.came, h.kind, h.k0, h.k5, h.fr, h.frames, h.next, h.join, h.cell, h.give, by show 0 ≤ r.Made + 1 ∧ r.Made + 1 ≤ 2; omega, fun e => by simp only at e ⊢; omega, fun e1 e2 => by simp only at e1 e2 ⊢; omega⟩
theorem step_sim {K : Nat} {A B : T_cells_Arena → T_plunderref2_Arena → Prop} (hM : Mem K A B) {S : T_cells_Arena} {R : T_plunderref2_Arena} (hA : A S R) {o : T_frames_Op} {r : T_plunderref8_Op} (h : Sim o r) :
    ∃ o' r' S' R', frames_Step_iface S o = some (o', S') ∧ plunderref8_Step K R r = some (r', R') ∧ Sim o' r' ∧ B S' R' := by
  rcases h with h | h | h
  case inr.inl => exact ⟨o, r, S, R, step_ended h.stands S, refstep_ended h.n0 R, .inr (.inl h), hM.id hA⟩
  case inr.inr =>
    obtain ⟨rfl, h1, h2⟩ := h
    exact ⟨o0, r, S, R, step_ended rfl S, refstep_ended (by rw [h1]; decide) R, .inr (.inr ⟨rfl, h1, h2⟩), hM.id hA⟩
  have hs := h.stands
  have hm := h.made
  have hk0 := h.k0
  have hk5 := h.k5
  have hj : frames_Table__join (⟨o.head_t_Base, o.head_t_Frames⟩ : T_frames_Table) o.head_frame = some (jn_ o.head_t_Base o.head_frame) := rfl
  unfold frames_Step_iface plunderref8_Step
  rw [if_neg (show ¬ o.head_stands = 0 by omega), if_pos h.code, h.kind]
  simp only [fun S10 S11 r9 => tail_eq (fun y => (y, (S11 : T_cells_Arena))) r9 S10]
  by_cases k0 : r.Kind = 0
  · obtain ⟨x, e, ok, S', R', a1, a2, a3⟩ := hM.add hA o.head_t_Base 1
    have w : plunderref8_Op__want r = some ⟨0, 3, o.head_t_Base, 1, 0⟩ := by
      unfold plunderref8_Op__want; rw [if_pos k0, h.next]
    rw [if_pos k0, w, ob1_some, a2, ob2_some]
    simp only [frames_Op_alloc_iface, frames_Table__next, ob1_some, a1, ob3_some]
    by_cases he : e = 0
    · subst he
      obtain ⟨g, hg, hg2⟩ : ∃ g, (if x ≥ (1 : Int) then some (decide (x ≤ o.head_t_Frames)) else some false) = some g ∧ (g = true ↔ (x ≥ 1 ∧ x ≤ o.head_t_Frames)) := by
        by_cases hx : x ≥ 1
        · rw [if_pos hx]; exact ⟨_, rfl, by simp [hx]⟩
        · rw [if_neg hx]; exact ⟨_, rfl, by simp [hx]⟩
      rw [if_pos rfl, if_pos rfl, hg, ob1_some]
      have hb : plunderref8_Op__behind r x = some { r with Made := wi (r.Made + (1 : Int)), Code := if g = true then 4 else 3, Came := if g = true then wi (x - (1 : Int)) else 0 } := by
        unfold plunderref8_Op__behind plunderref8_Op__ended
        rw [if_pos k0, h.frames]
        simp only [ob1_some]
        by_cases hx : x ≥ 1
        · rw [if_pos hx]
          by_cases hx2 : x ≤ o.head_t_Frames
          · rw [if_pos hx2, if_pos (hg2.2 ⟨hx, hx2⟩), if_pos (hg2.2 ⟨hx, hx2⟩)]
          · rw [if_neg hx2, if_neg (fun c => hx2 (hg2.1 c).2), if_neg (fun c => hx2 (hg2.1 c).2)]
        · rw [if_neg hx, if_neg (fun c => hx (hg2.1 c).1), if_neg (fun c => hx (hg2.1 c).1)]
      rw [hb, ob1_some]
      by_cases hgt : g = true
      · rw [if_pos hgt, if_pos hgt, if_pos hgt]
        simp only [frames_head_end, ob1_some, ob3_some]
        exact ⟨_, _, S', R', rfl, rfl, sim_end h 4 _ _ (by decide), a3⟩
      · rw [if_neg hgt, if_neg hgt, if_neg hgt]
        simp only [frames_head_end, ob1_some, ob3_some]
        exact ⟨_, _, S', R', rfl, rfl, sim_end h 3 _ _ (by decide), a3⟩
    · rw [if_neg he, if_neg he, ob3_some]
      simp only [plunderref8_Op__ended, ob1_some]
      exact ⟨_, _, S', R', rfl, rfl, sim_broken h he rfl, a3⟩
  rw [if_neg k0]
  by_cases k1 : r.Kind = 1
  · obtain ⟨x, e, ok, S', R', a1, a2, a3⟩ := hM.add hA (jn_ o.head_t_Base o.head_frame) 1
    have w : plunderref8_Op__want r = some ⟨0, 3, jn_ o.head_t_Base o.head_frame, 1, 0⟩ := by
      unfold plunderref8_Op__want; rw [if_neg k0, if_pos k1, h.join k0]
    rw [if_pos k1, w, ob1_some, a2, ob2_some]
    simp only [frames_Op_fork_iface, hj, ob1_some, a1, ob3_some]
    by_cases he : e = 0
    · subst he
      have hb : plunderref8_Op__behind r x = some { r with Made := wi (r.Made + (1 : Int)), Code := 9, Came := x } := by
        unfold plunderref8_Op__behind plunderref8_Op__ended
        rw [if_neg k0, if_pos k1]; rfl
      rw [if_pos rfl, if_pos rfl, hb, ob1_some]
      simp only [frames_head_end, ob1_some, ob3_some]
      exact ⟨_, _, S', R', rfl, rfl, sim_end h 9 _ _ (by decide), a3⟩
    · rw [if_neg he, if_neg he, ob3_some]
      simp only [plunderref8_Op__ended, ob1_some]
      exact ⟨_, _, S', R', rfl, rfl, sim_broken h he rfl, a3⟩
  rw [if_neg k1]
  have hless : ∀ c : Int, c ≠ 0 → ∃ x e ok S' R', frames_Op_less_iface o S c = some (e, (if e = 0 then (if x = 0 then o else { o with head_stands := 0, head_code := c, head_v := x }) else o), S') ∧ plunderref2_Arena_Do K R ⟨0, 3, jn_ o.head_t_Base o.head_frame, -1, 0⟩ = some (⟨x, ok, e⟩, R') ∧ B S' R' := by
    intro c hc
    obtain ⟨x, e, ok, S', R', a1, a2, a3⟩ := hM.add hA (jn_ o.head_t_Base o.head_frame) (-1)
    refine ⟨x, e, ok, S', R', ?_, a2, a3⟩
    simp only [frames_Op_less_iface, hj, ob1_some, a1, ob3_some, frames_head_end]
    by_cases he : e = 0
    · rw [if_pos he, if_pos he]
      by_cases hx : x = 0
      · rw [if_pos hx, if_pos hx]
      · rw [if_neg hx, if_neg hx]
    · rw [if_neg he, if_neg he]
  have hagain : ∀ c : Int, ∃ e ok S' R', frames_Op_again_iface o S c = some (e, (if e = 0 then { o with head_stands := 0, head_code := c, head_v := 0 } else o), S') ∧ plunderref2_Arena_Do K R ⟨0, 1, jn_ o.head_t_Base o.head_frame, 1, 0⟩ = some (⟨0, ok, e⟩, R') ∧ B S' R' := by
    intro c
    obtain ⟨e, ok, S', R', a1, a2, a3⟩ := hM.store hA (jn_ o.head_t_Base o.head_frame) 1
    refine ⟨e, ok, S', R', ?_, a2, a3⟩
    simp only [frames_Op_again_iface, hj, ob1_some, a1, ob2_some, frames_head_end]
    by_cases he : e = 0
    · rw [if_pos he, if_pos he]
    · rw [if_neg he, if_neg he]
  by_cases k2 : r.Kind = 2
  · rw [if_pos k2]
    simp only [frames_Op_finish_iface]
    by_cases m0 : r.Made = 0
    · obtain ⟨e, ok, S', R', a1, a2, a3⟩ := hM.store hA (sl_ o.head_t_Base o.head_frame o.slot) o.give
      have w : plunderref8_Op__want r = some ⟨0, 1, sl_ o.head_t_Base o.head_frame o.slot, o.give, 0⟩ := by
        unfold plunderref8_Op__want; rw [if_neg k0, if_neg k1, if_pos k2, if_pos m0, h.cell (.inl k2), h.give k2]
      rw [if_pos (show o.head_stands = 1 by omega), w, ob1_some, a2, ob2_some]
      simp only [frames_Table__slot, hj, ob1_some, a1, ob2_some, ob3_some]
      by_cases he : e = 0
      · subst he
        have hb : plunderref8_Op__behind r 0 = some { r with Made := wi (r.Made + (1 : Int)) } := by
          unfold plunderref8_Op__behind
          rw [if_neg k0, if_neg k1, if_pos k2, m0]; rfl
        rw [if_pos rfl, hb, ob1_some]
        exact ⟨_, _, S', R', rfl, rfl, sim_on h (.inl ⟨k2, by omega⟩), a3⟩
      · rw [if_neg he]
        simp only [plunderref8_Op__ended, ob1_some]
        exact ⟨_, _, S', R', rfl, rfl, sim_broken h he rfl, a3⟩
    rw [if_neg (show ¬ o.head_stands = 1 by omega)]
    by_cases m1 : r.Made = 1
    · obtain ⟨x, e, ok, S', R', a1, a2, a3⟩ := hless 10 (by decide)
      have w : plunderref8_Op__want r = some ⟨0, 3, jn_ o.head_t_Base o.head_frame, -1, 0⟩ := by
        unfold plunderref8_Op__want; rw [if_neg k0, if_neg k1, if_pos k2, if_neg m0, if_neg (show ¬ r.Made = 2 by omega), h.join k0]
      rw [if_pos (show o.head_stands = 2 by omega), w, ob1_some, a2, ob2_some, a1, ob3_some, ob3_some]
      simp only
      by_cases he : e = 0
      · subst he
        rw [if_pos rfl, if_pos rfl]
        have hb : plunderref8_Op__behind r x = some (if x = 0 then { r with Made := wi (r.Made + (1 : Int)) } else { r with Made := wi (r.Made + (1 : Int)), Code := 10, Came := x }) := by
          unfold plunderref8_Op__behind plunderref8_Op__ended
          rw [if_neg k0, if_neg k1, if_pos k2, m1, show wi ((1 : Int) + 1) = 2 from rfl, if_pos rfl]
          by_cases hx : x = 0
          · rw [if_pos hx, if_pos hx]; rfl
          · rw [if_neg hx, if_neg hx]; rfl
        rw [hb, ob1_some]
        by_cases hx : x = 0
        · rw [if_pos hx, if_pos hx]
          exact ⟨_, _, S', R', rfl, rfl, sim_on h (.inl ⟨k2, by omega⟩), a3⟩
        · rw [if_neg hx, if_neg hx]
          exact ⟨_, _, S', R', rfl, rfl, sim_end h 10 _ _ (by decide), a3⟩
      · rw [if_neg he, if_neg he]
        simp only [plunderref8_Op__ended, ob1_some]
        exact ⟨_, _, S', R', rfl, rfl, sim_broken h he rfl, a3⟩
    · obtain ⟨e, ok, S', R', a1, a2, a3⟩ := hagain 11
      have m2 : r.Made = 2 := by omega
      have w : plunderref8_Op__want r = some ⟨0, 1, jn_ o.head_t_Base o.head_frame, 1, 0⟩ := by
        unfold plunderref8_Op__want; rw [if_neg k0, if_neg k1, if_pos k2, if_neg m0, if_pos m2, h.join k0]
      rw [if_neg (show ¬ o.head_stands = 2 by omega), w, ob1_some, a2, ob2_some, a1, ob3_some, ob3_some]
      simp only
      by_cases he : e = 0
      · subst he
        have hb : plunderref8_Op__behind r 0 = some { r with Made := wi (r.Made + (1 : Int)), Code := 11, Came := 0 } := by
          unfold plunderref8_Op__behind plunderref8_Op__ended
          rw [if_neg k0, if_neg k1, if_pos k2, m2]; rfl
        rw [if_pos rfl, if_pos rfl, hb, ob1_some]
        exact ⟨_, _, S', R', rfl, rfl, sim_end h 11 _ _ (by decide), a3⟩
      · rw [if_neg he, if_neg he]
        simp only [plunderref8_Op__ended, ob1_some]
        exact ⟨_, _, S', R', rfl, rfl, sim_broken h he rfl, a3⟩
  rw [if_neg k2]
  by_cases k3 : r.Kind = 3
  · have hm3 := h.m2 k3
    rw [if_pos k3]
    simp only [frames_Op_sync_iface]
    by_cases m0 : r.Made = 0
    · obtain ⟨x, e, ok, S', R', a1, a2, a3⟩ := hless 12 (by decide)
      have w : plunderref8_Op__want r = some ⟨0, 3, jn_ o.head_t_Base o.head_frame, -1, 0⟩ := by
        unfold plunderref8_Op__want; rw [if_neg k0, if_neg k1, if_neg k2, if_pos k3, if_neg (show ¬ r.Made = 1 by omega), h.join k0]
      rw [if_pos (show o.head_stands = 1 by omega), w, ob1_some, a2, ob2_some, a1, ob3_some, ob3_some]
      simp only
      by_cases he : e = 0
      · subst he
        rw [if_pos rfl, if_pos rfl]
        have hb : plunderref8_Op__behind r x = some (if x = 0 then { r with Made := wi (r.Made + (1 : Int)) } else { r with Made := wi (r.Made + (1 : Int)), Code := 12, Came := x }) := by
          unfold plunderref8_Op__behind plunderref8_Op__ended
          rw [if_neg k0, if_neg k1, if_neg k2, if_pos k3, m0, show wi ((0 : Int) + 1) = 1 from rfl, if_pos rfl]
          by_cases hx : x = 0
          · rw [if_pos hx, if_pos hx]; rfl
          · rw [if_neg hx, if_neg hx]; rfl
        rw [hb, ob1_some]
        by_cases hx : x = 0
        · rw [if_pos hx, if_pos hx]
          exact ⟨_, _, S', R', rfl, rfl, sim_on h (.inr ⟨k3, m0⟩), a3⟩
        · rw [if_neg hx, if_neg hx]
          exact ⟨_, _, S', R', rfl, rfl, sim_end h 12 _ _ (by decide), a3⟩
      · rw [if_neg he, if_neg he]
        simp only [plunderref8_Op__ended, ob1_some]
        exact ⟨_, _, S', R', rfl, rfl, sim_broken h he rfl, a3⟩
    · obtain ⟨e, ok, S', R', a1, a2, a3⟩ := hagain 13
      have m1 : r.Made = 1 := by omega
      have w : plunderref8_Op__want r = some ⟨0, 1, jn_ o.head_t_Base o.head_frame, 1, 0⟩ := by
        unfold plunderref8_Op__want; rw [if_neg k0, if_neg k1, if_neg k2, if_pos k3, if_pos m1, h.join k0]
      rw [if_neg (show ¬ o.head_stands = 1 by omega), w, ob1_some, a2, ob2_some, a1, ob3_some, ob3_some]
      simp only
      by_cases he : e = 0
      · subst he
        have hb : plunderref8_Op__behind r 0 = some { r with Made := wi (r.Made + (1 : Int)), Code := 13, Came := 0 } := by
          unfold plunderref8_Op__behind plunderref8_Op__ended
          rw [if_neg k0, if_neg k1, if_neg k2, if_pos k3, m1]; rfl
        rw [if_pos rfl, if_pos rfl, hb, ob1_some]
        exact ⟨_, _, S', R', rfl, rfl, sim_end h 13 _ _ (by decide), a3⟩
      · rw [if_neg he, if_neg he]
        simp only [plunderref8_Op__ended, ob1_some]
        exact ⟨_, _, S', R', rfl, rfl, sim_broken h he rfl, a3⟩
  rw [if_neg k3]
  by_cases k4 : r.Kind = 4
  · obtain ⟨x, e, ok, S', R', a1, a2, a3⟩ := hM.add hA (wi (jn_ o.head_t_Base o.head_frame + (1 : Int))) 1
    have w : plunderref8_Op__want r = some ⟨0, 3, wi (jn_ o.head_t_Base o.head_frame + (1 : Int)), 1, 0⟩ := by
      unfold plunderref8_Op__want; rw [if_neg k0, if_neg k1, if_neg k2, if_neg k3, if_pos k4, h.join k0]
    rw [if_pos k4, w, ob1_some, a2, ob2_some]
    simp only [frames_Op_start_iface, frames_Table__mark, hj, ob1_some, a1, ob3_some]
    by_cases he : e = 0
    · subst he
      have hb : plunderref8_Op__behind r x = some { r with Made := wi (r.Made + (1 : Int)), Code := 14, Came := x } := by
        unfold plunderref8_Op__behind plunderref8_Op__ended
        rw [if_neg k0, if_neg k1, if_neg k2, if_neg k3, if_pos k4]; rfl
      rw [if_pos rfl, if_pos rfl, hb, ob1_some]
      simp only [frames_head_end, ob1_some, ob3_some]
      exact ⟨_, _, S', R', rfl, rfl, sim_end h 14 _ _ (by decide), a3⟩
    · rw [if_neg he, if_neg he, ob3_some]
      simp only [plunderref8_Op__ended, ob1_some]
      exact ⟨_, _, S', R', rfl, rfl, sim_broken h he rfl, a3⟩
  rw [if_neg k4]
  have k5 : r.Kind = 5 := by omega
  obtain ⟨x, e, ok, S', R', a1, a2, a3⟩ := hM.load hA (sl_ o.head_t_Base o.head_frame o.slot)
  have w : plunderref8_Op__want r = some ⟨0, 0, sl_ o.head_t_Base o.head_frame o.slot, 0, 0⟩ := by
    unfold plunderref8_Op__want; rw [if_neg k0, if_neg k1, if_neg k2, if_neg k3, if_neg k4, h.cell (.inr k5)]
  rw [w, ob1_some, a2, ob2_some]
  simp only [frames_Op_fetch_iface, frames_Table__slot, hj, ob1_some, a1, ob3_some]
  by_cases he : e = 0
  · subst he
    have hb : plunderref8_Op__behind r x = some { r with Made := wi (r.Made + (1 : Int)), Code := 15, Came := x } := by
      unfold plunderref8_Op__behind plunderref8_Op__ended
      rw [if_neg k0, if_neg k1, if_neg k2, if_neg k3, if_neg k4]; rfl
    rw [if_pos rfl, if_pos rfl, hb, ob1_some]
    simp only [frames_head_end, ob1_some, ob3_some]
    exact ⟨_, _, S', R', rfl, rfl, sim_end h 15 _ _ (by decide), a3⟩
  · rw [if_neg he, if_neg he, ob3_some]
    simp only [plunderref8_Op__ended, ob1_some]
    exact ⟨_, _, S', R', rfl, rfl, sim_broken h he rfl, a3⟩
/-! ### the loops -/
def Sims (l : List T_frames_Op) (l' : List T_plunderref8_Op) : Prop := l.length = l'.length ∧ ∀ q, q < l.length → Sim (at_ l q) (at_ l' q)
theorem at_app {α : Type} [Inhabited α] (l : List α) (x : α) : at_ (l ++ [x]) l.length = x := by
  unfold at_; rw [List.getD_eq_getElem?_getD, List.getElem?_append_right (Nat.le_refl _)]; simp
theorem at_app_ne {α : Type} [Inhabited α] {l : List α} (x : α) {q : Nat} (h : q < l.length) : at_ (l ++ [x]) q = at_ l q := by
  unfold at_; rw [List.getD_eq_getElem?_getD, List.getD_eq_getElem?_getD, List.getElem?_append_left h]
theorem Sims.app {l : List T_frames_Op} {l' : List T_plunderref8_Op} (h : Sims l l') {o : T_frames_Op} {r : T_plunderref8_Op} (hs : Sim o r) : Sims (l ++ [o]) (l' ++ [r]) := by
  refine ⟨by simp [h.1], fun q hq => ?_⟩
  rw [List.length_append, List.length_singleton] at hq
  by_cases e : q = l.length
  · subst e
    rw [at_app, h.1, at_app]; exact hs
  · rw [at_app_ne _ (by omega), at_app_ne _ (by have := h.1; omega)]; exact h.2 q (by omega)
theorem Sims.set {l : List T_frames_Op} {l' : List T_plunderref8_Op} (h : Sims l l') {o : T_frames_Op} {r : T_plunderref8_Op} (hs : Sim o r) (k : Nat) : Sims (l.set k o) (l'.set k r) := by
  refine ⟨by simp [h.1], fun q hq => ?_⟩
  rw [List.length_set] at hq
  by_cases e : q = k
  · subst e
    rw [at_set_same hq, at_set_same (by have := h.1; omega)]; exact hs
  · rw [at_set_ne (by omega), at_set_ne (by omega)]; exact h.2 q hq
theorem steps_l1 {K : Nat} {p2 : List T_plunderlaw8_Ask} (hp : p2.length ≤ 1048576) (b n : Int) : ∀ (d k i : Nat) (l : List T_frames_Op) (l' : List T_plunderref8_Op), i + d = p2.length → d < k → Sims l l' → l.length = i →
    ∃ l2 l2', plunderlaw8_FramesSteps_l1 K p2 ⟨b, n⟩ ⟨b, n⟩ k l l' (i : Int) = some (.inl (l2, l2')) ∧ Sims l2 l2' ∧ l2.length = p2.length
  | d, k, i, l, l', h, hk, hs, hl => by
    obtain ⟨k, rfl⟩ : ∃ m, k = m + 1 := ⟨k - 1, by omega⟩
    have hl' := hs.1
    rw [plunderlaw8_FramesSteps_l1]
    by_cases hi : i < p2.length
    · obtain ⟨d, rfl⟩ : ∃ m, d = m + 1 := ⟨d - 1, by omega⟩
      obtain ⟨o, r, e1, e2, e3⟩ := begin_sim b n (at_ p2 i)
      have q1 : at_ (l ++ [o]) i = o := by rw [← hl]; exact at_app l o
      have q2 : at_ (l' ++ [r]) i = r := by rw [← hl, hl']; exact at_app l' r
      rw [if_pos (by omega), if_pos ⟨by omega, by omega⟩, Int.toNat_natCast, e1, ob1_some, if_pos (by omega), e2, ob1_some, if_pos (by omega), if_pos ⟨by omega, by simp; omega⟩, if_pos ⟨by omega, by simp; omega⟩, q1, q2, answers_sim e3, ob1_some, if_pos rfl, wi1 (by omega) (by omega), show ((i : Int) + 1) = ((i + 1 : Nat) : Int) by omega]
      exact steps_l1 hp b n d k (i + 1) _ _ (by omega) (by omega) (hs.app e3) (by simp [hl])
    · rw [if_neg (by omega)]
      exact ⟨l, l', rfl, hs, by omega⟩
theorem steps_l2 {K c : Nat} {p3 : List Int} (hp : p3.length ≤ 1048576) (hc : c ≤ 10000) {l0 : List T_frames_Op} (hl0 : l0.length ≤ 1048576) : ∀ (d k i : Nat) (R : T_plunderref2_Arena) (S Sb : T_cells_Arena) (l : List T_frames_Op) (l' : List T_plunderref8_Op), i + d = p3.length → d < k → Same S R (c + i) → Bare Sb R → Sims l l' → l.length = l0.length →
    ∃ R' S' Sb', plunderlaw8_FramesSteps_l2 K p3 l0 k R S Sb l l' (i : Int) = some (.inl (R', S', Sb')) ∧ Same S' R' (c + p3.length) ∧ Bare Sb' R'
  | d, k, i, R, S, Sb, l, l', h, hk, hS, hB, hs, hl => by
    obtain ⟨k, rfl⟩ : ∃ m, k = m + 1 := ⟨k - 1, by omega⟩
    have hl' := hs.1
    rw [plunderlaw8_FramesSteps_l2]
    by_cases hi : i < p3.length
    · obtain ⟨d, rfl⟩ : ∃ m, d = m + 1 := ⟨d - 1, by omega⟩
      rw [if_pos (by omega)]
      by_cases h0 : 0 < l0.length
      · obtain ⟨q, q1, q2, q3⟩ := mod_ok (at_ p3 i) (m := (l0.length : Int)) (by omega) (by omega)
        obtain ⟨q, rfl⟩ : ∃ n : Nat, q = (n : Int) := ⟨q.toNat, by omega⟩
        have hS2 : Same { S with actor := (q : Int) } { R with Actor := (q : Int) } (c + i) := ⟨hS.size, hS.mark, hS.cell, hS.log, rfl, hS.on, hS.most, hS.held, hS.book⟩
        have hB2 : Bare Sb { R with Actor := (q : Int) } ∧ ({ R with Actor := (q : Int) } : T_plunderref2_Arena).Book.length ≤ c + i := ⟨⟨hB.mark, hB.cell, hB.off, hB.on, hB.held⟩, hS.book⟩
        have hsim := hs.2 q (by omega)
        obtain ⟨o', r', S', R', e1, e2, e3, e4⟩ := step_sim (mem_same (K := K) (n := c + i) (by omega)) hS2 hsim
        obtain ⟨o2, r2, Sb', R2, f1, f2, f3, f4⟩ := step_sim (mem_bare (K := K) (n := c + i) (by omega)) hB2 hsim
        rw [e2] at f2
        simp only [Option.some.injEq, Prod.mk.injEq] at f2
        obtain ⟨rfl, rfl⟩ := f2
        rw [if_pos (by omega), if_pos ⟨by omega, by omega⟩, Int.toNat_natCast, q1, ob1_some, cells_Arena_Who, ob1_some, if_pos ⟨by omega, by omega⟩, if_pos ⟨by omega, by omega⟩, Int.toNat_natCast, e1, ob2_some, f1, ob2_some, e2, ob2_some,
          if_pos ⟨by omega, by rw [List.length_set]; omega⟩, if_pos ⟨by omega, by rw [List.length_set]; omega⟩, answers_sim e3, ob1_some, if_pos rfl, answers_sim f3, ob1_some, if_pos rfl, answers_sim hsim, ob1_some, if_pos rfl, wi1 (by omega) (by omega), show ((i : Int) + 1) = ((i + 1 : Nat) : Int) by omega]
        exact steps_l2 hp hc hl0 d k (i + 1) _ _ _ _ _ (by omega) (by omega) e4 f4.1 (hs.set e3 q) (by rw [List.length_set]; exact hl)
      · rw [if_neg (by omega)]
        exact ⟨R, S, Sb, rfl, hS.up (by omega), hB⟩
    · rw [if_neg (by omega)]
      exact ⟨R, S, Sb, rfl, hS.up (by omega), hB⟩
/-! ### nobody begins to watch -/
theorem note_off {S S' : T_cells_Arena} {k i x y : Int} {ok : Bool} (h : cells_Arena_note S k i x y ok = some S') : S'.watched = S.watched := by
  unfold cells_Arena_note at h
  by_cases c : S.watched = true
  · have h := gd (ifT c h)
    have h2 := sinj h.2
    rw [← h2]
  · have h2 := sinj (ifF c h)
    rw [← h2]
theorem store_off {S S' : T_cells_Arena} {i v e : Int} (h : cells_Arena_Store S i v = some (e, S')) : S'.watched = S.watched := by
  unfold cells_Arena_Store at h
  obtain ⟨r, e1, h⟩ := bd1 h
  by_cases c : r = true
  · have h := ej2 (ifT c h); rw [← h.2]
  · obtain ⟨_, h⟩ := gd (ifF c h)
    obtain ⟨S2, e2, h⟩ := bd1 h
    rw [← (ej2 h).2, note_off e2]
theorem reserve_off {S S' : T_cells_Arena} {c x e : Int} (h : cells_Arena_Reserve S c = some (x, e, S')) : S'.watched = S.watched := by
  unfold cells_Arena_Reserve at h
  obtain ⟨_, h⟩ := bd0 h
  obtain ⟨r, e1, h⟩ := bd1 h
  by_cases c : r = 0
  · obtain ⟨r10, S11, e2, h⟩ := bd2 (ifT c h)
    obtain ⟨_, h⟩ := gd h
    obtain ⟨S20, e3, h⟩ := bd1 h
    unfold cells_ledger_take at e2
    rw [← (ej3 h).2.2, note_off e3]
    rw [← (ej2 e2).2]
  · have h := ej3 (ifF c h); rw [← h.2.2]
theorem new_l_off {K : Nat} {p r : Int} : ∀ (k : Nat) (S : T_cells_Arena) (g : Int) {t : T_frames_Table} {e : Int} {S' : T_cells_Arena}, frames_New_iface_l1 K p r k S g = some (t, e, S') → S'.watched = S.watched
  | 0, S, g, t, e, S', h => by rw [frames_New_iface_l1] at h; cases h
  | k + 1, S, g, t, e, S', h => by
    rw [frames_New_iface_l1] at h
    by_cases c : g < p
    · obtain ⟨q, _, h⟩ := bd1 (ifT c h)
      obtain ⟨x, S1, e1, h⟩ := bd2 h
      by_cases c2 : x = 0
      · rw [new_l_off k S1 _ (ifT c2 h), store_off e1]
      · have h := ej3 (ifF c2 h); rw [← h.2.2, store_off e1]
    · have h := ej3 (ifF c h); rw [← h.2.2]
theorem new_off {K : Nat} {S S' : T_cells_Arena} {p e : Int} {t : T_frames_Table} (h : frames_New_iface K S p = some (t, e, S')) : S'.watched = S.watched := by
  unfold frames_New_iface at h
  obtain ⟨r, _, h⟩ := bd1 h
  by_cases c : r = 0
  · have h := ej3 (ifT c h); rw [← h.2.2]
  · obtain ⟨r9, _, h⟩ := bd1 (ifF c h)
    obtain ⟨a, b, S1, e1, h⟩ := bd3 h
    by_cases c2 : b = 0
    · rw [new_l_off K S1 _ (ifT c2 h), reserve_off e1]
    · have h := ej3 (ifF c2 h); rw [← h.2.2, reserve_off e1]
theorem new_ok_both {K : Nat} (hK : 4000000 < K) {S : T_cells_Arena} {R : T_plunderref2_Arena} {n : Nat} (hs : Same S R n) (hn : n ≤ 100000) (p : Int) (hp1 : 1 ≤ p) (hp6 : p ≤ 4096) (hroom : 1 + p * 10 ≤ R.Most - (R.Held.length : Int)) :
    ∃ S' R', frames_New_iface K S p = some (⟨(R.Held.length : Int), p⟩, 0, S') ∧ plunderref8_New K R p = some (⟨(R.Held.length : Int), p⟩, 0, R') ∧ Same S' R' (n + 4097) := by
  unfold frames_New_iface plunderref8_New
  have hmost := hs.most
  have hheld := hs.held
  rcases fcells p with ⟨a1, a2⟩ | ⟨h1, h2, a1, a2⟩
  · exfalso
    unfold frames_Cells at a1
    rw [if_neg (by omega), if_neg (by omega), wi_in (x := p * 10) (by omega), wi_in (x := 1 + p * 10) (by omega)] at a1
    have := Option.some.inj a1
    omega
  · rw [a1, a2, ob1_some, if_neg (by omega), ob1_some, ob1_some, if_neg (by omega)]
    rcases reserve_same hK hs (by omega) (1 + p * 10) 0 0 0 (by omega) with ⟨S', R', e1, e2, e3, e4, e5, e6⟩ | ⟨e1, e2, e3⟩
    · rw [e1, e2, ob3_some, ob2_some, if_pos rfl, if_pos rfl]
      have hl : R'.Held.length = R.Held.length + (1 + p * 10).toNat := by rw [e4]; simp
      have hm2 := e3.held
      have hm3 := e3.most
      obtain ⟨S2, R2, f1, f2, f3⟩ := lay_both (K := K) (p := p) (base := (R.Held.length : Int)) (hl := R'.Held.length) (r := ⟨(R.Held.length : Int), true, 0⟩) (by omega) h2 (by omega) (by omega) rfl p.toNat K 0 S' R' (n + 1) (by omega) (by omega) e3 (by omega) rfl
      simp only [Int.natCast_zero] at f1 f2
      rw [f1, f2, ob1_some]
      exact ⟨S2, R2, rfl, rfl, f3.up (by omega)⟩
    · exact absurd hroom e3
theorem rlog2_l {K : Nat} {R : T_plunderref2_Arena} (hh : R.Book.length ≤ 2097152) : ∀ (d k i : Nat) (l : List T_api_Access), i + d = R.Book.length → d < k → l.length = i → plunderref2_Arena_Log_l1 K R k l (i : Int) = some (l ++ R.Book.drop i)
  | d, k, i, l, h, hk, hl => by
    obtain ⟨k, rfl⟩ : ∃ m, k = m + 1 := ⟨k - 1, by omega⟩
    rw [plunderref2_Arena_Log_l1]
    by_cases hi : i < R.Book.length
    · obtain ⟨d, rfl⟩ : ∃ m, d = m + 1 := ⟨d - 1, by omega⟩
      rw [if_pos (by omega), if_pos ⟨by omega, by omega⟩, if_pos (by omega), Int.toNat_natCast, wi1 (by omega) (by omega), show ((i : Int) + 1) = ((i + 1 : Nat) : Int) by omega, rlog2_l hh d k (i + 1) _ (by omega) (by omega) (by simp; omega), drop_cons hi, List.append_assoc]
      rfl
    · rw [if_neg (by omega), List.drop_of_length_le (by omega), List.append_nil]
theorem ahead_both {K : Nat} (hK : 4000000 < K) {S Sb : T_cells_Arena} {R : T_plunderref2_Arena} (hS : Same S R 0) (hB : Same Sb R 0) (c : Int) (h0 : 0 ≤ c) (hc : c ≤ R.Most - (R.Held.length : Int)) :
    ∃ R' S' Sb', (if c > (0 : Int) then ob2 (plunderref2_Arena_Do K R (⟨0, 4, 0, c, 0⟩ : T_api_Act)) (fun r55 S56 => ob3 (cells_Arena_Reserve S c) (fun r62 r63 S64 => ob3 (cells_Arena_Reserve Sb c) (fun r70 r71 S72 => some (S56, S64, S72)))) else some (R, S, Sb)) = some (R', S', Sb') ∧ Same S' R' 1 ∧ Same Sb' R' 1 ∧ R'.Most = R.Most ∧ (R'.Held.length : Int) = R.Held.length + c ∧ Sb'.watched = Sb.watched := by
  by_cases h : c > 0
  · rw [if_pos h]
    rcases reserve_same hK hS (by decide) c 0 0 0 (by omega) with ⟨S', R', e1, e2, e3, e4, e5, e6⟩ | ⟨e1, e2, e3⟩
    · rcases reserve_same hK hB (by decide) c 0 0 0 (by omega) with ⟨Sb', R2, f1, f2, f3, f4, f5, f6⟩ | ⟨f1, f2, f3⟩
      · rw [e2] at f2
        simp only [Option.some.injEq, Prod.mk.injEq, true_and] at f2
        subst f2
        rw [e2, e1, f1, ob2_some, ob3_some, ob3_some]
        exact ⟨R', S', Sb', rfl, e3, f3, e5, by rw [e4]; simp; omega, reserve_off f1⟩
      · exact absurd hc f3
    · exact absurd hc e3
  · rw [if_neg h]
    exact ⟨R, S, Sb, rfl, hS.up (by omega), hB.up (by omega), rfl, by omega, rfl⟩
theorem fsteps_true {K : Nat} (hK : 4000000 < K) (p0 p1 : Int) {p2 : List T_plunderlaw8_Ask} {p3 : List Int} (h2 : p2.length ≤ 1048576) (h3 : p3.length ≤ 1048576) : plunderlaw8_FramesSteps K p0 p1 p2 p3 = some true := by
  unfold plunderlaw8_FramesSteps
  obtain ⟨r1, a1, a2, a3⟩ := mod_ok p0 (m := 8) (by decide) (by decide)
  obtain ⟨r3, b1, b2, b3⟩ := mod_ok p1 (m := 6) (by decide) (by decide)
  have w1 : wi ((1 : Int) + r3) = 1 + r3 := wi_in (by omega)
  have hcell : plunderref8_Cells (1 + r3) = some (1 + (1 + r3) * 10) := by
    unfold plunderref8_Cells
    rw [if_neg (by omega), if_neg (by omega), wi_in (x := (1 + r3) * 10) (by omega), wi_in (by omega)]
  have w2 : wi (r1 + (1 + (1 + r3) * 10)) = r1 + (1 + (1 + r3) * 10) := wi_in (by omega)
  rw [a1, ob1_some, b1, ob1_some, w1, hcell, ob1_some, w2]
  have hR : plunderref2_New (r1 + (1 + (1 + r3) * 10)) = some (⟨r1 + (1 + (1 + r3) * 10), [], false, 0, []⟩, 0) := by
    unfold plunderref2_New
    rw [if_neg (by omega), if_neg (by omega)]
  have hN : cells_New (r1 + (1 + (1 + r3) * 10)) = some (some ⟨r1 + (1 + (1 + r3) * 10), 0, [], [], 0, false⟩, 0) := by
    unfold cells_New cells_good
    rw [if_pos (by omega), ob1_some, if_pos (decide_eq_true (by omega))]
  have hS : Same (⟨r1 + (1 + (1 + r3) * 10), 0, [], [], 0, false⟩ : T_cells_Arena) (⟨r1 + (1 + (1 + r3) * 10), [], false, 0, []⟩ : T_plunderref2_Arena) 0 := ⟨rfl, rfl, rfl, rfl, rfl, rfl, by show r1 + (1 + (1 + r3) * 10) ≤ 1048576; omega, by show ((0 : Nat) : Int) ≤ r1 + (1 + (1 + r3) * 10); omega, Nat.le_refl _⟩
  rw [hR, ob2_some, hN, ob2_some]
  simp only [ob2_some, reduceIte, jn0_inl]
  obtain ⟨R1, S1, Sb1, c1, c2, c3, c4, c5, c6⟩ := ahead_both hK hS hS r1 (by omega) (by show r1 ≤ r1 + (1 + (1 + r3) * 10) - ((0 : Nat) : Int); omega)
  rw [c1, ob3_some]
  have c5' : (R1.Held.length : Int) = r1 := by rw [c5]; show ((0 : Nat) : Int) + r1 = r1; omega
  have c4' : R1.Most = r1 + (1 + (1 + r3) * 10) := c4
  obtain ⟨S2, R2, d1, d2, d3⟩ := new_ok_both hK c2 (by decide) (1 + r3) (by omega) (by omega) (by omega)
  obtain ⟨Sb2, R2', f1, f2, f3⟩ := new_ok_both hK c3 (by decide) (1 + r3) (by omega) (by omega) (by omega)
  rw [d2] at f2
  simp only [Option.some.injEq, Prod.mk.injEq, true_and] at f2
  subst f2
  rw [d2, d1, f1, ob3_some, ob3_some, ob3_some]
  simp only [reduceIte, jn0_inl, cells_Arena_Watch, ob1_some]
  obtain ⟨l, l', g1, g2, g3⟩ := steps_l1 (K := K) h2 (R1.Held.length : Int) (1 + r3) p2.length K 0 [] [] (by omega) (by omega) ⟨rfl, fun q hq => by simp at hq⟩ rfl
  have hS3 : Same { S2 with watched := true } { R2 with On := true } (4098 + 0) := ⟨d3.size, d3.mark, d3.cell, d3.log, d3.actor, rfl, d3.most, d3.held, by show R2.Book.length ≤ _; have := d3.book; omega⟩
  have hoff : Sb2.watched = false := by rw [new_off f1, c6]
  have hB3 : Bare Sb2 { R2 with On := true } := ⟨f3.mark, f3.cell, hoff, rfl, by have := f3.held; have := f3.most; show R2.Held.length ≤ 1048576; omega⟩
  obtain ⟨R4, S4, Sb4, k1, k2, k3⟩ := steps_l2 (K := K) (c := 4098) h3 (by decide) (l0 := l) (by omega) p3.length K 0 _ _ _ _ _ (by omega) (by omega) hS3 hB3 g2 rfl
  simp only [Int.natCast_zero] at g1 k1
  rw [g1, jn2_inl, k1, jn3_inl]
  have hheld := k2.held
  have hmost := k2.most
  have hbook := k2.book
  have e1 := rcells_l (K := K) (R := R4) (by omega) R4.Held.length K 0 [] (by omega) (by omega) rfl
  have e2 := rlog2_l (K := K) (R := R4) (by omega) R4.Book.length K 0 [] (by omega) (by omega) rfl
  simp only [Int.natCast_zero, List.drop_zero, List.nil_append] at e1 e2
  rw [log_eq (S := S4) (by rw [k2.log]; omega), ob1_some, plunderref2_Arena_Log, e2, ob1_some, k2.log, sameLog_eq (by omega) (by omega), ob1_some, if_pos (by simp), cells_eq (S := S4) (by rw [k2.cell]; omega), ob1_some, plunderref2_Arena_Cells, e1, ob1_some, k2.cell, sameNumbers_eq (by omega) (by omega), ob1_some, if_pos (by simp), cells_eq (S := Sb4) (by rw [k3.cell]; omega), ob1_some, ob1_some, k3.cell, sameNumbers_eq (by omega) (by omega), ob1_some]
  simp
end Go.Proofs.Ytnghahgfcaolbaa.Mo
