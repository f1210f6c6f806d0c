/- Each step of the program's play is the machine's. -/
import Derived.Test.YtnghahgfcaolbaaFpStepP
namespace Go.Proofs.Ytnghahgfcaolbaa.Mo
open Go Go.Proofs.Ytnghahgfcaolbaa.SL Go.Proofs.Ytnghahgfcaolbaa.GX
set_option linter.unusedVariables false
set_option linter.unusedSimpArgs false
section
variable {F : Nat} {J : T_frames_join} {A : T_cells_Arena} {q : List Int} {a : T_frames_actor}
theorem bg_alloc (hb : J.table_Base = 0) (hf : J.table_Frames = (F : Int)) (hF : 1 ≤ F ∧ F ≤ 4096) (h : a.about = 0 ∨ a.about = 2) : frames_join_begin J A q a = some ⟨0, (F : Int), 0, 1, 0, 0, 0, 0, 0⟩ := by
  unfold frames_join_begin frames_Alloc
  rw [hb, hf, op_begin 0 (F := (F : Int)) (by omega) (by omega) (by decide)]
  rcases h with h | h
  · rw [if_pos h, ob1_some, if_pos (by simp [h]), ob1_some, ob1_some, jn0_inr]
  · rw [if_neg (by omega), ob1_some, if_pos (by simp [h]), ob1_some, ob1_some, jn0_inr]
theorem bg_start (hb : J.table_Base = 0) (hf : J.table_Frames = (F : Int)) (hF : 1 ≤ F ∧ F ≤ 4096) {fr : Nat} (hfr : fr < F) (h : a.about = 1) (hf2 : a.frame = (fr : Int)) : frames_join_begin J A q a = some ⟨0, (F : Int), (fr : Int), 1, 0, 0, 4, 0, 0⟩ := by
  unfold frames_join_begin frames_Start
  rw [if_neg (by omega), ob1_some, if_neg (by simp [h]), if_pos h, hb, hf, hf2, op_begin 4 (F := (F : Int)) (by omega) (by omega) (by decide), ob1_some, ob1_some, jn0_inr]
theorem bg_fork (hb : J.table_Base = 0) (hf : J.table_Frames = (F : Int)) (hF : 1 ≤ F ∧ F ≤ 4096) (h : a.about = 3) : frames_join_begin J A q a = some ⟨0, (F : Int), 0, 1, 0, 0, 1, 0, 0⟩ := by
  unfold frames_join_begin frames_Fork
  rw [if_neg (by omega), ob1_some, if_neg (by simp [h]), if_neg (by omega), if_pos h, hb, hf, op_begin 1 (F := (F : Int)) (by omega) (by omega) (by decide), ob1_some, ob1_some, jn0_inr]
theorem bg_sync (hb : J.table_Base = 0) (hf : J.table_Frames = (F : Int)) (hF : 1 ≤ F ∧ F ≤ 4096) (h : a.about = 4) : frames_join_begin J A q a = some ⟨0, (F : Int), 0, 1, 0, 0, 3, 0, 0⟩ := by
  unfold frames_join_begin frames_Sync
  rw [if_neg (by omega), ob1_some, if_neg (by simp [h]), if_neg (by omega), if_neg (by omega), if_pos h, hb, hf, op_begin 3 (F := (F : Int)) (by omega) (by omega) (by decide), ob1_some, ob1_some, jn0_inr]
theorem bg_finish (hb : J.table_Base = 0) (hf : J.table_Frames = (F : Int)) (hF : 1 ≤ F ∧ F ≤ 4096) {k : Nat} (hk : k < 8) {v : Int} (h : a.about = 5) (hs : a.slot = (k : Int)) (hv : a.value = v) : frames_join_begin J A q a = some ⟨0, (F : Int), 0, 1, 0, 0, 2, (k : Int), v⟩ := by
  unfold frames_join_begin frames_Finish
  rw [if_neg (by omega), ob1_some, if_neg (by simp [h]), if_neg (by omega), if_neg (by omega), if_neg (by omega), if_pos h, hb, hf, hs, hv, op_begin 2 (F := (F : Int)) (by omega) (by omega) (by omega), ob1_some, ob1_some, jn0_inr]
theorem bg_fetch (hb : J.table_Base = 0) (hf : J.table_Frames = (F : Int)) (hF : 1 ≤ F ∧ F ≤ 4096) {k : Nat} (hk : k < 8) (h : a.about = 6) (hs : a.at_ = (k : Int)) : frames_join_begin J A q a = some ⟨0, (F : Int), 0, 1, 0, 0, 5, (k : Int), 0⟩ := by
  unfold frames_join_begin frames_Fetch
  rw [if_neg (by omega), ob1_some, if_neg (by simp [h]), if_neg (by omega), if_neg (by omega), if_neg (by omega), if_neg (by omega), jn0_inl, hb, hf, hs, op_begin 5 (F := (F : Int)) (by omega) (by omega) (by omega), ob1_some, ob1_some]
end
set_option maxHeartbeats 1000000 in
theorem sim_alloc0 {q : List Int} {F : Nat} {J : T_frames_join} {A : T_cells_Arena} {s : PM} {p : Nat} (h : Sm F J A s) (hd : s.done = false) (hp : p < s.live.length) (ok : Ok q F s p) (hs : (at_ s.live p).2 = .alloc0) :
    ∃ J' A', frames_join_step J A q (p : Int) = some (J', A') ∧ Sm F J' A' (s.step q p) := by
  obtain ⟨sz, c, w0, rfl, hc⟩ := h.arena
  obtain ⟨hn, hb⟩ := h.live hd p hp
  have hpj : p < J.live.length := by rw [h.len]; exact hp
  have hlog := ok.log
  have hF1 := hc.F1
  have hF4 := ok.F4
  have hclen := hc.len
  have hj := ok.join
  have hlv := ok.live
  have okb := ok.b
  have hjl := h.len
  rw [hs] at hb okb
  obtain ⟨b1, b2, b3, b4⟩ := hb
  have hst : s.step q p = (({ s with taken := s.taken + 1 } : PM).note (at_ s.live p).1 3 0 1 ((s.taken : Int) + 1)).setb p .mark0 := by simp only [PM.step, hs]
  have e1 := st_alloc (sz := sz) (c := c) (lg := s.log) (w := (at_ J.live p).number) (F := (F : Int)) hlog (t := (s.taken : Int)) (by omega) hc.c0 (by omega) (by simp only at okb; omega) (by omega)
  rw [step_of (A := AW sz c s.log w0) (q := q) hpj (.inr ⟨b4, bg_alloc h.base h.frames ⟨hF1, hF4⟩ (.inl b1)⟩) e1 (op_ans0 (by omega)), if_neg (by decide)]
  unfold frames_join_next
  rw [if_pos (show (wop (at_ J.live p) _ false).about = 0 from b1), ob3_some, if_pos rfl, hst]
  exact ⟨_, _, rfl, (h.out hd hp (s' := ({ s with taken := s.taken + 1 } : PM).note (at_ s.live p).1 3 0 1 ((s.taken : Int) + 1)) ⟨rfl, rfl, rfl, rfl, rfl, rfl, rfl⟩ ⟨sz, c.set 0 ((s.taken : Int) + 1), (at_ J.live p).number, by first | (rw [hn]; done) | (rw [hn]; rfl), hc.taken _⟩).fin hn ⟨rfl, b2, b3, rfl⟩⟩
set_option maxHeartbeats 1000000 in
theorem sim_mark0 {q : List Int} {F : Nat} {J : T_frames_join} {A : T_cells_Arena} {s : PM} {p : Nat} (h : Sm F J A s) (hd : s.done = false) (hp : p < s.live.length) (ok : Ok q F s p) (hs : (at_ s.live p).2 = .mark0) :
    ∃ J' A', frames_join_step J A q (p : Int) = some (J', A') ∧ Sm F J' A' (s.step q p) := by
  obtain ⟨sz, c, w0, rfl, hc⟩ := h.arena
  obtain ⟨hn, hb⟩ := h.live hd p hp
  have hpj : p < J.live.length := by rw [h.len]; exact hp
  have hlog := ok.log
  have hF1 := hc.F1
  have hF4 := ok.F4
  have hclen := hc.len
  have hj := ok.join
  have hlv := ok.live
  have okb := ok.b
  have hjl := h.len
  rw [hs] at hb okb
  obtain ⟨b1, b2, b3, b4⟩ := hb
  obtain ⟨o1, o2⟩ := okb
  have hst : s.step q p = (({ s with marks := s.marks.set 0 (at_ s.marks 0 + 1) } : PM).note (at_ s.live p).1 3 2 1 (at_ s.marks 0 + 1)).enter q p := by simp only [PM.step, hs]
  have e1 := st_start (sz := sz) (c := c) (lg := s.log) (w := (at_ J.live p).number) (F := (F : Int)) hlog (f := 0) (m := at_ s.marks 0) (by omega) (by omega) (hc.mks 0 hF1) o1.1 o1.2
  rw [step_of (A := AW sz c s.log w0) (q := q) hpj (.inr ⟨b4, bg_start h.base h.frames ⟨hF1, hF4⟩ (fr := 0) (by omega) b1 b3⟩) e1 (op_ans0 (by omega)), if_neg (by decide)]
  have hx := h.out hd hp (A' := AW sz (c.set (2 + 10 * 0) (at_ s.marks 0 + 1)) (s.log ++ [⟨(at_ J.live p).number, 3, 2 + 10 * ((0 : Nat) : Int), 1, at_ s.marks 0 + 1, true⟩]) (at_ J.live p).number) (s' := ({ s with marks := s.marks.set 0 (at_ s.marks 0 + 1) } : PM).note (at_ s.live p).1 3 2 1 (at_ s.marks 0 + 1)) ⟨rfl, rfl, rfl, rfl, rfl, rfl, rfl⟩ ⟨sz, c.set (2 + 10 * 0) (at_ s.marks 0 + 1), (at_ J.live p).number, by first | (rw [hn]; done) | (rw [hn]; rfl), hc.mark 0 (by omega) _⟩
  unfold frames_join_next
  rw [if_neg (show ¬ (wop (at_ J.live p) _ false).about = 0 by show ¬ (at_ J.live p).about = 0; omega), if_pos (show (wop (at_ J.live p) _ false).about = 1 from b1), if_neg (show ¬ (wop (at_ J.live p) _ false).child = true by show ¬ (at_ J.live p).child = true; rw [b2]; decide)]
  obtain ⟨J2, a2, f1, f2⟩ := hx.enter (q := q) o2 ok.q64 ok.rd (a := wop (at_ J.live p) ⟨0, (F : Int), ((0 : Nat) : Int), 0, 14, at_ s.marks 0 + 1, 4, 0, 0⟩ false) hn rfl
  rw [f1, ob2_some, ob3_some, if_pos rfl, hst]
  exact ⟨_, _, rfl, f2⟩
set_option maxHeartbeats 1000000 in
theorem sim_alloc {q : List Int} {F : Nat} {J : T_frames_join} {A : T_cells_Arena} {s : PM} {p : Nat} (h : Sm F J A s) (hd : s.done = false) (hp : p < s.live.length) (ok : Ok q F s p) (hs : (at_ s.live p).2 = .alloc) :
    ∃ J' A', frames_join_step J A q (p : Int) = some (J', A') ∧ Sm F J' A' (s.step q p) := by
  obtain ⟨sz, c, w0, rfl, hc⟩ := h.arena
  obtain ⟨hn, hb⟩ := h.live hd p hp
  have hpj : p < J.live.length := by rw [h.len]; exact hp
  have hlog := ok.log
  have hF1 := hc.F1
  have hF4 := ok.F4
  have hclen := hc.len
  have hj := ok.join
  have hlv := ok.live
  have okb := ok.b
  have hjl := h.len
  rw [hs] at hb okb
  obtain ⟨b1, b2, b3⟩ := hb
  have hst : s.step q p = (({ s with taken := s.taken + 1 } : PM).note (at_ s.live p).1 3 0 1 ((s.taken : Int) + 1)).setb p (.fork s.taken) := by simp only [PM.step, hs]
  have e1 := st_alloc (sz := sz) (c := c) (lg := s.log) (w := (at_ J.live p).number) (F := (F : Int)) hlog (t := (s.taken : Int)) (by omega) hc.c0 (by omega) (by simp only at okb; omega) (by omega)
  rw [step_of (A := AW sz c s.log w0) (q := q) hpj (.inr ⟨b2, bg_alloc h.base h.frames ⟨hF1, hF4⟩ (.inr b1)⟩) e1 (op_ans0 (by omega)), if_neg (by decide)]
  unfold frames_join_next
  rw [if_neg (show ¬ (wop (at_ J.live p) _ false).about = 0 by show ¬ (at_ J.live p).about = 0; omega), if_neg (show ¬ (wop (at_ J.live p) _ false).about = 1 by show ¬ (at_ J.live p).about = 1; omega), if_pos (show (wop (at_ J.live p) _ false).about = 2 from b1), ob3_some, if_pos rfl, hst]
  exact ⟨_, _, rfl, (h.out hd hp (s' := ({ s with taken := s.taken + 1 } : PM).note (at_ s.live p).1 3 0 1 ((s.taken : Int) + 1)) ⟨rfl, rfl, rfl, rfl, rfl, rfl, rfl⟩ ⟨sz, c.set 0 ((s.taken : Int) + 1), (at_ J.live p).number, by first | (rw [hn]; done) | (rw [hn]; rfl), hc.taken _⟩).fin hn ⟨rfl, rfl, rfl, b3⟩⟩
set_option maxHeartbeats 1000000 in
theorem sim_fork {q : List Int} {F : Nat} {J : T_frames_join} {A : T_cells_Arena} {s : PM} {p : Nat} {fr : Nat} (h : Sm F J A s) (hd : s.done = false) (hp : p < s.live.length) (ok : Ok q F s p) (hs : (at_ s.live p).2 = .fork fr) :
    ∃ J' A', frames_join_step J A q (p : Int) = some (J', A') ∧ Sm F J' A' (s.step q p) := by
  obtain ⟨sz, c, w0, rfl, hc⟩ := h.arena
  obtain ⟨hn, hb⟩ := h.live hd p hp
  have hpj : p < J.live.length := by rw [h.len]; exact hp
  have hlog := ok.log
  have hF1 := hc.F1
  have hF4 := ok.F4
  have hclen := hc.len
  have hj := ok.join
  have hlv := ok.live
  have okb := ok.b
  have hjl := h.len
  rw [hs] at hb okb
  obtain ⟨b1, b2, b3, b4⟩ := hb
  obtain ⟨o1, o2, o3⟩ := okb
  have hst : s.step q p = ({ s with join := s.join + 1, live := s.live ++ [((s.made : Int), .start fr s.pos (100 * (s.rd : Int) + s.pos))], made := s.made + 1, pos := s.pos + 1, log := s.log ++ [⟨(at_ s.live p).1, 3, 1, 1, s.join + 1, true⟩] } : PM).setb p (if at_ q s.rd ≤ (s.pos : Int) + 1 then .sync else .alloc) := by simp only [PM.step, hs]
  have e1 := st_fork (sz := sz) (c := c) (lg := s.log) (w := (at_ J.live p).number) (F := (F : Int)) hlog (j := s.join) (by omega) hc.c1 hj.1 hj.2
  rw [step_of (A := AW sz c s.log w0) (q := q) hpj (.inr ⟨b2, bg_fork h.base h.frames ⟨hF1, hF4⟩ b1⟩) e1 (op_ans0 (by omega)), if_neg (by decide)]
  unfold frames_join_next
  have hmade := ok.made
  have hrd := ok.rd
  have hq64 := ok.q64
  rw [if_neg (show ¬ (wop (at_ J.live p) _ false).about = 0 by show ¬ (at_ J.live p).about = 0; omega), if_neg (show ¬ (wop (at_ J.live p) _ false).about = 1 by show ¬ (at_ J.live p).about = 1; omega), if_neg (show ¬ (wop (at_ J.live p) _ false).about = 2 by show ¬ (at_ J.live p).about = 2; omega), if_pos (show (wop (at_ J.live p) _ false).about = 3 from b1)]
  unfold frames_join_join_join frames_join_fork
  rw [if_pos (by omega), ob1_some]
  simp only [wop, b3, b4, h.round, h.made]
  rw [if_pos ⟨by omega, by omega⟩, Int.toNat_natCast, wi_in (x := (100 : Int) * (s.rd : Int)) (by omega), wi_in (x := (100 : Int) * (s.rd : Int) + (s.pos : Int)) (by omega), wi_in (x := (s.pos : Int) + 1) (by omega), wi_in (x := (s.made : Int) + 1) (by omega)]
  let kd : T_frames_actor := ⟨(s.made : Int), 1, 0, 0, 0, 0, 0, 0, 0, 0, 0, false, (fr : Int), (s.pos : Int), 100 * (s.rd : Int) + (s.pos : Int), 0, true⟩
  let J2 : T_frames_join := { J with round := (s.rd : Int), live := J.live ++ [kd], made := (s.made : Int) + 1 }
  let s2 : PM := { s with join := s.join + 1, live := s.live ++ [((s.made : Int), .start fr s.pos (100 * (s.rd : Int) + s.pos))], made := s.made + 1, pos := s.pos + 1, log := s.log ++ [⟨(at_ s.live p).1, 3, 1, 1, s.join + 1, true⟩] }
  have hap : at_ s2.live p = at_ s.live p := at_app_ne _ hp
  have hx : Sx F J2 (AW sz (c.set 1 (s.join + 1)) (s.log ++ [⟨(at_ J.live p).number, 3, 1, 1, s.join + 1, true⟩]) (at_ J.live p).number) s2 p := by
    refine ⟨h.base, h.frames, rfl, by show (s.made : Int) + 1 = ((s.made + 1 : Nat) : Int); omega, h.done, h.holders, h.reads, h.marks0, by show (J.live ++ [kd]).length = (s.live ++ [_]).length; rw [List.length_append, List.length_append, h.len]; rfl, by show p < (s.live ++ [_]).length; rw [List.length_append]; omega, fun i hi he => ?_, ⟨sz, c.set 1 (s.join + 1), _, by rw [hn], hc.join _⟩⟩
    have hi' : i < s.live.length + 1 := by have : i < (s.live ++ [((s.made : Int), Ab.start fr s.pos (100 * (s.rd : Int) + s.pos))]).length := hi; rwa [List.length_append] at this
    show (at_ (J.live ++ [kd]) i).number = (at_ (s.live ++ [((s.made : Int), Ab.start fr s.pos (100 * (s.rd : Int) + s.pos))]) i).1 ∧ ARb F (s.pos + 1) (at_ (J.live ++ [kd]) i) (at_ (s.live ++ [((s.made : Int), Ab.start fr s.pos (100 * (s.rd : Int) + s.pos))]) i).2
    by_cases e : i < s.live.length
    · rw [at_app_ne _ (by omega), at_app_ne _ e]
      exact ⟨(h.live hd i e).1, kid_pos (o3 i e he) (h.live hd i e).2⟩
    · have e2 : i = s.live.length := by omega
      subst e2
      rw [at_app, ← h.len, at_app]
      exact ⟨rfl, rfl, rfl, rfl, rfl, rfl, rfl⟩
  by_cases hq : at_ q s.rd ≤ (s.pos : Int) + 1
  · rw [if_pos (show (s.pos : Int) + 1 ≥ at_ q s.rd from hq), ob1_some, ob3_some, if_pos rfl, hst, if_pos hq]
    exact ⟨_, _, rfl, hx.fin (by rw [hap]; exact hn) ⟨rfl, rfl⟩⟩
  · rw [if_neg (show ¬ (s.pos : Int) + 1 ≥ at_ q s.rd from hq), ob1_some, ob3_some, if_pos rfl, hst, if_neg hq]
    exact ⟨_, _, rfl, hx.fin (by rw [hap]; exact hn) ⟨rfl, rfl, by show (s.pos : Int) + 1 = ((s.pos + 1 : Nat) : Int); omega⟩⟩
set_option maxHeartbeats 1000000 in
theorem sim_sync {q : List Int} {F : Nat} {J : T_frames_join} {A : T_cells_Arena} {s : PM} {p : Nat} (h : Sm F J A s) (hd : s.done = false) (hp : p < s.live.length) (ok : Ok q F s p) (hs : (at_ s.live p).2 = .sync) :
    ∃ J' A', frames_join_step J A q (p : Int) = some (J', A') ∧ Sm F J' A' (s.step q p) := by
  obtain ⟨sz, c, w0, rfl, hc⟩ := h.arena
  obtain ⟨hn, hb⟩ := h.live hd p hp
  have hpj : p < J.live.length := by rw [h.len]; exact hp
  have hlog := ok.log
  have hF1 := hc.F1
  have hF4 := ok.F4
  have hclen := hc.len
  have hj := ok.join
  have hlv := ok.live
  have okb := ok.b
  have hjl := h.len
  rw [hs] at hb okb
  obtain ⟨b1, b2⟩ := hb
  have e1 := st_sync1 (sz := sz) (c := c) (lg := s.log) (w := (at_ J.live p).number) (F := (F : Int)) hlog (j := s.join) (by omega) hc.c1 hj.1 hj.2
  have hx := h.out hd hp (A' := AW sz (c.set 1 (s.join - 1)) (s.log ++ [⟨(at_ J.live p).number, 3, 1, -1, s.join - 1, true⟩]) (at_ J.live p).number) (s' := ({ s with join := s.join - 1 } : PM).note (at_ s.live p).1 3 1 (-1) (s.join - 1)) ⟨rfl, rfl, rfl, rfl, rfl, rfl, rfl⟩ ⟨sz, c.set 1 (s.join - 1), (at_ J.live p).number, by first | (rw [hn]; done) | (rw [hn]; rfl), hc.join _⟩
  by_cases hz : s.join - 1 = 0
  · have hst : s.step q p = (({ s with join := s.join - 1 } : PM).note (at_ s.live p).1 3 1 (-1) (s.join - 1)).setb p .back := by simp only [PM.step, hs, if_pos hz]
    rw [if_pos hz] at e1
    rw [step_of (A := AW sz c s.log w0) (q := q) hpj (.inr ⟨b2, bg_sync h.base h.frames ⟨hF1, hF4⟩ b1⟩) e1 (op_ansR (by omega) (by decide)), if_pos rfl, hst]
    exact ⟨_, _, rfl, hx.fin (b := .back) hn ⟨b1, rfl, rfl⟩⟩
  · have hst : s.step q p = ({ s with join := s.join - 1, live := s.live.eraseIdx p } : PM).note (at_ s.live p).1 3 1 (-1) (s.join - 1) := by simp only [PM.step, hs, if_neg hz]
    rw [if_neg hz] at e1
    rw [step_of (A := AW sz c s.log w0) (q := q) hpj (.inr ⟨b2, bg_sync h.base h.frames ⟨hF1, hF4⟩ b1⟩) e1 (op_ans0 (by omega)), if_neg (by decide)]
    unfold frames_join_next
    rw [if_neg (show ¬ (wop (at_ J.live p) _ false).about = 0 by show ¬ (at_ J.live p).about = 0; omega), if_neg (show ¬ (wop (at_ J.live p) _ false).about = 1 by show ¬ (at_ J.live p).about = 1; omega), if_neg (show ¬ (wop (at_ J.live p) _ false).about = 2 by show ¬ (at_ J.live p).about = 2; omega), if_neg (show ¬ (wop (at_ J.live p) _ false).about = 3 by show ¬ (at_ J.live p).about = 3; omega), if_pos (show (wop (at_ J.live p) _ false).about = 4 from b1), if_pos rfl, ob3_some, if_neg (by decide), if_pos (show inr_ (p : Int) J.live.length from ⟨by omega, by omega⟩), wi_in (x := (p : Int) + 1) (by omega), if_pos ⟨by omega, by omega⟩, if_pos (by omega), if_pos (by omega), hst]
    exact ⟨_, _, rfl, hx.end_⟩
set_option maxHeartbeats 1000000 in
theorem sim_back {q : List Int} {F : Nat} {J : T_frames_join} {A : T_cells_Arena} {s : PM} {p : Nat} (h : Sm F J A s) (hd : s.done = false) (hp : p < s.live.length) (ok : Ok q F s p) (hs : (at_ s.live p).2 = .back) :
    ∃ J' A', frames_join_step J A q (p : Int) = some (J', A') ∧ Sm F J' A' (s.step q p) := by
  obtain ⟨sz, c, w0, rfl, hc⟩ := h.arena
  obtain ⟨hn, hb⟩ := h.live hd p hp
  have hpj : p < J.live.length := by rw [h.len]; exact hp
  have hlog := ok.log
  have hF1 := hc.F1
  have hF4 := ok.F4
  have hclen := hc.len
  have hj := ok.join
  have hlv := ok.live
  have okb := ok.b
  have hjl := h.len
  rw [hs] at hb okb
  obtain ⟨b1, b2, b3⟩ := hb
  obtain ⟨o1, o2⟩ := okb
  have hst : s.step q p = (({ s with join := 1 } : PM).note (at_ s.live p).1 1 1 1 0).hold q p := by simp only [PM.step, hs]
  have e1 := st_sync2 (sz := sz) (c := c) (lg := s.log) (w := (at_ J.live p).number) (F := (F : Int)) hlog (by omega)
  rw [step_of (A := AW sz c s.log w0) (q := q) hpj (.inl ⟨b2, b3⟩) e1 (op_ans0 (by omega)), if_neg (by decide)]
  unfold frames_join_next
  rw [if_neg (show ¬ (wop (at_ J.live p) _ false).about = 0 by show ¬ (at_ J.live p).about = 0; omega), if_neg (show ¬ (wop (at_ J.live p) _ false).about = 1 by show ¬ (at_ J.live p).about = 1; omega), if_neg (show ¬ (wop (at_ J.live p) _ false).about = 2 by show ¬ (at_ J.live p).about = 2; omega), if_neg (show ¬ (wop (at_ J.live p) _ false).about = 3 by show ¬ (at_ J.live p).about = 3; omega), if_pos (show (wop (at_ J.live p) _ false).about = 4 from b1), if_neg (by decide)]
  have hx := h.out hd hp (A' := AW sz (c.set 1 1) (s.log ++ [⟨(at_ J.live p).number, 1, 1, 1, 0, true⟩]) (at_ J.live p).number) (s' := ({ s with join := 1 } : PM).note (at_ s.live p).1 1 1 1 0) ⟨rfl, rfl, rfl, rfl, rfl, rfl, rfl⟩ ⟨sz, c.set 1 1, (at_ J.live p).number, by first | (rw [hn]; done) | (rw [hn]; rfl), hc.join _⟩
  obtain ⟨J2, a2, f1, f2⟩ := hx.hold (q := q) o2 ok.q64 o1 ok.hold ok.reads (a := wop (at_ J.live p) ⟨0, (F : Int), 0, 0, 13, 0, 3, 0, 0⟩ false) hn rfl
  rw [f1, ob2_some, ob3_some, if_pos rfl, hst]
  exact ⟨_, _, rfl, f2⟩
set_option maxHeartbeats 1000000 in
theorem sim_start {q : List Int} {F : Nat} {J : T_frames_join} {A : T_cells_Arena} {s : PM} {p : Nat} {fr : Nat} {k : Nat} {v : Int} (h : Sm F J A s) (hd : s.done = false) (hp : p < s.live.length) (ok : Ok q F s p) (hs : (at_ s.live p).2 = .start fr k v) :
    ∃ J' A', frames_join_step J A q (p : Int) = some (J', A') ∧ Sm F J' A' (s.step q p) := by
  obtain ⟨sz, c, w0, rfl, hc⟩ := h.arena
  obtain ⟨hn, hb⟩ := h.live hd p hp
  have hpj : p < J.live.length := by rw [h.len]; exact hp
  have hlog := ok.log
  have hF1 := hc.F1
  have hF4 := ok.F4
  have hclen := hc.len
  have hj := ok.join
  have hlv := ok.live
  have okb := ok.b
  have hjl := h.len
  rw [hs] at hb okb
  obtain ⟨b1, b2, b3, b4, b5, b6⟩ := hb
  obtain ⟨o1, o2, o3⟩ := okb
  have hst : s.step q p = (({ s with marks := s.marks.set fr (at_ s.marks fr + 1) } : PM).note (at_ s.live p).1 3 (2 + 10 * (fr : Int)) 1 (at_ s.marks fr + 1)).setb p (.store k v) := by simp only [PM.step, hs]
  have e1 := st_start (sz := sz) (c := c) (lg := s.log) (w := (at_ J.live p).number) (F := (F : Int)) hlog (f := fr) (m := at_ s.marks fr) (by omega) (by omega) (hc.mks fr o1) o2 o3
  rw [step_of (A := AW sz c s.log w0) (q := q) hpj (.inr ⟨b6, bg_start h.base h.frames ⟨hF1, hF4⟩ o1 b1 b3⟩) e1 (op_ans0 (by omega)), if_neg (by decide)]
  unfold frames_join_next
  rw [if_neg (show ¬ (wop (at_ J.live p) _ false).about = 0 by show ¬ (at_ J.live p).about = 0; omega), if_pos (show (wop (at_ J.live p) _ false).about = 1 from b1), if_pos (show (wop (at_ J.live p) _ false).child = true from b2), ob3_some, if_pos rfl, hst]
  exact ⟨_, _, rfl, (h.out hd hp (s' := ({ s with marks := s.marks.set fr (at_ s.marks fr + 1) } : PM).note (at_ s.live p).1 3 (2 + 10 * (fr : Int)) 1 (at_ s.marks fr + 1)) ⟨rfl, rfl, rfl, rfl, rfl, rfl, rfl⟩ ⟨sz, c.set (2 + 10 * fr) (at_ s.marks fr + 1), (at_ J.live p).number, by first | (rw [hn]; done) | (rw [hn]; rfl), hc.mark fr o1 _⟩).fin hn ⟨rfl, b4, b5, rfl⟩⟩
set_option maxHeartbeats 1000000 in
theorem sim_store {q : List Int} {F : Nat} {J : T_frames_join} {A : T_cells_Arena} {s : PM} {p : Nat} {k : Nat} {v : Int} (h : Sm F J A s) (hd : s.done = false) (hp : p < s.live.length) (ok : Ok q F s p) (hs : (at_ s.live p).2 = .store k v) :
    ∃ J' A', frames_join_step J A q (p : Int) = some (J', A') ∧ Sm F J' A' (s.step q p) := by
  obtain ⟨sz, c, w0, rfl, hc⟩ := h.arena
  obtain ⟨hn, hb⟩ := h.live hd p hp
  have hpj : p < J.live.length := by rw [h.len]; exact hp
  have hlog := ok.log
  have hF1 := hc.F1
  have hF4 := ok.F4
  have hclen := hc.len
  have hj := ok.join
  have hlv := ok.live
  have okb := ok.b
  have hjl := h.len
  rw [hs] at hb okb
  obtain ⟨b1, b2, b3, b4⟩ := hb
  have hst : s.step q p = (({ s with slots := s.slots.set k v } : PM).note (at_ s.live p).1 1 (3 + (k : Int)) v 0).setb p (.leave k v) := by simp only [PM.step, hs]
  have e1 := st_fin1 (sz := sz) (c := c) (lg := s.log) (w := (at_ J.live p).number) (F := (F : Int)) hlog (k := k) (v := v) (by simp only at okb; omega) okb
  rw [step_of (A := AW sz c s.log w0) (q := q) hpj (.inr ⟨b4, bg_finish h.base h.frames ⟨hF1, hF4⟩ okb b1 b2 b3⟩) e1 (op_ansR (by omega) (by decide)), if_pos rfl, hst]
  exact ⟨_, _, rfl, (h.out hd hp (s' := ({ s with slots := s.slots.set k v } : PM).note (at_ s.live p).1 1 (3 + (k : Int)) v 0) ⟨rfl, rfl, rfl, rfl, rfl, rfl, rfl⟩ ⟨sz, c.set (3 + k) v, (at_ J.live p).number, by first | (rw [hn]; done) | (rw [hn]; rfl), hc.slot k okb _⟩).fin hn ⟨b1, rfl, rfl⟩⟩
set_option maxHeartbeats 1000000 in
theorem sim_leave {q : List Int} {F : Nat} {J : T_frames_join} {A : T_cells_Arena} {s : PM} {p : Nat} {k : Nat} {v : Int} (h : Sm F J A s) (hd : s.done = false) (hp : p < s.live.length) (ok : Ok q F s p) (hs : (at_ s.live p).2 = .leave k v) :
    ∃ J' A', frames_join_step J A q (p : Int) = some (J', A') ∧ Sm F J' A' (s.step q p) := by
  obtain ⟨sz, c, w0, rfl, hc⟩ := h.arena
  obtain ⟨hn, hb⟩ := h.live hd p hp
  have hpj : p < J.live.length := by rw [h.len]; exact hp
  have hlog := ok.log
  have hF1 := hc.F1
  have hF4 := ok.F4
  have hclen := hc.len
  have hj := ok.join
  have hlv := ok.live
  have okb := ok.b
  have hjl := h.len
  rw [hs] at hb okb
  obtain ⟨b1, b2, b3⟩ := hb
  have e1 := st_fin2 (sz := sz) (c := c) (lg := s.log) (w := (at_ J.live p).number) (F := (F : Int)) (k := (k : Int)) (v := v) hlog (j := s.join) (by omega) hc.c1 hj.1 hj.2
  have hx := h.out hd hp (A' := AW sz (c.set 1 (s.join - 1)) (s.log ++ [⟨(at_ J.live p).number, 3, 1, -1, s.join - 1, true⟩]) (at_ J.live p).number) (s' := ({ s with join := s.join - 1 } : PM).note (at_ s.live p).1 3 1 (-1) (s.join - 1)) ⟨rfl, rfl, rfl, rfl, rfl, rfl, rfl⟩ ⟨sz, c.set 1 (s.join - 1), (at_ J.live p).number, by first | (rw [hn]; done) | (rw [hn]; rfl), hc.join _⟩
  by_cases hz : s.join - 1 = 0
  · have hst : s.step q p = (({ s with join := s.join - 1 } : PM).note (at_ s.live p).1 3 1 (-1) (s.join - 1)).setb p (.last k v) := by simp only [PM.step, hs, if_pos hz]
    rw [if_pos hz] at e1
    rw [step_of (A := AW sz c s.log w0) (q := q) (o := ⟨0, (F : Int), 0, 2, 0, 0, 2, (k : Int), v⟩) (o' := ⟨0, (F : Int), 0, 3, 0, 0, 2, (k : Int), v⟩) (code := 0) (v := 0) hpj (.inl ⟨b2, b3⟩) e1 (op_ansR (by omega) (by decide)), if_pos rfl, hst]
    exact ⟨_, _, rfl, hx.fin (b := .last k v) hn ⟨b1, rfl, rfl⟩⟩
  · have hst : s.step q p = ({ s with join := s.join - 1, live := s.live.eraseIdx p } : PM).note (at_ s.live p).1 3 1 (-1) (s.join - 1) := by simp only [PM.step, hs, if_neg hz]
    rw [if_neg hz] at e1
    rw [step_of (A := AW sz c s.log w0) (q := q) (o := ⟨0, (F : Int), 0, 2, 0, 0, 2, (k : Int), v⟩) (o' := ⟨0, (F : Int), 0, 0, 10, s.join - 1, 2, (k : Int), v⟩) (code := 10) (v := s.join - 1) hpj (.inl ⟨b2, b3⟩) e1 (op_ans0 (by omega)), if_neg (by decide)]
    unfold frames_join_next
    rw [if_neg (show ¬ (wop (at_ J.live p) _ false).about = 0 by show ¬ (at_ J.live p).about = 0; omega), if_neg (show ¬ (wop (at_ J.live p) _ false).about = 1 by show ¬ (at_ J.live p).about = 1; omega), if_neg (show ¬ (wop (at_ J.live p) _ false).about = 2 by show ¬ (at_ J.live p).about = 2; omega), if_neg (show ¬ (wop (at_ J.live p) _ false).about = 3 by show ¬ (at_ J.live p).about = 3; omega), if_neg (show ¬ (wop (at_ J.live p) _ false).about = 4 by show ¬ (at_ J.live p).about = 4; omega), if_pos (show (wop (at_ J.live p) _ false).about = 5 from b1), if_pos rfl, ob3_some, if_neg (by decide), if_pos (show inr_ (p : Int) J.live.length from ⟨by omega, by omega⟩), wi_in (x := (p : Int) + 1) (by omega), if_pos ⟨by omega, by omega⟩, if_pos (by omega), if_pos (by omega), hst]
    exact ⟨_, _, rfl, hx.end_⟩
set_option maxHeartbeats 1000000 in
theorem sim_last {q : List Int} {F : Nat} {J : T_frames_join} {A : T_cells_Arena} {s : PM} {p : Nat} {k : Nat} {v : Int} (h : Sm F J A s) (hd : s.done = false) (hp : p < s.live.length) (ok : Ok q F s p) (hs : (at_ s.live p).2 = .last k v) :
    ∃ J' A', frames_join_step J A q (p : Int) = some (J', A') ∧ Sm F J' A' (s.step q p) := by
  obtain ⟨sz, c, w0, rfl, hc⟩ := h.arena
  obtain ⟨hn, hb⟩ := h.live hd p hp
  have hpj : p < J.live.length := by rw [h.len]; exact hp
  have hlog := ok.log
  have hF1 := hc.F1
  have hF4 := ok.F4
  have hclen := hc.len
  have hj := ok.join
  have hlv := ok.live
  have okb := ok.b
  have hjl := h.len
  rw [hs] at hb okb
  obtain ⟨b1, b2, b3⟩ := hb
  obtain ⟨o1, o2⟩ := okb
  have hst : s.step q p = (({ s with join := 1 } : PM).note (at_ s.live p).1 1 1 1 0).hold q p := by simp only [PM.step, hs]
  have e1 := st_fin3 (sz := sz) (c := c) (lg := s.log) (w := (at_ J.live p).number) (F := (F : Int)) (k := (k : Int)) (v := v) hlog (by omega)
  rw [step_of (A := AW sz c s.log w0) (q := q) hpj (.inl ⟨b2, b3⟩) e1 (op_ans0 (by omega)), if_neg (by decide)]
  unfold frames_join_next
  rw [if_neg (show ¬ (wop (at_ J.live p) _ false).about = 0 by show ¬ (at_ J.live p).about = 0; omega), if_neg (show ¬ (wop (at_ J.live p) _ false).about = 1 by show ¬ (at_ J.live p).about = 1; omega), if_neg (show ¬ (wop (at_ J.live p) _ false).about = 2 by show ¬ (at_ J.live p).about = 2; omega), if_neg (show ¬ (wop (at_ J.live p) _ false).about = 3 by show ¬ (at_ J.live p).about = 3; omega), if_neg (show ¬ (wop (at_ J.live p) _ false).about = 4 by show ¬ (at_ J.live p).about = 4; omega), if_pos (show (wop (at_ J.live p) _ false).about = 5 from b1), if_neg (by decide)]
  have hx := h.out hd hp (A' := AW sz (c.set 1 1) (s.log ++ [⟨(at_ J.live p).number, 1, 1, 1, 0, true⟩]) (at_ J.live p).number) (s' := ({ s with join := 1 } : PM).note (at_ s.live p).1 1 1 1 0) ⟨rfl, rfl, rfl, rfl, rfl, rfl, rfl⟩ ⟨sz, c.set 1 1, (at_ J.live p).number, by first | (rw [hn]; done) | (rw [hn]; rfl), hc.join _⟩
  obtain ⟨J2, a2, f1, f2⟩ := hx.hold (q := q) o2 ok.q64 o1 ok.hold ok.reads (a := wop (at_ J.live p) ⟨0, (F : Int), 0, 0, 11, 0, 2, (k : Int), v⟩ false) hn rfl
  rw [f1, ob2_some, ob3_some, if_pos rfl, hst]
  exact ⟨_, _, rfl, f2⟩
set_option maxHeartbeats 1000000 in
theorem sim_read {q : List Int} {F : Nat} {J : T_frames_join} {A : T_cells_Arena} {s : PM} {p : Nat} (h : Sm F J A s) (hd : s.done = false) (hp : p < s.live.length) (ok : Ok q F s p) (hs : (at_ s.live p).2 = .read) :
    ∃ J' A', frames_join_step J A q (p : Int) = some (J', A') ∧ Sm F J' A' (s.step q p) := by
  obtain ⟨sz, c, w0, rfl, hc⟩ := h.arena
  obtain ⟨hn, hb⟩ := h.live hd p hp
  have hpj : p < J.live.length := by rw [h.len]; exact hp
  have hlog := ok.log
  have hF1 := hc.F1
  have hF4 := ok.F4
  have hclen := hc.len
  have hj := ok.join
  have hlv := ok.live
  have okb := ok.b
  have hjl := h.len
  rw [hs] at hb okb
  obtain ⟨b1, b2, b3⟩ := hb
  obtain ⟨o1, o2, o3, o4, o5⟩ := okb
  have hst : s.step q p = (({ s with reads := s.reads.set (s.reads.length - 1) (at_ s.reads (s.reads.length - 1) ++ [at_ s.slots s.pos]), pos := s.pos + 1 } : PM).note (at_ s.live p).1 0 (3 + (s.pos : Int)) (at_ s.slots s.pos) 0).rdg q p := by simp only [PM.step, hs]
  have e1 := st_fetch (sz := sz) (c := c) (lg := s.log) (w := (at_ J.live p).number) (F := (F : Int)) hlog (k := s.pos) (by omega) o2
  rw [step_of (A := AW sz c s.log w0) (q := q) hpj (.inr ⟨b2, bg_fetch h.base h.frames ⟨hF1, hF4⟩ o2 b1 b3⟩) e1 (op_ans0 (by omega)), if_neg (by decide)]
  unfold frames_join_next
  have hr1 := ok.reads
  rw [if_neg (show ¬ (wop (at_ J.live p) _ false).about = 0 by show ¬ (at_ J.live p).about = 0; omega), if_neg (show ¬ (wop (at_ J.live p) _ false).about = 1 by show ¬ (at_ J.live p).about = 1; omega), if_neg (show ¬ (wop (at_ J.live p) _ false).about = 2 by show ¬ (at_ J.live p).about = 2; omega), if_neg (show ¬ (wop (at_ J.live p) _ false).about = 3 by show ¬ (at_ J.live p).about = 3; omega), if_neg (show ¬ (wop (at_ J.live p) _ false).about = 4 by show ¬ (at_ J.live p).about = 4; omega), if_neg (show ¬ (wop (at_ J.live p) _ false).about = 5 by show ¬ (at_ J.live p).about = 5; omega), if_pos (show (wop (at_ J.live p) _ false).about = 6 from b1)]
  simp only [h.reads]
  rw [wi_in (x := ((s.reads.length : Nat) : Int) - 1) (by omega), if_pos ⟨by omega, by omega⟩, show (((s.reads.length : Nat) : Int) - 1).toNat = s.reads.length - 1 by omega, if_pos (by omega), hc.sl_ s.pos o2, show (wop (at_ J.live p) (⟨0, (F : Int), 0, 0, 15, at_ s.slots s.pos, 5, (s.pos : Int), 0⟩ : T_frames_Op) false).at_ = (s.pos : Int) from b3, wi_in (x := (s.pos : Int) + 1) (by omega)]
  have hx : Sx F { J with run_Reads := s.reads.set (s.reads.length - 1) (at_ s.reads (s.reads.length - 1) ++ [at_ s.slots s.pos]) } (AW sz c (s.log ++ [⟨(at_ J.live p).number, 0, 3 + (s.pos : Int), at_ s.slots s.pos, 0, true⟩]) (at_ J.live p).number) (({ s with reads := s.reads.set (s.reads.length - 1) (at_ s.reads (s.reads.length - 1) ++ [at_ s.slots s.pos]), pos := s.pos + 1 } : PM).note (at_ s.live p).1 0 (3 + (s.pos : Int)) (at_ s.slots s.pos) 0) p :=
    ⟨h.base, h.frames, h.round, h.made, h.done, h.holders, rfl, h.marks0, h.len, hp, fun i hi he => ⟨(h.live hd i hi).1, kid_pos (o5 i hi he) (h.live hd i hi).2⟩, ⟨sz, c, (at_ J.live p).number, by first | (rw [hn]; done) | (rw [hn]; rfl), hc⟩⟩
  obtain ⟨J2, a2, f1, f2⟩ := hx.rdg (q := q) o5 ok.q64 o1 (a := { (wop (at_ J.live p) ⟨0, (F : Int), 0, 0, 15, at_ s.slots s.pos, 5, (s.pos : Int), 0⟩ false) with at_ := (s.pos : Int) + 1 }) hn rfl (by show (s.pos : Int) + 1 = ((s.pos + 1 : Nat) : Int); omega)
  rw [f1, ob2_some, ob3_some, if_pos rfl, hst]
  exact ⟨_, _, rfl, f2⟩
theorem step_sim {q : List Int} {F : Nat} {J : T_frames_join} {A : T_cells_Arena} {s : PM} {p : Nat} (h : Sm F J A s) (hd : s.done = false) (hp : p < s.live.length) (ok : Ok q F s p) :
    ∃ J' A', frames_join_step J A q (p : Int) = some (J', A') ∧ Sm F J' A' (s.step q p) := by
  cases hs : (at_ s.live p).2 with
  | alloc0 => exact sim_alloc0 h hd hp ok hs
  | mark0 => exact sim_mark0 h hd hp ok hs
  | alloc => exact sim_alloc h hd hp ok hs
  | fork fr => exact sim_fork h hd hp ok hs
  | sync => exact sim_sync h hd hp ok hs
  | back => exact sim_back h hd hp ok hs
  | start fr k v => exact sim_start h hd hp ok hs
  | store k v => exact sim_store h hd hp ok hs
  | leave k v => exact sim_leave h hd hp ok hs
  | last k v => exact sim_last h hd hp ok hs
  | read => exact sim_read h hd hp ok hs
end Go.Proofs.Ytnghahgfcaolbaa.Mo
