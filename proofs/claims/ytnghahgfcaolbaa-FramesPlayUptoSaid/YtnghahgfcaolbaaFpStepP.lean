/- The program's step goes by the machine's. -/
import Derived.Test.YtnghahgfcaolbaaFpSimP
namespace Go.Proofs.Ytnghahgfcaolbaa.Mo
open Go Go.Proofs.Ytnghahgfcaolbaa.SL Go.Proofs.Ytnghahgfcaolbaa.GX
set_option linter.unusedVariables false
set_option linter.unusedSimpArgs false
def opof (a : T_frames_actor) : T_frames_Op := ⟨a.op_head_t_Base, a.op_head_t_Frames, a.op_head_frame, a.op_head_stands, a.op_head_code, a.op_head_v, a.op_kind, a.op_slot, a.op_give⟩
def wop (a : T_frames_actor) (o : T_frames_Op) (i : Bool) : T_frames_actor := ⟨a.number, a.about, o.head_t_Base, o.head_t_Frames, o.head_frame, o.head_stands, o.head_code, o.head_v, o.kind, o.slot, o.give, i, a.frame, a.slot, a.value, a.at_, a.child⟩
def ARb (F : Nat) (pos : Nat) (a : T_frames_actor) : Ab → Prop
  | .alloc0 => a.about = 0 ∧ a.child = false ∧ a.frame = 0 ∧ a.inOp = false
  | .mark0 => a.about = 1 ∧ a.child = false ∧ a.frame = 0 ∧ a.inOp = false
  | .alloc => a.about = 2 ∧ a.inOp = false ∧ a.at_ = (pos : Int)
  | .fork fr => a.about = 3 ∧ a.inOp = false ∧ a.frame = (fr : Int) ∧ a.at_ = (pos : Int)
  | .sync => a.about = 4 ∧ a.inOp = false
  | .back => a.about = 4 ∧ a.inOp = true ∧ opof a = ⟨0, (F : Int), 0, 2, 0, 0, 3, 0, 0⟩
  | .start fr k v => a.about = 1 ∧ a.child = true ∧ a.frame = (fr : Int) ∧ a.slot = (k : Int) ∧ a.value = v ∧ a.inOp = false
  | .store k v => a.about = 5 ∧ a.slot = (k : Int) ∧ a.value = v ∧ a.inOp = false
  | .leave k v => a.about = 5 ∧ a.inOp = true ∧ opof a = ⟨0, (F : Int), 0, 2, 0, 0, 2, (k : Int), v⟩
  | .last k v => a.about = 5 ∧ a.inOp = true ∧ opof a = ⟨0, (F : Int), 0, 3, 0, 0, 2, (k : Int), v⟩
  | .read => a.about = 6 ∧ a.inOp = false ∧ a.at_ = (pos : Int)
def kid : Ab → Bool
  | .start _ _ _ | .store _ _ | .leave _ _ => true
  | _ => false
theorem kid_pos {F pos pos' : Nat} {a : T_frames_actor} {b : Ab} (hk : kid b = true) (h : ARb F pos a b) : ARb F pos' a b := by
  cases b <;> simp [kid] at hk <;> exact h
/-- The cells of the table. -/
structure Cl (F : Nat) (c : List Int) (t j : Int) (m sl : List Int) : Prop where
  len : c.length = 1 + 10 * F
  c0 : at_ c 0 = t
  c1 : at_ c 1 = j
  mks : ∀ f, f < F → at_ c (2 + 10 * f) = at_ m f
  sl_ : ∀ k, k < 8 → at_ c (3 + k) = at_ sl k
  ml : m.length = F
  sll : sl.length = 8
  F1 : 1 ≤ F
section
variable {F : Nat} {c : List Int} {t j : Int} {m sl : List Int}
theorem Cl.taken (h : Cl F c t j m sl) (v : Int) : Cl F (c.set 0 v) v j m sl :=
  ⟨by rw [List.length_set]; exact h.len, at_set_same (by have := h.len; omega), by rw [at_set_ne (by decide)]; exact h.c1, fun f hf => by rw [at_set_ne (by omega)]; exact h.mks f hf, fun k hk => by rw [at_set_ne (by omega)]; exact h.sl_ k hk, h.ml, h.sll, h.F1⟩
theorem Cl.join (h : Cl F c t j m sl) (v : Int) : Cl F (c.set 1 v) t v m sl :=
  ⟨by rw [List.length_set]; exact h.len, by rw [at_set_ne (by decide)]; exact h.c0, at_set_same (by have := h.len; have := h.F1; omega), fun f hf => by rw [at_set_ne (by omega)]; exact h.mks f hf, fun k hk => by rw [at_set_ne (by omega)]; exact h.sl_ k hk, h.ml, h.sll, h.F1⟩
theorem Cl.mark (h : Cl F c t j m sl) (f : Nat) (hf : f < F) (v : Int) : Cl F (c.set (2 + 10 * f) v) t j (m.set f v) sl :=
  ⟨by rw [List.length_set]; exact h.len, by rw [at_set_ne (by omega)]; exact h.c0, by rw [at_set_ne (by omega)]; exact h.c1, fun g hg => by
    by_cases e : g = f
    · subst e; rw [at_set_same (by have := h.len; omega), at_set_same (by have := h.ml; omega)]
    · rw [at_set_ne (by omega), at_set_ne (by omega)]; exact h.mks g hg, fun k hk => by rw [at_set_ne (by omega)]; exact h.sl_ k hk, by rw [List.length_set]; exact h.ml, h.sll, h.F1⟩
theorem Cl.slot (h : Cl F c t j m sl) (k : Nat) (hk : k < 8) (v : Int) : Cl F (c.set (3 + k) v) t j m (sl.set k v) :=
  ⟨by rw [List.length_set]; exact h.len, by rw [at_set_ne (by omega)]; exact h.c0, by rw [at_set_ne (by omega)]; exact h.c1, fun f hf => by rw [at_set_ne (by omega)]; exact h.mks f hf, fun g hg => by
    have := h.len; have := h.F1
    by_cases e : g = k
    · subst e; rw [at_set_same (by omega), at_set_same (by have := h.sll; omega)]
    · rw [at_set_ne (by omega), at_set_ne (by omega)]; exact h.sl_ g hg, h.ml, by rw [List.length_set]; exact h.sll, h.F1⟩
end
/-- The program's play and the machine. -/
structure Sm (F : Nat) (J : T_frames_join) (A : T_cells_Arena) (s : PM) : Prop where
  base : J.table_Base = 0
  frames : J.table_Frames = (F : Int)
  round : J.round = (s.rd : Int)
  made : J.made = (s.made : Int)
  done : J.run_Done = s.done
  holders : J.run_Holders = s.holders
  reads : J.run_Reads = s.reads
  marks0 : J.run_Marks = []
  len : J.live.length = s.live.length
  live : s.done = false → ∀ i, i < s.live.length → (at_ J.live i).number = (at_ s.live i).1 ∧ ARb F s.pos (at_ J.live i) (at_ s.live i).2
  arena : ∃ sz c w, A = AW sz c s.log w ∧ Cl F c (s.taken : Int) s.join s.marks s.slots
/-- What a step wants to be known. -/
def Others (s : PM) (p : Nat) : Prop := ∀ i, i < s.live.length → i ≠ p → kid (at_ s.live i).2 = true
structure Ok (q : List Int) (F : Nat) (s : PM) (p : Nat) : Prop where
  log : s.log.length ≤ 1073741824
  join : 0 ≤ s.join ∧ s.join ≤ 1000
  live : s.live.length ≤ 1000
  made : s.made ≤ 2000000
  hold : s.holders.length ≤ 1000
  reads : s.reads.length ≤ 1000
  q8 : ∀ i, i < q.length → 0 ≤ at_ q i ∧ at_ q i ≤ 8
  q64 : q.length ≤ 64
  F4 : F ≤ 4096
  rd : s.rd ≤ q.length
  b : match (at_ s.live p).2 with
    | .alloc0 => s.taken < F
    | .mark0 => (0 ≤ at_ s.marks 0 ∧ at_ s.marks 0 ≤ 1000000) ∧ Others s p
    | .alloc => s.taken < F
    | .fork fr => s.rd < q.length ∧ s.pos < 8 ∧ Others s p
    | .sync => True
    | .back => s.rd < q.length ∧ Others s p
    | .start fr k v => fr < F ∧ 0 ≤ at_ s.marks fr ∧ at_ s.marks fr ≤ 1000000
    | .store k v => k < 8
    | .leave k v => True
    | .last k v => s.rd < q.length ∧ Others s p
    | .read => s.rd < q.length ∧ s.pos < 8 ∧ 0 < s.reads.length ∧ (at_ s.reads (s.reads.length - 1)).length ≤ 1000 ∧ Others s p
/-- The step, its access known. -/
theorem step_of {J : T_frames_join} {A A' : T_cells_Arena} {q : List Int} {p : Nat} {o o' : T_frames_Op} {code v : Int} (hp : p < J.live.length)
    (ho : ((at_ J.live p).inOp = true ∧ opof (at_ J.live p) = o) ∨ ((at_ J.live p).inOp = false ∧ frames_join_begin J A q (at_ J.live p) = some o))
    (hst : frames_Step_iface { A with actor := (at_ J.live p).number } o = some (o', A')) (hans : frames_Answer o' = some (code, v)) :
    frames_join_step J A q (p : Int) = (if code = 0 then some ({ J with live := J.live.set p (wop (at_ J.live p) o' true) }, A') else ob3 (frames_join_next J A' q (wop (at_ J.live p) o' false) code v) (fun r S T => if r = true then some ({ S with live := S.live.set p T }, A') else if inr_ (p : Int) S.live.length then if 0 ≤ (wi ((p : Int) + 1)) ∧ (wi ((p : Int) + 1)) ≤ ((S.live.length : Nat) : Int) then if (wi ((p : Int) + 1)).toNat = p + 1 then if S.live.length * 8 ≤ 140737488355328 then some ({ S with live := S.live.eraseIdx p }, A') else none else none else none else none)) := by
  have hS : (if (at_ J.live p).inOp = true then some (at_ J.live p) else ob1 (frames_join_begin J A q (at_ J.live p)) (fun r23 => some (wop (at_ J.live p) r23 true))) = some (wop (at_ J.live p) o true) := by
    rcases ho with ⟨h1, h2⟩ | ⟨h1, h2⟩
    · rw [if_pos h1, ← h2]
      congr 1
      unfold wop opof
      rw [← h1]
    · rw [if_neg (by rw [h1]; decide), h2, ob1_some]
  unfold frames_join_step
  rw [if_pos (show inr_ (p : Int) J.live.length from ⟨by omega, by omega⟩)]
  simp only [Int.toNat_natCast]
  have hS' := hS
  unfold wop at hS'
  rw [hS', ob1_some, cells_Arena_Who, ob1_some]
  simp only
  rw [hst, ob2_some, hans, ob2_some]
  rfl
section
variable {F : Nat} {J : T_frames_join} {A : T_cells_Arena} {s : PM} {p : Nat}
/-- enter, on both sides. -/
theorem enter_both {q : List Int} {J1 : T_frames_join} {A1 : T_cells_Arena} {s1 : PM} {a1 : T_frames_actor} (q64 : q.length ≤ 64) (rd : s1.rd ≤ q.length) (hr : J1.round = (s1.rd : Int)) :
    ∃ J2 a2, frames_join_enter J1 A1 q a1 = some (J2, a2) ∧ J2 = { J1 with run_Done := if q.length ≤ s1.rd then true else J1.run_Done } ∧
      (q.length ≤ s1.rd ∧ a2 = a1 ∨ ¬ q.length ≤ s1.rd ∧ a2 = { a1 with at_ := 0, about := if at_ q s1.rd ≤ 0 then 4 else 2 }) := by
  unfold frames_join_enter frames_join_fork
  by_cases h : q.length ≤ s1.rd
  · rw [if_pos (by omega), if_pos h]; exact ⟨_, _, rfl, rfl, .inl ⟨h, rfl⟩⟩
  · rw [if_neg (by omega), if_neg h, hr, if_pos ⟨by omega, by omega⟩, Int.toNat_natCast]
    by_cases h2 : at_ q s1.rd ≤ 0
    · rw [if_pos (show (0 : Int) ≥ at_ q s1.rd by omega), ob1_some, if_pos h2]; exact ⟨_, _, rfl, by cases J1; simp_all, .inr ⟨h, rfl⟩⟩
    · rw [if_neg (show ¬ (0 : Int) ≥ at_ q s1.rd by omega), ob1_some, if_neg h2]; exact ⟨_, _, rfl, by cases J1; simp_all, .inr ⟨h, rfl⟩⟩
/-- The program's play and the machine, but for the actor at p, which is out. -/
structure Sx (F : Nat) (J : T_frames_join) (A : T_cells_Arena) (s : PM) (p : Nat) : Prop where
  base : J.table_Base = 0
  frames : J.table_Frames = (F : Int)
  round : J.round = (s.rd : Int)
  made : J.made = (s.made : Int)
  done : J.run_Done = s.done
  holders : J.run_Holders = s.holders
  reads : J.run_Reads = s.reads
  marks0 : J.run_Marks = []
  len : J.live.length = s.live.length
  hp : p < s.live.length
  live : ∀ i, i < s.live.length → i ≠ p → (at_ J.live i).number = (at_ s.live i).1 ∧ ARb F s.pos (at_ J.live i) (at_ s.live i).2
  arena : ∃ sz c w, A = AW sz c s.log w ∧ Cl F c (s.taken : Int) s.join s.marks s.slots
theorem Sx.fin (h : Sx F J A s p) {a : T_frames_actor} {b : Ab} (hn : a.number = (at_ s.live p).1) (hb : ARb F s.pos a b) : Sm F { J with live := J.live.set p a } A (s.setb p b) := by
  refine ⟨h.base, h.frames, h.round, h.made, h.done, h.holders, h.reads, h.marks0, ?_, fun _ i hi => ?_, h.arena⟩
  · show (J.live.set p a).length = (s.live.set p _).length
    rw [List.length_set, List.length_set]; exact h.len
  · have hp := h.hp
    have hi' : i < s.live.length := by have : i < (s.live.set p ((at_ s.live p).1, b)).length := hi; rwa [List.length_set] at this
    show (at_ (J.live.set p a) i).number = (at_ (s.live.set p ((at_ s.live p).1, b)) i).1 ∧ ARb F s.pos (at_ (J.live.set p a) i) (at_ (s.live.set p ((at_ s.live p).1, b)) i).2
    by_cases e : i = p
    · subst e
      rw [at_set_same (by have := h.len; omega), at_set_same hi']; exact ⟨hn, hb⟩
    · rw [at_set_ne (by omega), at_set_ne (by omega)]; exact h.live i hi' e
theorem Sx.end_ (h : Sx F J A s p) : Sm F { J with live := J.live.eraseIdx p } A { s with live := s.live.eraseIdx p } := by
  have hp := h.hp
  refine ⟨h.base, h.frames, h.round, h.made, h.done, h.holders, h.reads, h.marks0, ?_, fun _ i hi => ?_, h.arena⟩
  · show (J.live.eraseIdx p).length = (s.live.eraseIdx p).length
    rw [List.length_eraseIdx, List.length_eraseIdx, h.len]
  · have hi' : i < (s.live.eraseIdx p).length := hi
    rw [List.length_eraseIdx, if_pos hp] at hi'
    show (at_ (J.live.eraseIdx p) i).number = (at_ (s.live.eraseIdx p) i).1 ∧ ARb F s.pos (at_ (J.live.eraseIdx p) i) (at_ (s.live.eraseIdx p) i).2
    by_cases e : i < p
    · rw [at_erase_lt e, at_erase_lt e]; exact h.live i (by omega) (by omega)
    · rw [at_erase_ge (by omega), at_erase_ge (by omega)]; exact h.live (i + 1) (by omega) (by omega)
theorem Sx.pos_ (h : Sx F J A s p) (ho : Others s p) (pos' : Nat) : Sx F J A { s with pos := pos' } p :=
  ⟨h.base, h.frames, h.round, h.made, h.done, h.holders, h.reads, h.marks0, h.len, h.hp, fun i hi he => ⟨(h.live i hi he).1, kid_pos (ho i hi he) (h.live i hi he).2⟩, h.arena⟩
theorem Sx.enter (h : Sx F J A s p) (ho : Others s p) {q : List Int} (q64 : q.length ≤ 64) (rd : s.rd ≤ q.length) {a : T_frames_actor} (hn : a.number = (at_ s.live p).1) (hi : a.inOp = false) :
    ∃ J2 a2, frames_join_enter J A q a = some (J2, a2) ∧ Sm F { J2 with live := J2.live.set p a2 } A (s.enter q p) := by
  obtain ⟨J2, a2, e1, e2, e3⟩ := enter_both (J1 := J) (A1 := A) (s1 := s) (a1 := a) q64 rd h.round
  refine ⟨J2, a2, e1, ?_⟩
  subst e2
  unfold PM.enter
  rcases e3 with ⟨e3, e4⟩ | ⟨e3, e4⟩
  · rw [if_pos e3, if_pos e3]
    subst e4
    refine ⟨h.base, h.frames, h.round, h.made, rfl, h.holders, h.reads, h.marks0, by show (J.live.set p a2).length = s.live.length; rw [List.length_set]; exact h.len, fun hd => by simp at hd, h.arena⟩
  · rw [if_neg e3, if_neg e3]
    subst e4
    have h2 := h.pos_ ho 0
    have h3 := h2.fin (a := { a with at_ := 0, about := if at_ q s.rd ≤ 0 then 4 else 2 }) (b := if at_ q s.rd ≤ 0 then .sync else .alloc) hn (by
      by_cases hq : at_ q s.rd ≤ 0
      · rw [if_pos hq, if_pos hq]; exact ⟨rfl, hi⟩
      · rw [if_neg hq, if_neg hq]; exact ⟨rfl, hi, rfl⟩)
    exact h3
theorem Sx.rdg (h : Sx F J A s p) (ho : Others s p) {q : List Int} (q64 : q.length ≤ 64) (rd : s.rd < q.length) {a : T_frames_actor} (hn : a.number = (at_ s.live p).1) (hi : a.inOp = false) (ha : a.at_ = (s.pos : Int)) :
    ∃ J2 a2, frames_join_read J A q a = some (J2, a2) ∧ Sm F { J2 with live := J2.live.set p a2 } A (s.rdg q p) := by
  unfold frames_join_read PM.rdg
  rw [if_pos (show inr_ J.round q.length from ⟨by rw [h.round]; omega, by rw [h.round]; omega⟩), h.round, Int.toNat_natCast, ha]
  by_cases hq : at_ q s.rd ≤ (s.pos : Int)
  · rw [if_pos (show (s.pos : Int) ≥ at_ q s.rd from hq), if_pos hq, wi1 (by omega) (by omega)]
    have h2 : Sx F { J with round := (s.rd : Int) + 1 } A { s with rd := s.rd + 1 } p := ⟨h.base, h.frames, by show (s.rd : Int) + 1 = ((s.rd + 1 : Nat) : Int); omega, h.made, h.done, h.holders, h.reads, h.marks0, h.len, h.hp, h.live, h.arena⟩
    obtain ⟨J2, a2, e1, e2⟩ := h2.enter (q := q) ho q64 (by show s.rd + 1 ≤ q.length; omega) (a := { a with about := 6 }) hn hi
    have e1' : frames_join_enter { J with round := (s.rd : Int) + 1 } A q { a with about := 6, at_ := (s.pos : Int) } = some (J2, a2) := by rw [← ha]; exact e1
    refine ⟨J2, a2, ?_, e2⟩
    rw [e1', ob2_some]
  · rw [if_neg (show ¬ (s.pos : Int) ≥ at_ q s.rd from hq), if_neg hq]
    exact ⟨_, _, rfl, h.fin hn ⟨rfl, hi, rfl⟩⟩
theorem Sx.hold (h : Sx F J A s p) (ho : Others s p) {q : List Int} (q64 : q.length ≤ 64) (rd : s.rd < q.length) (hh : s.holders.length ≤ 1000) (hr : s.reads.length ≤ 1000) {a : T_frames_actor} (hn : a.number = (at_ s.live p).1) (hi : a.inOp = false) :
    ∃ J2 a2, frames_join_hold J A q a = some (J2, a2) ∧ Sm F { J2 with live := J2.live.set p a2 } A (s.hold q p) := by
  unfold frames_join_hold PM.hold
  rw [if_pos (by rw [h.holders]; omega), if_pos (by rw [h.reads]; omega)]
  have h2 : Sx F { J with run_Holders := J.run_Holders ++ [a.number], run_Reads := J.run_Reads ++ [([] : List Int)] } A { s with holders := s.holders ++ [(at_ s.live p).1], reads := s.reads ++ [[]], pos := 0 } p := by
    have h3 := h.pos_ ho 0
    exact ⟨h.base, h.frames, h.round, h.made, h.done, by show J.run_Holders ++ [a.number] = _; rw [h.holders, hn], by show J.run_Reads ++ [([] : List Int)] = _; rw [h.reads], h.marks0, h.len, h.hp, h3.live, h.arena⟩
  obtain ⟨J2, a2, e1, e2⟩ := h2.rdg (q := q) ho q64 rd (a := { a with at_ := 0, child := false }) hn hi rfl
  exact ⟨J2, a2, by rw [e1, ob2_some], e2⟩
/-- What is out, of what fits. -/
theorem Sm.out (h : Sm F J A s) (hd : s.done = false) (hp : p < s.live.length) {A' : T_cells_Arena} {s' : PM} (hs : s'.rd = s.rd ∧ s'.made = s.made ∧ s'.done = s.done ∧ s'.holders = s.holders ∧ s'.reads = s.reads ∧ s'.live = s.live ∧ s'.pos = s.pos)
    (ha : ∃ sz c w, A' = AW sz c s'.log w ∧ Cl F c (s'.taken : Int) s'.join s'.marks s'.slots) : Sx F J A' s' p := by
  obtain ⟨a1, a2, a3, a4, a5, a6, a7⟩ := hs
  exact ⟨h.base, h.frames, by rw [a1]; exact h.round, by rw [a2]; exact h.made, by rw [a3]; exact h.done, by rw [a4]; exact h.holders, by rw [a5]; exact h.reads, h.marks0, by rw [a6]; exact h.len, by rw [a6]; exact hp, fun i hi _ => by rw [a6] at hi ⊢; rw [a7]; exact h.live hd i hi, ha⟩
end
end Go.Proofs.Ytnghahgfcaolbaa.Mo
