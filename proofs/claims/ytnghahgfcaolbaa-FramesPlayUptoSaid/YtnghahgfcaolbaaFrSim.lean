/- The document's play of a parent and its children goes by the small machine. No memory is spoken of. -/
import Derived.Test.YtnghahgfcaolbaaGpAll
namespace Go.Proofs.Ytnghahgfcaolbaa.Mo
open Go Go.Proofs.Ytnghahgfcaolbaa.SL Go.Proofs.Ytnghahgfcaolbaa.GX
set_option linter.unusedVariables false
set_option linter.unusedSimpArgs false
abbrev RA := T_plunderref8_Actor
/-- The numbers of those that are not over. -/
def alv : Nat → List RA → List Int
  | _, [] => []
  | i, a :: r => if a.Does = 11 then alv (i + 1) r else (i : Int) :: alv (i + 1) r
theorem alv_ge : ∀ (l : List RA) (i : Nat) (x : Int), x ∈ alv i l → (i : Int) ≤ x
  | [], _, _, h => by simp [alv] at h
  | a :: r, i, x, h => by
    unfold alv at h
    by_cases ha : a.Does = 11
    · rw [if_pos ha] at h; have := alv_ge r (i + 1) x h; omega
    · rw [if_neg ha, List.mem_cons] at h
      rcases h with h | h
      · omega
      · have := alv_ge r (i + 1) x h; omega
theorem alv_app : ∀ (l : List RA) (i : Nat) (a : RA), a.Does ≠ 11 → alv i (l ++ [a]) = alv i l ++ [((i + l.length : Nat) : Int)]
  | [], i, a, h => by simp [alv, h]
  | b :: r, i, a, h => by
    show alv i (b :: (r ++ [a])) = _
    unfold alv
    rw [alv_app r (i + 1) a h, List.length_cons, show i + 1 + r.length = i + (r.length + 1) by omega]
    by_cases hb : b.Does = 11
    · rw [if_pos hb, if_pos hb]
    · rw [if_neg hb, if_neg hb]; rfl
theorem alv_get : ∀ (l : List RA) (i p : Nat) (x : Int), (alv i l)[p]? = some x → ∃ w, x = ((i + w : Nat) : Int) ∧ w < l.length ∧ (at_ l w).Does ≠ 11
  | [], _, _, _, h => by simp [alv] at h
  | a :: r, i, p, x, h => by
    unfold alv at h
    by_cases ha : a.Does = 11
    · rw [if_pos ha] at h
      obtain ⟨w, e, h1, h2⟩ := alv_get r (i + 1) p x h
      exact ⟨w + 1, by rw [e]; omega, by simpa using h1, by simpa [at_] using h2⟩
    · rw [if_neg ha] at h
      cases p with
      | zero => simp at h; exact ⟨0, by omega, by simp, by simpa [at_] using ha⟩
      | succ p =>
        obtain ⟨w, e, h1, h2⟩ := alv_get r (i + 1) p x (by simpa using h)
        exact ⟨w + 1, by rw [e]; omega, by simpa using h1, by simpa [at_] using h2⟩
theorem alv_inj : ∀ (l : List RA) (i p p' : Nat) (x : Int), (alv i l)[p]? = some x → (alv i l)[p']? = some x → p = p'
  | [], _, _, _, _, h, _ => by simp [alv] at h
  | a :: r, i, p, p', x, h, h' => by
    unfold alv at h h'
    by_cases ha : a.Does = 11
    · rw [if_pos ha] at h h'; exact alv_inj r (i + 1) p p' x h h'
    · rw [if_neg ha] at h h'
      cases p with
      | zero =>
        cases p' with
        | zero => rfl
        | succ p' =>
          simp at h h'
          have := alv_ge r (i + 1) x (List.mem_of_getElem? h')
          omega
      | succ p =>
        cases p' with
        | zero =>
          simp at h h'
          have := alv_ge r (i + 1) x (List.mem_of_getElem? h)
          omega
        | succ p' => rw [alv_inj r (i + 1) p p' x (by simpa using h) (by simpa using h')]
theorem alv_set : ∀ (l : List RA) (i w : Nat) (a' : RA), w < l.length → (at_ l w).Does ≠ 11 → a'.Does ≠ 11 → alv i (l.set w a') = alv i l
  | [], _, _, _, h, _, _ => by simp at h
  | a :: r, i, 0, a', _, h, h' => by
    have h : a.Does ≠ 11 := h
    show alv i (a' :: r) = _
    unfold alv
    rw [if_neg h, if_neg h']
  | a :: r, i, w + 1, a', h1, h, h' => by
    show alv i (a :: r.set w a') = _
    unfold alv
    rw [alv_set r (i + 1) w a' (by simpa using h1) (by simpa [at_] using h) h']
theorem alv_over : ∀ (l : List RA) (i w p : Nat) (a' : RA), (alv i l)[p]? = some ((i + w : Nat) : Int) → w < l.length → (at_ l w).Does ≠ 11 → a'.Does = 11 → alv i (l.set w a') = (alv i l).eraseIdx p
  | [], _, _, _, _, _, h, _, _ => by simp at h
  | a :: r, i, 0, p, a', hp, _, h, h' => by
    have h : a.Does ≠ 11 := h
    unfold alv at hp
    rw [if_neg h] at hp
    show alv i (a' :: r) = (alv i (a :: r)).eraseIdx p
    unfold alv
    rw [if_pos h', if_neg h]
    cases p with
    | zero => rfl
    | succ p =>
      have := alv_ge r (i + 1) _ (List.mem_of_getElem? (show (alv (i + 1) r)[p]? = some ((i + 0 : Nat) : Int) by simpa using hp))
      omega
  | a :: r, i, w + 1, p, a', hp, h1, h, h' => by
    unfold alv at hp
    show alv i (a :: r.set w a') = (alv i (a :: r)).eraseIdx p
    unfold alv
    have e : (i + (w + 1) : Nat) = (i + 1) + w := by omega
    rw [e] at hp
    by_cases ha : a.Does = 11
    · rw [if_pos ha] at hp; rw [if_pos ha, if_pos ha]
      exact alv_over r (i + 1) w p a' hp (by simpa using h1) (by simpa [at_] using h) h'
    · rw [if_neg ha] at hp; rw [if_neg ha, if_neg ha]
      cases p with
      | zero => simp at hp; omega
      | succ p =>
        rw [List.eraseIdx_cons_succ, alv_over r (i + 1) w p a' (by simpa using hp) (by simpa using h1) (by simpa [at_] using h) h']
/-! ### count, live -/
section
variable {S : T_plunderref8_Scene} {K : Nat}
theorem count_l1 (hb : S.Actors.length ≤ 3000000) : ∀ (d k i : Nat) (g : Int), i + d = S.Actors.length → d < k → 0 ≤ g → g ≤ i → plunderref8_Scene_count_l1 K S k g (i : Int) = some (g + ((alv i (S.Actors.drop i)).length : Int))
  | d, k, i, g, h, hk, hg, hg2 => by
    obtain ⟨k, rfl⟩ : ∃ n, k = n + 1 := ⟨k - 1, by omega⟩
    rw [plunderref8_Scene_count_l1]
    by_cases hi : i < S.Actors.length
    · obtain ⟨d, rfl⟩ : ∃ n, d = n + 1 := ⟨d - 1, by omega⟩
      rw [if_pos (by omega), if_pos ⟨by omega, by omega⟩, Int.toNat_natCast, drop_cons hi, alv, wi1 (by omega) (by omega), wi1 hg (by omega), show ((i : Int) + 1) = ((i + 1 : Nat) : Int) by omega]
      by_cases hd : (at_ S.Actors i).Does = 11
      · rw [if_pos hd, if_pos hd, count_l1 hb d k (i + 1) g (by omega) (by omega) hg (by omega)]
      · rw [if_neg hd, if_neg hd, count_l1 hb d k (i + 1) (g + 1) (by omega) (by omega) (by omega) (by omega), List.length_cons]
        congr 1; omega
    · rw [if_neg (by omega), List.drop_eq_nil_of_le (by omega)]; simp [alv]
theorem count_ok (hb : S.Actors.length ≤ 3000000) (hK : S.Actors.length < K) (q : List Int) : plunderref8_Scene_count K S q = some ((alv 0 S.Actors).length : Int) := by
  unfold plunderref8_Scene_count
  have := count_l1 (K := K) hb S.Actors.length K 0 0 (by omega) hK (by omega) (by omega)
  rw [show ((0 : Nat) : Int) = 0 by rfl] at this
  rw [this, List.drop_zero]; congr 1; omega
theorem live_l1 (hb : S.Actors.length ≤ 3000000) : ∀ (d k i p : Nat) (x : Int), i + d = S.Actors.length → d < k → p ≤ 3000000 → (alv i (S.Actors.drop i))[p]? = some x → plunderref8_Scene_live_l1 K S k (p : Int) (i : Int) = some x
  | d, k, i, p, x, h, hk, hp, hx => by
    obtain ⟨k, rfl⟩ : ∃ n, k = n + 1 := ⟨k - 1, by omega⟩
    rw [plunderref8_Scene_live_l1]
    by_cases hi : i < S.Actors.length
    · obtain ⟨d, rfl⟩ : ∃ n, d = n + 1 := ⟨d - 1, by omega⟩
      rw [drop_cons hi, alv] at hx
      rw [if_pos (by omega), if_pos ⟨by omega, by omega⟩, Int.toNat_natCast, wi1 (g := (i : Int)) (by omega) (by omega), show ((i : Int) + 1) = ((i + 1 : Nat) : Int) by omega]
      by_cases hd : (at_ S.Actors i).Does = 11
      · rw [if_pos hd] at hx; rw [if_pos hd]; exact live_l1 hb d k (i + 1) p x (by omega) (by omega) hp hx
      · rw [if_neg hd] at hx; rw [if_neg hd]
        cases p with
        | zero => simp at hx; rw [if_pos (by rfl), hx]
        | succ p =>
          rw [if_neg (by omega), wi_in (by omega), show ((p + 1 : Nat) : Int) - 1 = (p : Int) by omega]
          exact live_l1 hb d k (i + 1) p x (by omega) (by omega) (by omega) (by simpa using hx)
    · rw [List.drop_eq_nil_of_le (by omega)] at hx; simp [alv] at hx
theorem live_ok (hb : S.Actors.length ≤ 3000000) (hK : S.Actors.length < K) (q : List Int) {p : Nat} {x : Int} (hp : p ≤ 3000000) (hx : (alv 0 S.Actors)[p]? = some x) : plunderref8_Scene_live K S q (p : Int) = some x := by
  unfold plunderref8_Scene_live
  have := live_l1 (K := K) hb S.Actors.length K 0 p x (by omega) hK hp (by rw [List.drop_zero]; exact hx)
  exact this
end
/-! ### how the scene and the machine stand to each other -/
def ARr (a : RA) : Ab → Prop
  | .alloc0 => a.Does = 0
  | .mark0 => a.Does = 1
  | .alloc => a.Does = 2
  | .fork fr => a.Does = 3 ∧ a.Frame = (fr : Int)
  | .sync => a.Does = 4
  | .back => a.Does = 5
  | .start fr k v => a.Does = 7 ∧ a.Frame = (fr : Int) ∧ a.Slot = (k : Int) ∧ a.V = v
  | .store k v => a.Does = 8 ∧ a.Slot = (k : Int) ∧ a.V = v
  | .leave k v => a.Does = 9
  | .last k v => a.Does = 10
  | .read => a.Does = 6
theorem ARr_n {a : RA} {b : Ab} (h : ARr a b) : a.Does ≠ 11 := by
  cases b <;> simp only [ARr] at h <;> omega
def slotsOf (S : T_plunderref8_Scene) : List Int := [S.Slots_0, S.Slots_1, S.Slots_2, S.Slots_3, S.Slots_4, S.Slots_5, S.Slots_6, S.Slots_7]
/-- What does not speak of the actors. -/
structure Rg (S : T_plunderref8_Scene) (s : PM) : Prop where
  round : S.Round = (s.rd : Int)
  join : S.Join = s.join
  slots : slotsOf S = s.slots
  marks : S.Marks = s.marks
  taken : S.Taken = (s.taken : Int)
  made : S.Actors.length = s.made
  done : S.Run_Done = s.done
  holders : S.Run_Holders = s.holders
  reads : S.Run_Reads = s.reads
  log : S.Run_Log = s.log
structure Pz (S : T_plunderref8_Scene) (s : PM) : Prop where
  fk : s.done = false → s.reads.length = s.rd → S.Forked = if s.taken ≤ 1 then 0 else (s.pos : Int)
  ft : s.done = false → s.reads.length = s.rd + 1 → S.Fetched = (s.pos : Int)
structure RS (S : T_plunderref8_Scene) (s : PM) : Prop where
  g : Rg S s
  z : Pz S s
  live : s.done = false → alv 0 S.Actors = s.live.map (·.1)
  act : s.done = false → ∀ i, i < s.live.length → ARr (at_ S.Actors (at_ s.live i).1.toNat) (at_ s.live i).2
/-- .. with the actor at p out, who is not over. -/
structure RX (S : T_plunderref8_Scene) (s : PM) (p w : Nat) : Prop where
  g : Rg S s
  hp : p < s.live.length
  hw : (at_ s.live p).1 = (w : Int)
  hl : w < S.Actors.length
  nov : (at_ S.Actors w).Does ≠ 11
  live : alv 0 S.Actors = s.live.map (·.1)
  act : ∀ i, i < s.live.length → i ≠ p → ARr (at_ S.Actors (at_ s.live i).1.toNat) (at_ s.live i).2
section
variable {S : T_plunderref8_Scene} {s : PM} {p w : Nat} {q : List Int}
theorem map_at {l : List (Int × Ab)} {i : Nat} (h : i < l.length) : (l.map (·.1))[i]? = some (at_ l i).1 := by
  rw [List.getElem?_map, get_at h]; rfl
theorem RS.out (h : RS S s) (hd : s.done = false) (hp : p < s.live.length) : ∃ w, RX S s p w ∧ ARr (at_ S.Actors w) (at_ s.live p).2 := by
  have e : (alv 0 S.Actors)[p]? = some (at_ s.live p).1 := by rw [h.live hd, map_at hp]
  obtain ⟨w, e1, e2, e3⟩ := alv_get _ _ _ _ e
  have hw : (at_ s.live p).1 = (w : Int) := by rw [e1]; omega
  have ha := h.act hd p hp
  rw [hw, Int.toNat_natCast] at ha
  exact ⟨w, ⟨h.g, hp, hw, e2, e3, h.live hd, fun i hi _ => h.act hd i hi⟩, ha⟩
theorem RX.other (h : RX S s p w) {i : Nat} (hi : i < s.live.length) (hne : i ≠ p) : ∃ u : Nat, (at_ s.live i).1 = (u : Int) ∧ u ≠ w ∧ u < S.Actors.length := by
  have e : (alv 0 S.Actors)[i]? = some (at_ s.live i).1 := by rw [h.live, map_at hi]
  obtain ⟨u, e1, e2, e3⟩ := alv_get _ _ _ _ e
  refine ⟨u, by rw [e1]; omega, fun hu => hne ?_, e2⟩
  subst hu
  have e' : (alv 0 S.Actors)[p]? = some (at_ s.live p).1 := by rw [h.live, map_at h.hp]
  refine alv_inj _ _ _ _ _ e ?_
  rw [e', e1, h.hw]; congr 1; omega
/-- The actor is back. -/
theorem RX.fin (h : RX S s p w) (hz : Pz S s) {a : RA} {b : Ab} (ha : ARr a b) : RS { S with Actors := S.Actors.set w a } (s.setb p b) := by
  have hg := h.g
  refine ⟨⟨hg.round, hg.join, hg.slots, hg.marks, hg.taken, by show (S.Actors.set w a).length = _; rw [List.length_set]; exact hg.made, hg.done, hg.holders, hg.reads, hg.log⟩, ⟨hz.fk, hz.ft⟩, fun _ => ?_, fun _ i hi => ?_⟩
  · show alv 0 (S.Actors.set w a) = (s.live.set p ((at_ s.live p).1, b)).map (·.1)
    rw [alv_set _ _ _ _ h.hl h.nov (ARr_n ha), h.live, List.map_set]
    apply List.ext_getElem?
    intro k
    by_cases hk : p = k
    · subst hk; rw [List.getElem?_set_self (by rw [List.length_map]; exact h.hp), map_at h.hp]
    · rw [List.getElem?_set_ne hk]
  · have hi' : i < s.live.length := by have : i < (s.live.set p ((at_ s.live p).1, b)).length := hi; rwa [List.length_set] at this
    show ARr (at_ (S.Actors.set w a) (at_ (s.live.set p ((at_ s.live p).1, b)) i).1.toNat) (at_ (s.live.set p ((at_ s.live p).1, b)) i).2
    by_cases e : i = p
    · subst e
      rw [at_set_same hi']
      show ARr (at_ (S.Actors.set w a) (at_ s.live i).1.toNat) b
      rw [h.hw, Int.toNat_natCast, at_set_same h.hl]; exact ha
    · rw [show at_ (s.live.set p ((at_ s.live p).1, b)) i = at_ s.live i from at_set_ne (by omega)]
      obtain ⟨u, e1, e2, e3⟩ := h.other hi' e
      have := h.act i hi' e
      rw [e1, Int.toNat_natCast] at this
      rw [e1, Int.toNat_natCast, at_set_ne (by omega)]; exact this
/-- .. is over. -/
theorem RX.over (h : RX S s p w) (hz : Pz S s) {a : RA} (ha : a.Does = 11) : RS { S with Actors := S.Actors.set w a } { s with live := s.live.eraseIdx p } := by
  have hg := h.g
  have hp := h.hp
  refine ⟨⟨hg.round, hg.join, hg.slots, hg.marks, hg.taken, by show (S.Actors.set w a).length = _; rw [List.length_set]; exact hg.made, hg.done, hg.holders, hg.reads, hg.log⟩, ⟨hz.fk, hz.ft⟩, fun _ => ?_, fun _ i hi => ?_⟩
  · show alv 0 (S.Actors.set w a) = (s.live.eraseIdx p).map (·.1)
    have e : (alv 0 S.Actors)[p]? = some ((0 + w : Nat) : Int) := by rw [h.live, map_at hp, h.hw]; congr 1; omega
    rw [alv_over _ _ _ p _ e h.hl h.nov ha, h.live]
    apply List.ext_getElem?
    intro k
    rw [List.getElem?_map]
    by_cases hk : k < p
    · rw [List.getElem?_eraseIdx_of_lt hk, List.getElem?_eraseIdx_of_lt hk, List.getElem?_map]
    · rw [List.getElem?_eraseIdx_of_ge (by omega), List.getElem?_eraseIdx_of_ge (by omega), List.getElem?_map]
  · have hi' : i < (s.live.eraseIdx p).length := hi
    rw [List.length_eraseIdx, if_pos hp] at hi'
    show ARr (at_ (S.Actors.set w a) (at_ (s.live.eraseIdx p) i).1.toNat) (at_ (s.live.eraseIdx p) i).2
    have key : ∀ j, j < s.live.length → j ≠ p → ARr (at_ (S.Actors.set w a) (at_ s.live j).1.toNat) (at_ s.live j).2 := fun j hj hne => by
      obtain ⟨u, e1, e2, e3⟩ := h.other hj hne
      have := h.act j hj hne
      rw [e1, Int.toNat_natCast] at this
      rw [e1, Int.toNat_natCast, at_set_ne (by omega)]; exact this
    by_cases e : i < p
    · rw [at_erase_lt e]; exact key i (by omega) (by omega)
    · rw [at_erase_ge (by omega)]; exact key (i + 1) (by omega) (by omega)
/-- The play is done. -/
theorem RX.done_ (h : RX S s p w) (l : List RA) (hl : l.length = S.Actors.length) : RS { S with Actors := l, Run_Done := true } { s with done := true } := by
  have hg := h.g
  exact ⟨⟨hg.round, hg.join, hg.slots, hg.marks, hg.taken, by show l.length = _; rw [hl]; exact hg.made, rfl, hg.holders, hg.reads, hg.log⟩, ⟨fun hd => by simp at hd, fun hd => by simp at hd⟩, fun hd => by simp at hd, fun hd => by simp at hd⟩
/-- Where the holder goes. -/
def PM.goes (q : List Int) (s : PM) (p : Nat) : PM := if q.length ≤ s.rd then { s with done := true } else s.setb p (if at_ q s.rd ≤ (s.pos : Int) then .sync else .alloc)
theorem RX.goes (h : RX S s p w) (hd : s.done = false) (hr : s.reads.length = s.rd) (hf : S.Forked = (s.pos : Int)) (ht : s.taken ≤ 1 → s.pos = 0) (q64 : q.length ≤ 64) (rd : s.rd ≤ q.length) : ∃ S', plunderref8_Scene_goes S q (w : Int) = some S' ∧ RS S' (s.goes q p) ∧ S'.Run_Steps = S.Run_Steps := by
  unfold plunderref8_Scene_goes PM.goes
  have hin : inr_ (w : Int) S.Actors.length := ⟨by omega, by have := h.hl; omega⟩
  have hfk : S.Forked = if s.taken ≤ 1 then 0 else (s.pos : Int) := by
    rw [hf]
    by_cases e : s.taken ≤ 1
    · rw [if_pos e, ht e]; rfl
    · rw [if_neg e]
  have hz : Pz S s := ⟨fun _ _ => hfk, fun _ h' => by omega⟩
  have hro := h.g.round
  rw [show S.Round.toNat = s.rd by omega, show ((w : Nat) : Int).toNat = w from Int.toNat_natCast w]
  by_cases e : q.length ≤ s.rd
  · rw [if_pos (by omega), if_pos hin, if_pos e]
    exact ⟨_, rfl, h.done_ _ (by rw [List.length_set]), rfl⟩
  · rw [if_neg (by omega), if_pos ⟨by omega, by omega⟩, if_neg e]
    by_cases e2 : at_ q s.rd ≤ (s.pos : Int)
    · rw [if_neg (by omega), if_pos hin, if_pos e2]
      exact ⟨_, rfl, h.fin hz (show ARr _ Ab.sync from rfl), rfl⟩
    · rw [if_pos (by omega), if_pos hin, if_neg e2]
      exact ⟨_, rfl, h.fin hz (show ARr _ Ab.alloc from rfl), rfl⟩
theorem enter_goes (hd : s.done = false) : s.enter q p = if q.length ≤ s.rd then { s with done := true } else ({ s with pos := 0 } : PM).goes q p := by
  unfold PM.enter PM.goes
  by_cases e : q.length ≤ s.rd
  · rw [if_pos e, if_pos e]
  · rw [if_neg e, if_neg e, if_neg (show ¬ q.length ≤ ({ s with pos := 0 } : PM).rd from e)]; rfl
/-- Into the next round; a read; the holder. -/
theorem RX.enter (h : RX S s p w) (hd : s.done = false) (hr : s.reads.length = s.rd) (hf : S.Forked = 0) (q64 : q.length ≤ 64) (rd : s.rd ≤ q.length) : ∃ S', plunderref8_Scene_goes S q (w : Int) = some S' ∧ RS S' (s.enter q p) ∧ S'.Run_Steps = S.Run_Steps := by
  rw [enter_goes hd]
  have hg := h.g
  have h2 : RX S { s with pos := 0 } p w := ⟨⟨hg.round, hg.join, hg.slots, hg.marks, hg.taken, hg.made, hg.done, hg.holders, hg.reads, hg.log⟩, h.hp, h.hw, h.hl, h.nov, h.live, h.act⟩
  obtain ⟨S', e1, e2, e3⟩ := h2.goes (q := q) hd hr hf (fun _ => rfl) q64 rd
  refine ⟨S', e1, ?_, e3⟩
  by_cases e : q.length ≤ s.rd
  · rw [if_pos e]
    unfold PM.goes at e2
    rw [if_pos (show q.length ≤ ({ s with pos := 0 } : PM).rd from e)] at e2
    have g := e2.g
    exact ⟨⟨g.round, g.join, g.slots, g.marks, g.taken, g.made, g.done, g.holders, g.reads, g.log⟩, ⟨fun h' => by simp at h', fun h' => by simp at h'⟩, fun h' => by simp at h', fun h' => by simp at h'⟩
  · rw [if_neg e]; exact e2
theorem RX.fetches (h : RX S s p w) (hd : s.done = false) (hr : s.reads.length = s.rd + 1) (hf : S.Fetched = (s.pos : Int)) (q64 : q.length ≤ 64) (rd : s.rd < q.length) : ∃ S', plunderref8_Scene_fetches S q (w : Int) = some S' ∧ RS S' (s.rdg q p) ∧ S'.Run_Steps = S.Run_Steps := by
  unfold plunderref8_Scene_fetches PM.rdg
  have hg := h.g
  have hin : inr_ (w : Int) S.Actors.length := ⟨by omega, by have := h.hl; omega⟩
  have hro := hg.round
  rw [if_pos ⟨by omega, by omega⟩, show S.Round.toNat = s.rd by omega, show ((w : Nat) : Int).toNat = w from Int.toNat_natCast w]
  by_cases e : at_ q s.rd ≤ (s.pos : Int)
  · rw [if_neg (by omega), if_pos e, show wi (S.Round + 1) = (s.rd : Int) + 1 by rw [hro, wi1 (by omega) (by omega)]]
    have h2 : RX { S with Round := (s.rd : Int) + 1, Forked := 0 } { s with rd := s.rd + 1 } p w := ⟨⟨by show (s.rd : Int) + 1 = ((s.rd + 1 : Nat) : Int); omega, hg.join, hg.slots, hg.marks, hg.taken, hg.made, hg.done, hg.holders, hg.reads, hg.log⟩, h.hp, h.hw, h.hl, h.nov, h.live, h.act⟩
    obtain ⟨S', e1, e2, e3⟩ := h2.enter (q := q) hd hr rfl q64 (by show s.rd + 1 ≤ q.length; omega)
    rw [e1, ob1_some]
    exact ⟨S', rfl, e2, e3⟩
  · rw [if_pos (by omega), if_pos hin, if_neg e]
    exact ⟨_, rfl, h.fin ⟨fun _ h' => by omega, fun _ _ => hf⟩ (show ARr _ Ab.read from rfl), rfl⟩
theorem RX.holds (h : RX S s p w) (hd : s.done = false) (hr : s.reads.length = s.rd) (q64 : q.length ≤ 64) (rd : s.rd < q.length) (hh : s.holders.length ≤ 1000) : ∃ S', plunderref8_Scene_holds S q (w : Int) = some S' ∧ RS S' (s.hold q p) ∧ S'.Run_Steps = S.Run_Steps := by
  unfold plunderref8_Scene_holds PM.hold
  have hg := h.g
  rw [if_pos (by rw [hg.holders]; omega), if_pos (by rw [hg.reads]; omega)]
  have h2 : RX { S with Fetched := 0, Run_Holders := S.Run_Holders ++ [(w : Int)], Run_Reads := S.Run_Reads ++ [([] : List Int)] } { s with holders := s.holders ++ [(at_ s.live p).1], reads := s.reads ++ [[]], pos := 0 } p w :=
    ⟨⟨hg.round, hg.join, hg.slots, hg.marks, hg.taken, hg.made, hg.done, by show S.Run_Holders ++ [(w : Int)] = _; rw [hg.holders, h.hw], by show S.Run_Reads ++ [([] : List Int)] = _; rw [hg.reads], hg.log⟩, h.hp, h.hw, h.hl, h.nov, h.live, h.act⟩
  obtain ⟨S', e1, e2, e3⟩ := h2.fetches (q := q) hd (by show (s.reads ++ [[]]).length = s.rd + 1; rw [List.length_append, hr]; rfl) rfl q64 rd
  rw [e1, ob1_some]
  exact ⟨S', rfl, e2, e3⟩
/-- An access is noted. -/
theorem rnote (hl : S.Run_Log.length ≤ 1073741824) (q : List Int) (a b c d e : Int) : plunderref8_Scene_note S q a b c d e = some { S with Run_Log := S.Run_Log ++ [⟨a, b, c, d, e, true⟩] } := by
  unfold plunderref8_Scene_note
  rw [if_pos (by omega)]
/-- What is out, of what fits. -/
theorem RX.to (h : RX S s p w) {S' : T_plunderref8_Scene} {s' : PM} (g : Rg S' s') (ha : S'.Actors = S.Actors) (hl : s'.live = s.live) : RX S' s' p w :=
  ⟨g, by rw [hl]; exact h.hp, by rw [hl]; exact h.hw, by rw [ha]; exact h.hl, by rw [ha]; exact h.nov, by rw [ha, hl]; exact h.live, fun i hi hne => by rw [hl] at hi ⊢; rw [ha]; exact h.act i hi hne⟩
theorem mode_reads {F : Nat} {P : Int} (hq : ∀ i, i < q.length → 0 ≤ at_ q i ∧ at_ q i ≤ 8) (hm : Mode q F s P) (hd : s.done = false) (hp : p < s.live.length) : (match (at_ s.live p).2 with | .read => s.reads.length = s.rd + 1 ∧ s.live = [at_ s.live p] ∧ (at_ s.reads s.rd).length = s.pos | _ => s.reads.length = s.rd) ∧ (match (at_ s.live p).2 with | .alloc0 => s.taken ≤ 0 | .mark0 => s.taken ≤ 1 | .alloc => (s.taken ≤ 1 → s.pos = 0) | .fork fr => 2 ≤ s.taken | _ => True) := by
  have kk : ∀ {b : Ab}, kok F b → s.reads.length = s.rd → (match b with | .read => s.reads.length = s.rd + 1 ∧ s.live = [at_ s.live p] ∧ (at_ s.reads s.rd).length = s.pos | _ => s.reads.length = s.rd) ∧ (match b with | .alloc0 => s.taken ≤ 0 | .mark0 => s.taken ≤ 1 | .alloc => (s.taken ≤ 1 → s.pos = 0) | .fork fr => 2 ≤ s.taken | _ => True) := fun {b} hb hr => by
    cases b <;> simp [kok] at hb <;> exact ⟨hr, trivial⟩
  cases hm with
  | fin h => rw [hd] at h; cases h
  | ini0 x a1 a2 a3 a4 a5 a6 => rw [one_live a2 hp, a2]; exact ⟨by show s.reads.length = s.rd; omega, by show s.taken ≤ 0; omega⟩
  | ini1 x a1 a2 a3 a4 a5 a6 => rw [one_live a2 hp, a2]; exact ⟨by show s.reads.length = s.rd; omega, by show s.taken ≤ 1; omega⟩
  | fa p0 a1 a2 a3 a4 a5 a6 a7 a8 a9 a10 =>
    by_cases e : p = p0
    · subst e; rw [a3]; refine ⟨a9, fun h => ?_⟩
      have := (pre_le hq s.rd).2; omega
    · exact kk (a4 p hp e) a9
  | ff p0 fr a1 a2 a3 a3' a4 a5 a6 a7 a8 a9 a10 =>
    by_cases e : p = p0
    · subst e; rw [a3]; exact ⟨a9, by have := (pre_le hq s.rd).2; show 2 ≤ s.taken; omega⟩
    · exact kk (a4 p hp e) a9
  | fs p0 a1 a2 a3 a4 a5 a6 a7 a8 a9 a10 =>
    by_cases e : p = p0
    · subst e; rw [a3]; exact ⟨a9, trivial⟩
    · exact kk (a4 p hp e) a9
  | w a1 a2 a4 a5 a6 a7 a8 a9 a10 => exact kk (a4 p hp) a9
  | l x b a1 a2 a3 a5 a6 a7 a8 a9 =>
    rw [one_live a2 hp, a2]
    rcases a3 with rfl | ⟨k, v, rfl⟩ <;> exact ⟨a9, trivial⟩
  | r x a1 a2 a3 a4 a5 a6 a7 a8 => rw [one_live a2 hp, a2]; exact ⟨⟨a7, rfl, a8⟩, trivial⟩
end
end Go.Proofs.Ytnghahgfcaolbaa.Mo
