/- What a play reads, and its marks. -/
import Derived.Test.YtnghahgfcaolbaaFpAllY
namespace Go.Proofs.Ytnghahgfcaolbaa.Mo
open Go Go.Proofs.Ytnghahgfcaolbaa.SL Go.Proofs.Ytnghahgfcaolbaa.GX
set_option linter.unusedVariables false
set_option linter.unusedSimpArgs false
/-! ### sums over the live -/
def wsum (w : Ab → Int) : List (Int × Ab) → Int
  | [] => 0
  | x :: l => w x.2 + wsum w l
section
variable {w : Ab → Int}
theorem wsum_cons (x : Int × Ab) (l : List (Int × Ab)) : wsum w (x :: l) = w x.2 + wsum w l := rfl
theorem wsum_app (a b : List (Int × Ab)) : wsum w (a ++ b) = wsum w a + wsum w b := by
  induction a with
  | nil => simp [wsum]
  | cons x a ih => simp only [List.cons_append, wsum_cons, ih]; omega
theorem wsum_set : ∀ (l : List (Int × Ab)) (p : Nat) (x : Int × Ab), p < l.length → wsum w (l.set p x) + w (at_ l p).2 = wsum w l + w x.2
  | [], p, x, h => by simp at h
  | y :: l, 0, x, h => by
    have : at_ (y :: l) 0 = y := rfl
    simp only [List.set_cons_zero, wsum_cons, this]; omega
  | y :: l, p + 1, x, h => by
    have hl : p < l.length := by simpa using h
    have h1 := wsum_set l p x hl
    have h2 : at_ (y :: l) (p + 1) = at_ l p := rfl
    simp only [List.set_cons_succ, wsum_cons, h2]; omega
theorem wsum_erase : ∀ (l : List (Int × Ab)) (p : Nat), p < l.length → wsum w (l.eraseIdx p) + w (at_ l p).2 = wsum w l
  | [], p, h => by simp at h
  | y :: l, 0, h => by
    have : at_ (y :: l) 0 = y := rfl
    simp only [List.eraseIdx_cons_zero, wsum_cons, this]; omega
  | y :: l, p + 1, h => by
    have hl : p < l.length := by simpa using h
    have h1 := wsum_erase l p hl
    have h2 : at_ (y :: l) (p + 1) = at_ l p := rfl
    simp only [List.eraseIdx_cons_succ, wsum_cons, h2]; omega
end
/-- Who will mark a frame; who will store into a slot. -/
def wm (f : Nat) : Ab → Int
  | .mark0 => if f = 0 then 1 else 0
  | .fork fr => if fr = f then 1 else 0
  | .start fr _ _ => if fr = f then 1 else 0
  | _ => 0
def ws (k : Nat) : Ab → Int
  | .start _ j _ => if j = k then 1 else 0
  | .store j _ => if j = k then 1 else 0
  | _ => 0
def kv (rd : Nat) : Ab → Prop
  | .start _ k v => v = 100 * (rd : Int) + (k : Int)
  | .store k v => v = 100 * (rd : Int) + (k : Int)
  | _ => True
/-- How far the slots are known. -/
def need (q : List Int) (s : PM) : Int := if s.reads.length = s.rd + 1 then at_ q s.rd else s.pos
theorem need0 {q : List Int} {s : PM} (h : s.reads.length ≠ s.rd + 1) : need q s = s.pos := if_neg h
theorem need1 {q : List Int} {s : PM} (h : s.reads.length = s.rd + 1) : need q s = at_ q s.rd := if_pos h
structure Rd (q : List Int) (s : PM) : Prop where
  full : ∀ i, i < s.reads.length → ((at_ s.reads i).length : Int) ≤ at_ q i ∧ (i < s.rd → ((at_ s.reads i).length : Int) = at_ q i)
  val : ∀ i k, i < s.reads.length → k < (at_ s.reads i).length → at_ (at_ s.reads i) k = 100 * (i : Int) + (k : Int)
  rl : s.reads.length ≤ s.rd + 1
  rq : s.reads.length ≤ q.length
structure Rs (q : List Int) (s : PM) : Prop where
  sl : ∀ k : Nat, (k : Int) < need q s → at_ s.slots k = 100 * (s.rd : Int) + (k : Int) ∨ 0 < wsum (ws k) s.live
  kv : ∀ x ∈ s.live, kv s.rd x.2
  sll : s.slots.length = 8
def Rm (F : Nat) (s : PM) : Prop := ∀ f : Nat, f < F → at_ s.marks f + wsum (wm f) s.live = if f < s.taken then 1 else 0
structure Rv (q : List Int) (F : Nat) (s : PM) : Prop where
  rd : Rd q s
  dn : s.done = true → s.rd = q.length ∧ s.reads.length = q.length ∧ ∀ f, f < F → at_ s.marks f = 1
  op : s.done = false → Rs q s ∧ Rm F s
section
variable {q : List Int} {F : Nat} {s : PM} {P : Int} {p : Nat}
theorem wm01 (f : Nat) (b : Ab) : 0 ≤ wm f b ∧ wm f b ≤ 1 := by
  unfold wm; split <;> first | (split <;> omega) | omega
theorem wsum_nn {w : Ab → Int} (h : ∀ b, 0 ≤ w b) (l : List (Int × Ab)) : 0 ≤ wsum w l := by
  induction l with
  | nil => simp [wsum]
  | cons x l ih => rw [wsum_cons]; have := h x.2; omega
theorem ws_nn (k : Nat) (b : Ab) : 0 ≤ ws k b := by
  unfold ws; split <;> first | (split <;> omega) | omega
theorem kv_set {rd : Nat} {l : List (Int × Ab)} {b : Ab} {y : Int} (h : ∀ x ∈ l, kv rd x.2) (hb : kv rd b) : ∀ x ∈ l.set p (y, b), kv rd x.2 := fun x hx => by
  rcases List.mem_or_eq_of_mem_set hx with h1 | h1
  · exact h x h1
  · rw [h1]; exact hb
theorem kv_erase {rd : Nat} {l : List (Int × Ab)} (h : ∀ x ∈ l, kv rd x.2) : ∀ x ∈ l.eraseIdx p, kv rd x.2 := fun x hx => h x (List.mem_of_mem_eraseIdx hx)
/-- The holder enters a round: all before are read whole. -/
theorem Rd.enter (hfr : (F : Int) = 1 + isum q) (hrd : s.rd ≤ q.length) {x : Int × Ab} (hl : s.live = [x]) (h : Rd q s) (hr : s.reads.length = s.rd) (ht : (s.taken : Int) = 1 + pre q s.rd) (hsl : s.slots.length = 8) (hm : ∀ f : Nat, f < F → at_ s.marks f = if f < s.taken then 1 else 0) (hd : s.done = false) : Rv q F (s.enter q 0) := by
  unfold PM.enter
  by_cases e : q.length ≤ s.rd
  · rw [if_pos e]
    have hpre : pre q s.rd = isum q := by unfold pre; rw [List.take_of_length_le (by omega)]
    exact ⟨⟨h.full, h.val, h.rl, h.rq⟩, fun _ => ⟨by show s.rd = q.length; omega, by show s.reads.length = q.length; omega, fun f hf => by show at_ s.marks f = 1; rw [hm f hf, if_pos (by omega)]⟩, fun hc => by cases hc⟩
  · rw [if_neg e]
    have hset : ∀ b, ((({ s with pos := 0 } : PM).setb 0 b).live) = [(x.1, b)] := fun b => by
      show s.live.set 0 ((at_ s.live 0).1, b) = _
      rw [hl]; rfl
    refine ⟨⟨h.full, h.val, h.rl, h.rq⟩, fun hc => absurd (show s.done = true from hc) (by rw [hd]; decide), fun _ => ⟨⟨fun k hk => ?_, fun y hy => ?_, hsl⟩, fun f hf => ?_⟩⟩
    · have hn : need q (({ s with pos := 0 } : PM).setb 0 (if at_ q s.rd ≤ 0 then Ab.sync else Ab.alloc)) = 0 := need0 (show s.reads.length ≠ s.rd + 1 by omega)
      rw [hn] at hk; omega
    · rw [hset] at hy
      rw [List.mem_singleton.1 hy]
      show kv s.rd (if at_ q s.rd ≤ 0 then Ab.sync else Ab.alloc)
      split <;> trivial
    · rw [hset, wsum_cons]
      have : wm f (if at_ q s.rd ≤ 0 then Ab.sync else Ab.alloc) = 0 := by split <;> rfl
      show at_ s.marks f + (wm f (if at_ q s.rd ≤ 0 then Ab.sync else Ab.alloc) + wsum (wm f) []) = if f < s.taken then 1 else 0
      rw [this, hm f hf]; show _ + (0 + (0 : Int)) = _; omega
/-- The holder reads on. -/
theorem Rd.rdg (hfr : (F : Int) = 1 + isum q) {x : Int × Ab} (hl : s.live = [x]) (h : Rd q s) (hrd : s.rd < q.length) (hp : (s.pos : Int) ≤ at_ q s.rd) (hr : s.reads.length = s.rd + 1) (hlr : (at_ s.reads s.rd).length = s.pos) (ht : (s.taken : Int) = 1 + pre q s.rd + at_ q s.rd) (hsl : s.slots.length = 8) (hs : ∀ k : Nat, (k : Int) < at_ q s.rd → at_ s.slots k = 100 * (s.rd : Int) + (k : Int)) (hm : ∀ f : Nat, f < F → at_ s.marks f = if f < s.taken then 1 else 0) (hd : s.done = false) : Rv q F (s.rdg q 0) := by
  unfold PM.rdg
  by_cases e : at_ q s.rd ≤ (s.pos : Int)
  · rw [if_pos e]
    have h2 : Rd q ({ s with rd := s.rd + 1 } : PM) := ⟨fun i hi => ⟨(h.full i hi).1, fun hlt => by
        by_cases e2 : i < s.rd
        · exact (h.full i hi).2 e2
        · have : i = s.rd := by have : i < s.rd + 1 := hlt; omega
          subst this; show ((at_ s.reads s.rd).length : Int) = _; rw [hlr]; omega⟩, h.val, by show s.reads.length ≤ s.rd + 1 + 1; omega, h.rq⟩
    exact Rd.enter hfr (show s.rd + 1 ≤ q.length from hrd) hl h2 (by show s.reads.length = s.rd + 1; exact hr) (by show (s.taken : Int) = 1 + pre q (s.rd + 1); rw [pre_next hrd]; omega) hsl hm hd
  · rw [if_neg e]
    have hset : (s.setb 0 .read).live = [(x.1, .read)] := by
      show s.live.set 0 ((at_ s.live 0).1, Ab.read) = _
      rw [hl]; rfl
    refine ⟨⟨h.full, h.val, h.rl, h.rq⟩, fun hc => absurd (show s.done = true from hc) (by rw [hd]; decide), fun _ => ⟨⟨fun k hk => ?_, fun y hy => ?_, hsl⟩, fun f hf => ?_⟩⟩
    · have hn : need q (s.setb 0 .read) = at_ q s.rd := need1 (show s.reads.length = s.rd + 1 from hr)
      rw [hn] at hk; exact .inl (hs k hk)
    · rw [hset] at hy
      rw [List.mem_singleton.1 hy]; trivial
    · rw [hset, wsum_cons]
      show at_ s.marks f + (0 + (0 : Int)) = if f < s.taken then 1 else 0
      rw [hm f hf]; omega
/-- The holder takes a round. -/
theorem Rd.hold (hfr : (F : Int) = 1 + isum q) (hq : 0 ≤ at_ q s.rd) {x : Int × Ab} (hl : s.live = [x]) (h : Rd q s) (hrd : s.rd < q.length) (hr : s.reads.length = s.rd) (ht : (s.taken : Int) = 1 + pre q s.rd + at_ q s.rd) (hsl : s.slots.length = 8) (hs : ∀ k : Nat, (k : Int) < at_ q s.rd → at_ s.slots k = 100 * (s.rd : Int) + (k : Int)) (hm : ∀ f : Nat, f < F → at_ s.marks f = if f < s.taken then 1 else 0) (hd : s.done = false) : Rv q F (s.hold q 0) := by
  unfold PM.hold
  have hlast : at_ (s.reads ++ [([] : List Int)]) s.rd = [] := by rw [← hr, at_app]
  have h2 : Rd q ({ s with holders := s.holders ++ [(at_ s.live 0).1], reads := s.reads ++ [[]], pos := 0 } : PM) := by
    refine ⟨fun i hi => ?_, fun i k hi hk => ?_, by show (s.reads ++ [[]]).length ≤ s.rd + 1; rw [List.length_append, hr]; simp, by show (s.reads ++ [[]]).length ≤ q.length; rw [List.length_append, hr]; simp; omega⟩
    · have hi' : i < (s.reads ++ [([] : List Int)]).length := hi
      rw [List.length_append, hr] at hi'
      show ((at_ (s.reads ++ [([] : List Int)]) i).length : Int) ≤ at_ q i ∧ (i < s.rd → ((at_ (s.reads ++ [([] : List Int)]) i).length : Int) = at_ q i)
      by_cases e : i < s.rd
      · rw [at_app_ne _ (by omega)]; exact h.full i (by omega)
      · have : i = s.rd := by simp at hi'; omega
        subst this; rw [hlast]; exact ⟨by simpa using hq, fun hc => absurd hc e⟩
    · have hi' : i < (s.reads ++ [([] : List Int)]).length := hi
      have hk' : k < (at_ (s.reads ++ [([] : List Int)]) i).length := hk
      rw [List.length_append, hr] at hi'
      show at_ (at_ (s.reads ++ [([] : List Int)]) i) k = _
      by_cases e : i < s.rd
      · rw [at_app_ne _ (by omega)] at hk' ⊢; exact h.val i k (by omega) hk'
      · have : i = s.rd := by simp at hi'; omega
        subst this; rw [hlast] at hk'; simp at hk'
  exact Rd.rdg hfr hl h2 hrd hq (by show (s.reads ++ [[]]).length = s.rd + 1; rw [List.length_append, hr]; rfl) (by show (at_ (s.reads ++ [[]]) s.rd).length = 0; rw [hlast]; rfl) ht hsl hs hm hd
/-- Where a step stands. -/
def At (q : List Int) (F : Nat) (s : PM) : Ab → Prop
  | .alloc0 => s.taken = 0 ∧ s.reads.length = s.rd
  | .mark0 => (∃ x, s.live = [x]) ∧ s.taken = 1 ∧ s.rd = 0 ∧ s.reads.length = s.rd
  | .alloc => s.reads.length = s.rd
  | .fork fr => s.reads.length = s.rd
  | .sync => s.reads.length = s.rd
  | .back => (∃ x, s.live = [x]) ∧ s.rd < q.length ∧ (s.pos : Int) = at_ q s.rd ∧ (s.taken : Int) = 1 + pre q s.rd + at_ q s.rd ∧ s.reads.length = s.rd
  | .start fr k v => k < 8 ∧ fr < F ∧ s.reads.length = s.rd
  | .store k v => k < 8 ∧ s.reads.length = s.rd
  | .leave k v => s.reads.length = s.rd
  | .last k v => (∃ x, s.live = [x]) ∧ s.rd < q.length ∧ (s.pos : Int) = at_ q s.rd ∧ (s.taken : Int) = 1 + pre q s.rd + at_ q s.rd ∧ s.reads.length = s.rd
  | .read => (∃ x, s.live = [x]) ∧ s.rd < q.length ∧ (s.pos : Int) < at_ q s.rd ∧ (s.taken : Int) = 1 + pre q s.rd + at_ q s.rd ∧ s.reads.length = s.rd + 1 ∧ (at_ s.reads s.rd).length = s.pos
theorem at_kid {b : Ab} (h : kok F b) (hr : s.reads.length = s.rd) : At q F s b := by
  cases b <;> simp only [kok] at h
  · exact ⟨h.2, h.1, hr⟩
  · exact ⟨h, hr⟩
  · exact hr
theorem mode_at (hm : Mode q F s P) (hd : s.done = false) (hp : p < s.live.length) : At q F s (at_ s.live p).2 := by
  have one : ∀ {x : Int} {b : Ab}, s.live = [(x, b)] → (at_ s.live p).2 = b := fun {x b} h => by
    have := one_live h hp; subst this; rw [h]; rfl
  cases hm with
  | fin h => rw [hd] at h; cases h
  | ini0 x a1 a2 a3 a4 a5 a6 => rw [one a2]; exact ⟨a3, by omega⟩
  | ini1 x a1 a2 a3 a4 a5 a6 => rw [one a2]; exact ⟨⟨_, a2⟩, a3, a4, by omega⟩
  | fa p0 a1 a2 a3 a4 a5 a6 a7 a8 a9 a10 =>
    by_cases e : p = p0
    · subst e; rw [a3]; exact a9
    · exact at_kid (a4 p hp e) a9
  | ff p0 fr a1 a2 a3 a4 a5 a6 a7 a8 a9 a10 a11 =>
    by_cases e : p = p0
    · subst e; rw [a3]; exact a10
    · exact at_kid (a5 p hp e) a10
  | fs p0 a1 a2 a3 a4 a5 a6 a7 a8 a9 a10 =>
    by_cases e : p = p0
    · subst e; rw [a3]; exact a9
    · exact at_kid (a4 p hp e) a9
  | w a1 a2 a3 a4 a5 a6 a7 a8 a9 => exact at_kid (a3 p hp) a8
  | l x b a1 a2 a3 a4 a5 a6 a7 a8 =>
    rw [one a2]
    rcases a3 with rfl | ⟨k, v, rfl⟩
    · exact ⟨⟨_, a2⟩, a4, a5, a7, a8⟩
    · exact ⟨⟨_, a2⟩, a4, a5, a7, a8⟩
  | r x a1 a2 a3 a4 a5 a6 a7 a8 => rw [one a2]; exact ⟨⟨_, a2⟩, a3, a4, a6, a7, a8⟩
theorem single {x : Int × Ab} (hl : s.live = [x]) (hp : p < s.live.length) (w : Ab → Int) : p = 0 ∧ wsum w s.live = w (at_ s.live p).2 := by
  have := one_live hl hp; subst this
  refine ⟨rfl, ?_⟩
  rw [hl, wsum_cons]; show w x.2 + 0 = w x.2; omega
/-- A step that turns the live only. -/
theorem Rv.go (h : Rv q F s) (hd : s.done = false) (hr : s.reads.length = s.rd) (s' : PM) (e1 : s'.rd = s.rd) (e2 : s'.reads = s.reads) (e3 : s'.done = s.done)
    (hsl : ∀ k : Nat, (k : Int) < (s'.pos : Int) → at_ s'.slots k = 100 * (s.rd : Int) + (k : Int) ∨ 0 < wsum (ws k) s'.live) (hkv : ∀ x ∈ s'.live, kv s.rd x.2) (hll : s'.slots.length = 8) (hm : Rm F s') : Rv q F s' := by
  refine ⟨⟨fun i hi => ?_, fun i k hi hk => ?_, by rw [e1, e2]; exact h.rd.rl, by rw [e2]; exact h.rd.rq⟩, fun hc => absurd hc (by rw [e3, hd]; decide), fun _ => ⟨⟨fun k hk => ?_, by rw [e1]; exact hkv, hll⟩, hm⟩⟩
  · rw [e2] at hi ⊢; rw [e1]; exact h.rd.full i hi
  · rw [e2] at hi hk ⊢; exact h.rd.val i k hi hk
  · rw [need0 (by rw [e1, e2]; omega)] at hk; rw [e1]; exact hsl k hk
theorem step_val (hi : Inv q F s) (hm : Mode q F s P) (hd : s.done = false) (hp : p < s.live.length) (h : Rv q F s) : Rv q F (s.step q p) := by
  obtain ⟨hS, hM⟩ := h.op hd
  have hat := mode_at hm hd hp
  have hml := hi.ml
  have hkp : kv s.rd (at_ s.live p).2 := hS.kv _ (by unfold at_; rw [List.getD_eq_getElem?_getD, List.getElem?_eq_getElem hp]; exact List.getElem_mem hp)
  have hset : ∀ (w : Ab → Int) (b : Ab), wsum w (s.live.set p ((at_ s.live p).1, b)) + w (at_ s.live p).2 = wsum w s.live + w b := fun w b => wsum_set s.live p ((at_ s.live p).1, b) hp
  have hers : ∀ (w : Ab → Int), wsum w (s.live.eraseIdx p) + w (at_ s.live p).2 = wsum w s.live := fun w => wsum_erase s.live p hp
  cases hb : (at_ s.live p).2 with
  | alloc0 =>
    rw [hb] at hat hset
    obtain ⟨t1, t2⟩ := hat
    simp only [PM.step, hb]
    refine h.go hd t2 _ rfl rfl rfl (fun k hk => ?_) (kv_set hS.kv trivial) hS.sll (fun f hf => ?_)
    · have h2 : wsum (ws k) (s.live.set p ((at_ s.live p).1, .mark0)) = wsum (ws k) s.live := by have := hset (ws k) .mark0; simp only [ws] at this; omega
      show _ ∨ 0 < wsum (ws k) (s.live.set p ((at_ s.live p).1, .mark0))
      rw [h2]; exact hS.sl k (by rw [need0 (by omega)]; exact hk)
    · show at_ s.marks f + wsum (wm f) (s.live.set p ((at_ s.live p).1, .mark0)) = if f < s.taken + 1 then 1 else 0
      have h2 := hset (wm f) .mark0; have h3 := hM f hf
      simp only [wm] at h2; rw [t1] at h3 ⊢
      rw [if_neg (by omega)] at h3
      by_cases e : f = 0
      · rw [if_pos e] at h2; rw [if_pos (by omega)]; omega
      · rw [if_neg e] at h2; rw [if_neg (by omega)]; omega
  | mark0 =>
    rw [hb] at hat
    obtain ⟨⟨x, t1⟩, t2, t3, t4⟩ := hat
    obtain ⟨p0, p1⟩ := single t1 hp (wm 0)
    subst p0
    simp only [PM.step, hb]
    exact
      Rd.enter (s := ({ s with marks := s.marks.set 0 (at_ s.marks 0 + 1) } : PM).note (at_ s.live 0).1 3 2 1 (at_ s.marks 0 + 1)) hi.fr hi.rd (x := x) t1 ⟨h.rd.full, h.rd.val, h.rd.rl, h.rd.rq⟩ t4 (by show (s.taken : Int) = 1 + pre q s.rd; rw [t2, t3]; rfl) hS.sll (fun f hf => by
        show at_ (s.marks.set 0 (at_ s.marks 0 + 1)) f = if f < s.taken then 1 else 0
        have h3 := hM f hf
        rw [(single t1 hp (wm f)).2, hb, t2] at h3
        simp only [wm] at h3
        rw [t2]
        by_cases e : f = 0
        · subst e; rw [at_set_same (by omega)]; rw [if_pos rfl, if_pos (by omega)] at h3; rw [if_pos (by omega)]; omega
        · rw [at_set_ne (by omega)]; rw [if_neg e, if_neg (by omega)] at h3; rw [if_neg (by omega)]; omega) hd
  | alloc =>
    rw [hb] at hat hset
    simp only [PM.step, hb]
    refine h.go hd hat _ rfl rfl rfl (fun k hk => ?_) (kv_set hS.kv trivial) hS.sll (fun f hf => ?_)
    · have h2 : wsum (ws k) (s.live.set p ((at_ s.live p).1, .fork s.taken)) = wsum (ws k) s.live := by have := hset (ws k) (.fork s.taken); simp only [ws] at this; omega
      show _ ∨ 0 < wsum (ws k) (s.live.set p ((at_ s.live p).1, .fork s.taken))
      rw [h2]; exact hS.sl k (by rw [need0 (show s.reads.length ≠ s.rd + 1 by have : s.reads.length = s.rd := hat; omega)]; exact hk)
    · show at_ s.marks f + wsum (wm f) (s.live.set p ((at_ s.live p).1, .fork s.taken)) = if f < s.taken + 1 then 1 else 0
      have h2 := hset (wm f) (.fork s.taken); have h3 := hM f hf
      simp only [wm] at h2
      by_cases e : s.taken = f
      · rw [if_pos e] at h2; rw [if_neg (by omega)] at h3; rw [if_pos (by omega)]; omega
      · rw [if_neg e] at h2
        by_cases e2 : f < s.taken
        · rw [if_pos e2] at h3; rw [if_pos (by omega)]; omega
        · rw [if_neg e2] at h3; rw [if_neg (by omega)]; omega
  | fork fr =>
    rw [hb] at hat
    have hr : s.reads.length = s.rd := hat
    simp only [PM.step, hb]
    have hlen : (s.live ++ [((s.made : Int), Ab.start fr s.pos (100 * (s.rd : Int) + s.pos))]).length = s.live.length + 1 := by rw [List.length_append]; rfl
    have hap : at_ (s.live ++ [((s.made : Int), Ab.start fr s.pos (100 * (s.rd : Int) + s.pos))]) p = at_ s.live p := at_app_ne _ hp
    have hw : ∀ (w : Ab → Int) (b : Ab), wsum w ((s.live ++ [((s.made : Int), Ab.start fr s.pos (100 * (s.rd : Int) + s.pos))]).set p ((at_ (s.live ++ [((s.made : Int), Ab.start fr s.pos (100 * (s.rd : Int) + s.pos))]) p).1, b)) + w (.fork fr) = wsum w s.live + w (.start fr s.pos (100 * (s.rd : Int) + s.pos)) + w b := fun w b => by
      have h1 := wsum_set (w := w) _ p ((at_ (s.live ++ [((s.made : Int), Ab.start fr s.pos (100 * (s.rd : Int) + s.pos))]) p).1, b) (by rw [hlen]; omega : p < (s.live ++ [((s.made : Int), Ab.start fr s.pos (100 * (s.rd : Int) + s.pos))]).length)
      rw [hap, hb, wsum_app] at h1
      have h2 : wsum w [((s.made : Int), Ab.start fr s.pos (100 * (s.rd : Int) + s.pos))] = w (.start fr s.pos (100 * (s.rd : Int) + s.pos)) := by show w (.start fr s.pos (100 * (s.rd : Int) + s.pos)) + 0 = _; omega
      rw [h2] at h1
      rw [hap]; exact h1
    have hb2 : ∃ b, (if at_ q s.rd ≤ (s.pos : Int) + 1 then Ab.sync else Ab.alloc) = b ∧ (∀ f, wm f b = 0) ∧ (∀ k, ws k b = 0) ∧ kv s.rd b := by
      split
      · exact ⟨_, rfl, fun _ => rfl, fun _ => rfl, trivial⟩
      · exact ⟨_, rfl, fun _ => rfl, fun _ => rfl, trivial⟩
    obtain ⟨b, b1, b2, b3, b4⟩ := hb2
    rw [b1]
    refine h.go hd hr _ rfl rfl rfl (fun k hk => ?_) (kv_set (fun x hx => ?_) b4) hS.sll (fun f hf => ?_)
    · show at_ s.slots k = _ ∨ 0 < wsum (ws k) ((s.live ++ [((s.made : Int), Ab.start fr s.pos (100 * (s.rd : Int) + s.pos))]).set p ((at_ (s.live ++ [((s.made : Int), Ab.start fr s.pos (100 * (s.rd : Int) + s.pos))]) p).1, b))
      have h2 := hw (ws k) b
      rw [b3 k] at h2
      have hk' : (k : Int) < ((s.pos + 1 : Nat) : Int) := hk
      have h0 := wsum_nn (ws_nn k) s.live
      simp only [ws] at h2
      by_cases e : s.pos = k
      · right; rw [if_pos e] at h2; omega
      · rw [if_neg e] at h2
        rcases hS.sl k (by rw [need0 (by omega)]; omega) with h3 | h3
        · exact .inl h3
        · right; omega
    · rcases List.mem_append.1 hx with h1 | h1
      · exact hS.kv x h1
      · rw [List.mem_singleton.1 h1]; show (100 * (s.rd : Int) + s.pos) = 100 * (s.rd : Int) + ((s.pos : Nat) : Int); rfl
    · have h2 := hw (wm f) b; have h3 := hM f hf
      rw [b2 f] at h2
      simp only [wm] at h2
      show at_ s.marks f + wsum (wm f) ((s.live ++ [((s.made : Int), Ab.start fr s.pos (100 * (s.rd : Int) + s.pos))]).set p ((at_ (s.live ++ [((s.made : Int), Ab.start fr s.pos (100 * (s.rd : Int) + s.pos))]) p).1, b)) = if f < s.taken then 1 else 0
      rw [← h3]; omega
  | sync =>
    rw [hb] at hat hset hers
    have hr : s.reads.length = s.rd := hat
    simp only [PM.step, hb]
    by_cases hz : s.join - 1 = 0
    · rw [if_pos hz]
      have hw : ∀ w : Ab → Int, w .sync = w .back → wsum w (s.live.set p ((at_ s.live p).1, .back)) = wsum w s.live := fun w hw => by have := hset w .back; omega
      refine h.go hd hr _ rfl rfl rfl (fun k hk => ?_) (kv_set hS.kv trivial) hS.sll (fun f hf => ?_)
      · show _ ∨ 0 < wsum (ws k) (s.live.set p ((at_ s.live p).1, .back))
        rw [hw _ rfl]; exact hS.sl k (by rw [need0 (by omega)]; exact hk)
      · show at_ s.marks f + wsum (wm f) (s.live.set p ((at_ s.live p).1, .back)) = _
        rw [hw _ rfl]; exact hM f hf
    · rw [if_neg hz]
      have hw : ∀ w : Ab → Int, w .sync = 0 → wsum w (s.live.eraseIdx p) = wsum w s.live := fun w hw => by have := hers w; omega
      refine h.go hd hr _ rfl rfl rfl (fun k hk => ?_) (kv_erase hS.kv) hS.sll (fun f hf => ?_)
      · show _ ∨ 0 < wsum (ws k) (s.live.eraseIdx p)
        rw [hw _ rfl]; exact hS.sl k (by rw [need0 (by omega)]; exact hk)
      · show at_ s.marks f + wsum (wm f) (s.live.eraseIdx p) = _
        rw [hw _ rfl]; exact hM f hf
  | leave j v =>
    rw [hb] at hat hset hers
    have hr : s.reads.length = s.rd := hat
    simp only [PM.step, hb]
    by_cases hz : s.join - 1 = 0
    · rw [if_pos hz]
      have hw : ∀ w : Ab → Int, w (.leave j v) = w (.last j v) → wsum w (s.live.set p ((at_ s.live p).1, .last j v)) = wsum w s.live := fun w hw => by have := hset w (.last j v); omega
      refine h.go hd hr _ rfl rfl rfl (fun k hk => ?_) (kv_set hS.kv trivial) hS.sll (fun f hf => ?_)
      · show _ ∨ 0 < wsum (ws k) (s.live.set p ((at_ s.live p).1, .last j v))
        rw [hw _ rfl]; exact hS.sl k (by rw [need0 (by omega)]; exact hk)
      · show at_ s.marks f + wsum (wm f) (s.live.set p ((at_ s.live p).1, .last j v)) = _
        rw [hw _ rfl]; exact hM f hf
    · rw [if_neg hz]
      have hw : ∀ w : Ab → Int, w (.leave j v) = 0 → wsum w (s.live.eraseIdx p) = wsum w s.live := fun w hw => by have := hers w; omega
      refine h.go hd hr _ rfl rfl rfl (fun k hk => ?_) (kv_erase hS.kv) hS.sll (fun f hf => ?_)
      · show _ ∨ 0 < wsum (ws k) (s.live.eraseIdx p)
        rw [hw _ rfl]; exact hS.sl k (by rw [need0 (by omega)]; exact hk)
      · show at_ s.marks f + wsum (wm f) (s.live.eraseIdx p) = _
        rw [hw _ rfl]; exact hM f hf
  | start fr j v =>
    rw [hb] at hat hset hkp
    obtain ⟨t1, t2, hr⟩ := hat
    simp only [PM.step, hb]
    refine h.go hd hr _ rfl rfl rfl (fun k hk => ?_) (kv_set hS.kv hkp) hS.sll (fun f hf => ?_)
    · have h2 : wsum (ws k) (s.live.set p ((at_ s.live p).1, .store j v)) = wsum (ws k) s.live := by have := hset (ws k) (.store j v); simp only [ws] at this; omega
      show _ ∨ 0 < wsum (ws k) (s.live.set p ((at_ s.live p).1, .store j v))
      rw [h2]; exact hS.sl k (by rw [need0 (by omega)]; exact hk)
    · show at_ (s.marks.set fr (at_ s.marks fr + 1)) f + wsum (wm f) (s.live.set p ((at_ s.live p).1, .store j v)) = if f < s.taken then 1 else 0
      have h2 := hset (wm f) (.store j v); have h3 := hM f hf
      simp only [wm] at h2
      rw [← h3]
      by_cases e : fr = f
      · subst e; rw [if_pos rfl] at h2; rw [at_set_same (by omega)]; omega
      · rw [if_neg e] at h2; rw [at_set_ne (by omega)]; omega
  | store j v =>
    rw [hb] at hat hset hkp
    obtain ⟨t1, hr⟩ := hat
    have hkp' : v = 100 * (s.rd : Int) + (j : Int) := hkp
    simp only [PM.step, hb]
    refine h.go hd hr _ rfl rfl rfl (fun k hk => ?_) (kv_set hS.kv trivial) (by show (s.slots.set j v).length = 8; rw [List.length_set]; exact hS.sll) (fun f hf => ?_)
    · show at_ (s.slots.set j v) k = _ ∨ 0 < wsum (ws k) (s.live.set p ((at_ s.live p).1, .leave j v))
      have h2 := hset (ws k) (.leave j v)
      simp only [ws] at h2
      by_cases e : j = k
      · left; subst e; rw [at_set_same (by have := hS.sll; omega), hkp']
      · rw [if_neg e] at h2
        rw [at_set_ne (by omega), show wsum (ws k) (s.live.set p ((at_ s.live p).1, .leave j v)) = wsum (ws k) s.live by omega]
        exact hS.sl k (by rw [need0 (by omega)]; exact hk)
    · show at_ s.marks f + wsum (wm f) (s.live.set p ((at_ s.live p).1, .leave j v)) = if f < s.taken then 1 else 0
      have h2 := hset (wm f) (.leave j v); have h3 := hM f hf
      simp only [wm] at h2
      rw [← h3]; omega
  | back =>
    rw [hb] at hat
    obtain ⟨⟨x, t1⟩, t2, t3, t4, t5⟩ := hat
    obtain ⟨p0, p1⟩ := single t1 hp (wm 0)
    subst p0
    simp only [PM.step, hb]
    refine Rd.hold (s := ({ s with join := 1 } : PM).note (at_ s.live 0).1 1 1 1 0) hi.fr (hi.q8 s.rd t2).1 (x := x) t1 ⟨h.rd.full, h.rd.val, h.rd.rl, h.rd.rq⟩ t2 t5 t4 hS.sll (fun k hk => ?_) (fun f hf => ?_) hd
    · have hk' : (k : Int) < at_ q s.rd := hk
      rcases hS.sl k (by rw [need0 (by omega)]; omega) with h3 | h3
      · exact h3
      · rw [(single t1 hp (ws k)).2, hb] at h3; simp only [ws] at h3; omega
    · have h3 := hM f hf
      rw [(single t1 hp (wm f)).2, hb] at h3; simp only [wm] at h3
      show at_ s.marks f = if f < s.taken then 1 else 0
      rw [← h3]; omega
  | last j v =>
    rw [hb] at hat
    obtain ⟨⟨x, t1⟩, t2, t3, t4, t5⟩ := hat
    obtain ⟨p0, p1⟩ := single t1 hp (wm 0)
    subst p0
    simp only [PM.step, hb]
    refine Rd.hold (s := ({ s with join := 1 } : PM).note (at_ s.live 0).1 1 1 1 0) hi.fr (hi.q8 s.rd t2).1 (x := x) t1 ⟨h.rd.full, h.rd.val, h.rd.rl, h.rd.rq⟩ t2 t5 t4 hS.sll (fun k hk => ?_) (fun f hf => ?_) hd
    · have hk' : (k : Int) < at_ q s.rd := hk
      rcases hS.sl k (by rw [need0 (by omega)]; omega) with h3 | h3
      · exact h3
      · rw [(single t1 hp (ws k)).2, hb] at h3; simp only [ws] at h3; omega
    · have h3 := hM f hf
      rw [(single t1 hp (wm f)).2, hb] at h3; simp only [wm] at h3
      show at_ s.marks f = if f < s.taken then 1 else 0
      rw [← h3]; omega
  | read =>
    rw [hb] at hat
    obtain ⟨⟨x, t1⟩, t2, t3, t4, t5, t6⟩ := hat
    obtain ⟨p0, p1⟩ := single t1 hp (wm 0)
    subst p0
    simp only [PM.step, hb]
    have hsl : ∀ k : Nat, (k : Int) < at_ q s.rd → at_ s.slots k = 100 * (s.rd : Int) + (k : Int) := fun k hk => by
      rcases hS.sl k (by rw [need1 t5]; exact hk) with h3 | h3
      · exact h3
      · rw [(single t1 hp (ws k)).2, hb] at h3; simp only [ws] at h3; omega
    have hl : s.reads.length - 1 = s.rd := by omega
    rw [hl]
    have hsame : at_ (s.reads.set s.rd (at_ s.reads s.rd ++ [at_ s.slots s.pos])) s.rd = at_ s.reads s.rd ++ [at_ s.slots s.pos] := at_set_same (by omega)
    have hlen : (at_ s.reads s.rd ++ [at_ s.slots s.pos]).length = s.pos + 1 := by rw [List.length_append, t6]; rfl
    refine Rd.rdg (s := (({ s with reads := s.reads.set s.rd (at_ s.reads s.rd ++ [at_ s.slots s.pos]), pos := s.pos + 1 } : PM).note (at_ s.live 0).1 0 (3 + (s.pos : Int)) (at_ s.slots s.pos) 0)) hi.fr (x := x) t1 ⟨fun i hi => ?_, fun i k hi hk => ?_, by show (s.reads.set _ _).length ≤ s.rd + 1; rw [List.length_set]; exact h.rd.rl, by show (s.reads.set _ _).length ≤ q.length; rw [List.length_set]; exact h.rd.rq⟩ t2 (by show ((s.pos + 1 : Nat) : Int) ≤ at_ q s.rd; omega) (by show (s.reads.set _ _).length = s.rd + 1; rw [List.length_set]; exact t5) (by show (at_ (s.reads.set _ _) s.rd).length = s.pos + 1; rw [hsame]; exact hlen) t4 hS.sll hsl (fun f hf => ?_) hd
    · have hi' : i < (s.reads.set s.rd (at_ s.reads s.rd ++ [at_ s.slots s.pos])).length := hi
      rw [List.length_set] at hi'
      show ((at_ (s.reads.set s.rd (at_ s.reads s.rd ++ [at_ s.slots s.pos])) i).length : Int) ≤ at_ q i ∧ (i < s.rd → ((at_ (s.reads.set s.rd (at_ s.reads s.rd ++ [at_ s.slots s.pos])) i).length : Int) = at_ q i)
      by_cases e : i = s.rd
      · subst e; rw [hsame, hlen]; exact ⟨by omega, fun hc => absurd hc (by omega)⟩
      · rw [at_set_ne (by omega)]; exact h.rd.full i hi'
    · have hi' : i < (s.reads.set s.rd (at_ s.reads s.rd ++ [at_ s.slots s.pos])).length := hi
      rw [List.length_set] at hi'
      have hk' : k < (at_ (s.reads.set s.rd (at_ s.reads s.rd ++ [at_ s.slots s.pos])) i).length := hk
      show at_ (at_ (s.reads.set s.rd (at_ s.reads s.rd ++ [at_ s.slots s.pos])) i) k = _
      by_cases e : i = s.rd
      · subst e; rw [hsame] at hk' ⊢; rw [hlen] at hk'
        by_cases e2 : k < s.pos
        · rw [at_app_ne _ (by omega)]; exact h.rd.val _ k hi' (by omega)
        · have : k = (at_ s.reads s.rd).length := by omega
          rw [this, at_app, t6]; exact hsl s.pos t3
      · rw [at_set_ne (by omega)] at hk' ⊢; exact h.rd.val i k hi' hk'
    · have h3 := hM f hf
      rw [(single t1 hp (wm f)).2, hb] at h3; simp only [wm] at h3
      show at_ s.marks f = if f < s.taken then 1 else 0
      rw [← h3]; omega
theorem ini_val {F : Nat} : Rv q F (ini F) := by
  refine ⟨⟨fun i hi => absurd hi (by simp [ini]), fun i k hi => absurd hi (by simp [ini]), by show 0 ≤ _; omega, by show 0 ≤ _; omega⟩, fun hc => absurd hc (by simp [ini]), fun _ => ⟨⟨fun k hk => ?_, fun x hx => ?_, by simp [ini]⟩, fun f hf => ?_⟩⟩
  · rw [need0 (by simp [ini])] at hk
    have : (k : Int) < ((0 : Nat) : Int) := hk
    omega
  · rw [List.mem_singleton.1 hx]; trivial
  · show at_ (List.replicate F (0 : Int)) f + (0 + 0) = if f < 0 then 1 else 0
    rw [at_rep0, if_neg (by omega)]; rfl
end
end Go.Proofs.Ytnghahgfcaolbaa.Mo
