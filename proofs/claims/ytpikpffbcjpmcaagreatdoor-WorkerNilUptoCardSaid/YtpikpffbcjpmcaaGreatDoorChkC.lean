/- The tables of the slots' states, the document's and the program's, are the same. No memory is spoken of. -/
import Derived.Test.YtpikpffbcjpmcaaGreatDoorChkB
namespace Go.Proofs.YtpikpffbcjpmcaaGreatDoor.Mo
open Go Go.Proofs.YtpikpffbcjpmcaaGreatDoor.SL Go.Proofs.YtpikpffbcjpmcaaGreatDoor.GX
set_option linter.unusedVariables false
set_option linter.unusedSimpArgs false
section
variable {K : Nat}
theorem setat {α : Type} [Inhabited α] {l : List α} {i k : Nat} {x : α} (h : i < l.length) : at_ (l.set i x) k = if k = i then x else at_ l k := by
  by_cases e : k = i
  · subst e; rw [at_set_same h, if_pos rfl]
  · rw [at_set_ne (fun e' => e e'.symm), if_neg e]
/-- all rows are there, and hold 0 -/
def Zero (f : T_api_Func) (R : List (List Int)) (i : Nat) : Prop := R.length = f.Code.length ∧ ∀ a, a < i → at_ R a = List.replicate f.Slots.toNat 0
theorem flow_l1 {f : T_api_Func} (hf : Snd f) (h0 : 0 ≤ f.Slots) (h8 : f.Slots ≤ 8) : ∀ (d k i : Nat) (R : List (List Int)), i + d = f.Code.length → d < k → Zero f R i →
    ∃ R', plunderref5_Flow_l1 K f k R (i : Int) = some R' ∧ prog_states_l1 K f k R (i : Int) = some R' ∧ Zero f R' f.Code.length
  | d, k, i, R, hd, hk, hz => by
    obtain ⟨k, rfl⟩ : ∃ m, k = m + 1 := ⟨k - 1, by omega⟩
    rw [plunderref5_Flow_l1, prog_states_l1]
    have h2 := hf.hi
    by_cases hi : i < f.Code.length
    · obtain ⟨d, rfl⟩ : ∃ m, d = m + 1 := ⟨d - 1, by omega⟩
      rw [if_pos (by rw [List.length_replicate]; omega), if_pos ⟨h0, by omega⟩, if_pos ⟨by omega, by rw [hz.1]; omega⟩, if_pos (by rw [List.length_replicate]; omega), if_pos ⟨h0, by omega⟩, if_pos ⟨by omega, by rw [hz.1]; omega⟩, Int.toNat_natCast, wiN (by omega)]
      exact flow_l1 hf h0 h8 d k (i + 1) _ (by omega) (by omega) ⟨by rw [List.length_set]; exact hz.1, fun a ha => by
        rw [setat (by rw [hz.1]; exact hi)]
        split
        · rfl
        · exact hz.2 a (by omega)⟩
    · rw [if_neg (by rw [List.length_replicate]; omega), if_neg (by rw [List.length_replicate]; omega)]
      obtain rfl : i = f.Code.length := by omega
      exact ⟨R, rfl, rfl, hz⟩
/-- the column c is laid into the rows below i -/
structure Col (f : T_api_Func) (R R' : List (List Int)) (c : Nat) (i : Nat) (v : Nat → Int) : Prop where
  len : R'.length = f.Code.length
  wid : ∀ a, a < f.Code.length → (at_ R' a).length = f.Slots.toNat
  lo : ∀ a, a < i → a < f.Code.length → at_ (at_ R' a) c = v a
  hi : ∀ a, i ≤ a → a < f.Code.length → at_ (at_ R' a) c = at_ (at_ R a) c
  oth : ∀ a, a < f.Code.length → ∀ b, b ≠ c → at_ (at_ R' a) b = at_ (at_ R a) b
theorem Col.tab {f : T_api_Func} {R R' : List (List Int)} {c : Nat} (h : Tab f R c) (k : Col f R R' c f.Code.length (fun a => wt (reach f c) a)) : Tab f R' (c + 1) := by
  refine ⟨k.len, k.wid, fun a ha b hb hs => ?_, fun a ha b hb hs => ?_⟩
  · by_cases e : b = c
    · subst e; exact k.lo a ha ha
    · rw [k.oth a ha b e]; exact h.val a ha b (by omega) hs
  · rw [k.oth a ha b (by omega)]; exact h.zero a ha b (by omega) hs
theorem flow_l3 {f : T_api_Func} (hf : Snd f) {c : Nat} (hc : c < f.Slots.toNat) {met : List Int} (hm : met.length = f.Code.length) {R : List (List Int)} : ∀ (d k i : Nat) (Q : List (List Int)), i + d = f.Code.length → d < k → Col f R Q c i (fun a => at_ met a) →
    ∃ R', plunderref5_Flow_l3 K f (c : Int) met k Q (i : Int) = some R' ∧ Col f R R' c f.Code.length (fun a => at_ met a)
  | d, k, i, Q, hd, hk, hz => by
    obtain ⟨k, rfl⟩ : ∃ m, k = m + 1 := ⟨k - 1, by omega⟩
    rw [plunderref5_Flow_l3]
    have h2 := hf.hi
    by_cases hi : i < f.Code.length
    · obtain ⟨d, rfl⟩ : ∃ m, d = m + 1 := ⟨d - 1, by omega⟩
      have hl := hz.len
      have hw := hz.wid i hi
      rw [if_pos (by rw [List.length_replicate]; omega), if_pos ⟨by omega, by omega⟩, if_pos ⟨by omega, by omega⟩, Int.toNat_natCast, if_pos ⟨by omega, by rw [hw]; omega⟩, Int.toNat_natCast, wiN (by omega)]
      refine flow_l3 hf hc hm d k (i + 1) _ (by omega) (by omega) ⟨by rw [List.length_set]; exact hl, fun a ha => ?_, fun a ha hb => ?_, fun a ha hb => ?_, fun a ha b hb => ?_⟩
      · rw [setat (by omega)]; split
        · rw [List.length_set]; exact hw
        · exact hz.wid a ha
      · rw [setat (by omega)]; split
        · rename_i e; subst e; rw [at_set_same (by omega)]
        · exact hz.lo a (by omega) hb
      · rw [setat (by omega), if_neg (by omega)]; exact hz.hi a (by omega) hb
      · rw [setat (by omega)]; split
        · rename_i e; subst e; rw [at_set_ne (fun e => hb e.symm)]; exact hz.oth a ha b hb
        · exact hz.oth a ha b hb
    · rw [if_neg (by rw [List.length_replicate]; omega)]
      obtain rfl : i = f.Code.length := by omega
      exact ⟨Q, rfl, hz⟩
theorem Col.zero {f : T_api_Func} {R : List (List Int)} {c n : Nat} (h : Tab f R n) (v : Nat → Int) : Col f R R c 0 v := ⟨h.len, h.wid, fun a ha => by omega, fun _ _ _ => rfl, fun _ _ _ _ => rfl⟩
theorem flow_l2 {f : T_api_Func} (hf : Snd f) (h0 : 0 ≤ f.Slots) (h8 : f.Slots ≤ 8) (hK : 3000 < K) : ∀ (d k i : Nat) (R : List (List Int)), i + d = f.Slots.toNat → d < k → Tab f R i →
    ∃ R', plunderref5_Flow_l2 K f k R (i : Int) = some R' ∧ Tab f R' f.Slots.toNat
  | d, k, i, R, hd, hk, hz => by
    obtain ⟨k, rfl⟩ : ∃ m, k = m + 1 := ⟨k - 1, by omega⟩
    rw [plunderref5_Flow_l2]
    have h2 := hf.hi
    by_cases hi : i < f.Slots.toNat
    · obtain ⟨d, rfl⟩ : ∃ m, d = m + 1 := ⟨d - 1, by omega⟩
      obtain ⟨met, e1, e2⟩ := ref_states (K := K) hf (i : Int) hK
      obtain ⟨R', r1, r2⟩ := flow_l3 (K := K) hf hi e2.len f.Code.length K 0 R (by omega) (by omega) (Col.zero hz _)
      rw [if_pos (by omega), e1, ob1_some, Int.ofNat_zero] at *
      rw [r1, ob1_some, wiN (by omega)]
      refine flow_l2 hf h0 h8 hK d k (i + 1) R' (by omega) (by omega) (Col.tab hz ⟨r2.len, r2.wid, fun a ha hb => ?_, r2.hi, r2.oth⟩)
      rw [r2.lo a ha hb]; exact e2.val a hb
    · rw [if_neg (by omega)]
      obtain rfl : i = f.Slots.toNat := by omega
      exact ⟨R, rfl, hz⟩
theorem bor_wt : ∀ (a b c : Bool) (s : Int), st3 s → (bor ((if a then 1 else 0) + (if b then 2 else 0) + (if c then 4 else 0)) s) = (if a || decide (s = 1) then 1 else 0) + (if b || decide (s = 2) then 2 else 0) + (if c || decide (s = 4) then 4 else 0) := by
  intro a b c s hs
  rcases hs with rfl | rfl | rfl <;> cases a <;> cases b <;> cases c <;> decide
theorem wt_or {V : List Pt} {a s : Int} (hs : st3 s) : bor (wt V a) s = wt (V ++ [(a, s)]) a := by
  have := bor_wt (decide ((a, 1) ∈ V)) (decide ((a, 2) ∈ V)) (decide ((a, 4) ∈ V)) s hs
  simp only [decide_eq_true_eq] at this
  unfold wt; rw [this]
  simp only [List.mem_append, List.mem_singleton, Prod.mk.injEq, true_and]
  rcases hs with rfl | rfl | rfl <;> simp
theorem wt_ne {V : List Pt} {a b s : Int} (h : a ≠ b) : wt (V ++ [(b, s)]) a = wt V a := by unfold wt; simp [h]
theorem wt_ext {V W : List Pt} (h : ∀ x, x ∈ V ↔ x ∈ W) (a : Int) : wt V a = wt W a := by unfold wt; simp only [h]
theorem fold_ok {f : T_api_Func} (hf : Snd f) {c : Nat} (hc : c < f.Slots.toNat) {R : List (List Int)} : ∀ (l : List (T_prog_point × T_prog_point)) (U : List Pt) (Q : List (List Int)), (∀ x ∈ l, 0 ≤ x.1.at_ ∧ x.1.at_ < f.Code.length ∧ st3 x.1.state) → Col f R Q c f.Code.length (fun a => wt U a) →
    ∃ R', l.foldlM (fun s x => prog_states_l3 K (c : Int) x s) Q = some R' ∧ Col f R R' c f.Code.length (fun a => wt (U ++ l.map (fun x => (x.1.at_, x.1.state))) a)
  | [], U, Q, _, hz => ⟨Q, rfl, by simpa using hz⟩
  | x :: l, U, Q, hl, hz => by
    obtain ⟨a1, a2, a3⟩ := hl x (by simp)
    have hL := hz.len
    have hw := hz.wid x.1.at_.toNat (by omega)
    rw [List.foldlM_cons, prog_states_l3, if_pos ⟨a1, by omega⟩, if_pos ⟨by omega, by rw [hw]; omega⟩, Int.toNat_natCast]
    have hv : at_ (at_ Q x.1.at_.toNat) c = wt U ((x.1.at_.toNat : Nat) : Int) := hz.lo x.1.at_.toNat (by omega) (by omega)
    rw [hv, wt_or a3, show ((x.1.at_.toNat : Nat) : Int) = x.1.at_ by omega]
    obtain ⟨R', r1, r2⟩ := fold_ok hf hc (R := R) l (U ++ [(x.1.at_, x.1.state)]) (Q.set x.1.at_.toNat ((at_ Q x.1.at_.toNat).set c (wt (U ++ [(x.1.at_, x.1.state)]) x.1.at_))) (fun y hy => hl y (List.mem_cons_of_mem _ hy)) (by
      refine ⟨by rw [List.length_set]; exact hL, fun a ha => ?_, fun a ha hb => ?_, fun a ha hb => by omega, fun a ha b hb => ?_⟩
      · rw [setat (by omega)]; split
        · rw [List.length_set]; exact hw
        · exact hz.wid a ha
      · rw [setat (by omega)]; split
        · rename_i e; subst e; rw [at_set_same (by omega), show ((x.1.at_.toNat : Nat) : Int) = x.1.at_ by omega]
        · rename_i e; rw [hz.lo a ha hb, wt_ne (by omega)]
      · rw [setat (by omega)]; split
        · rename_i e; subst e; rw [at_set_ne (fun e => hb e.symm)]; exact hz.oth _ ha b hb
        · exact hz.oth a ha b hb)
    refine ⟨R', r1, ?_⟩
    rw [List.append_assoc, List.singleton_append] at r2
    exact r2
theorem states_l2 {f : T_api_Func} (hf : Snd f) (h0 : 0 ≤ f.Slots) (h8 : f.Slots ≤ 8) (hK : 3000 < K) : ∀ (d k i : Nat) (R : List (List Int)), i + d = f.Slots.toNat → d < k → Tab f R i →
    ∃ R', prog_states_l2 K f k R (i : Int) = some R' ∧ Tab f R' f.Slots.toNat
  | d, k, i, R, hd, hk, hz => by
    obtain ⟨k, rfl⟩ : ∃ m, k = m + 1 := ⟨k - 1, by omega⟩
    rw [prog_states_l2]
    by_cases hi : i < f.Slots.toNat
    · obtain ⟨d, rfl⟩ : ∃ m, d = m + 1 := ⟨d - 1, by omega⟩
      obtain ⟨m, e1, e2⟩ := srch_ok (K := K) hf (i : Int) hK
      obtain ⟨v1, v2, v3⟩ := reach_ok hf (i : Int)
      have key : ∀ l' : List (T_prog_point × T_prog_point), l'.Perm m → ∃ R', l'.foldlM (fun s x => prog_states_l3 K (i : Int) x s) R = some R' ∧ Tab f R' (i + 1) := by
        intro l' hp
        have hr : ∀ x ∈ l', (x.1.at_, x.1.state) ∈ reach f (i : Int) := fun x hx => by
          have : x.1 ∈ m.map (·.1) := List.mem_map.2 ⟨x, hp.mem_iff.1 hx, rfl⟩
          rw [e2] at this
          obtain ⟨y, hy, e⟩ := List.mem_map.1 this
          rw [← e]; exact hy
        obtain ⟨R', r1, r2⟩ := fold_ok (K := K) hf hi (R := R) l' [] R (fun x hx => v1.rng _ (hr x hx)) ⟨hz.len, hz.wid, fun a _ ha => by rw [hz.zero a ha i (Nat.le_refl _) hi]; rfl, fun a _ _ => rfl, fun _ _ _ _ => rfl⟩
        refine ⟨R', r1, Col.tab hz ⟨r2.len, r2.wid, fun a ha hb => ?_, r2.hi, r2.oth⟩⟩
        rw [r2.lo a ha hb]
        refine wt_ext (fun x => ?_) a
        rw [List.nil_append, List.mem_map]
        refine ⟨fun ⟨y, hy, e⟩ => e ▸ hr y hy, fun hx => ?_⟩
        have : pt x ∈ m.map (·.1) := by rw [e2]; exact List.mem_map.2 ⟨x, hx, rfl⟩
        obtain ⟨y, hy, e⟩ := List.mem_map.1 this
        exact ⟨y, hp.mem_iff.2 hy, by rw [e]⟩
      obtain ⟨R', r1, r2⟩ := key m (List.Perm.refl _)
      have hfold : permFold (prog_states_l3 K (i : Int)) R m = some R' := permFold_eq fun l' hp => by
        obtain ⟨R2, q1, q2⟩ := key l' hp
        rw [q1, tab_eq q2 r2]
      rw [if_pos (by omega), e1, ob1_some, hfold, ob1_some, ob1_some, wiN (by omega)]
      exact states_l2 hf h0 h8 hK d k (i + 1) R' (by omega) (by omega) r2
    · rw [if_neg (by omega)]
      obtain rfl : i = f.Slots.toNat := by omega
      exact ⟨R, rfl, hz⟩
end
end Go.Proofs.YtpikpffbcjpmcaaGreatDoor.Mo
