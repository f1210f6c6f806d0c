/- Regions that draw their order: a window of reads and quiet calls ahead of an effect. No program is named here. -/
import Derived.Test.YtpikpffbcjpmcaaGreatDoorAny
namespace Go.Proofs.YtpikpffbcjpmcaaGreatDoor.GX
open Go Go.RowKit Go.Proofs.YtpikpffbcjpmcaaGreatDoor.SL
set_option linter.unusedVariables false

section
variable {P : Program} {ops : Array Oper} {Q : Exit → Act → World → Prop} {a : Act} {w w0 w1 : World} {o : Oper} {n d t : Nat} {v : Value} {l : List (Nat × Value)} {j e : Nat → Value} {H : HProp} {md : Region.Mode} {C : World → Prop} {W : List Nat} {Lk : Array Bool → Act → Prop} {Df : List Deferred}
def wpAnyW (P : Program) (md : Region.Mode) (ops : Array Oper) (C : World → Prop) (W : List Nat) (Lk : Array Bool → Act → Prop) : Nat → Array Bool → Act → Prop
  | 0, listed, a => (∀ i ∈ Region.ready md ops listed, i ∉ W) ∧ Lk listed a
  | f + 1, listed, a => Region.ready md ops listed ≠ [] ∧ ∀ i ∈ Region.ready md ops listed, i ∈ W ∧ qOp P ops C i (wpAnyW P md ops C W Lk f (listed.setIfInBounds i true)) a

theorem wpOp_of_qOp' {i : Nat} {K : Act → Prop} {K' : Act → World → Prop} {w : World} (hC : C w) (h : ∀ a w', C w' → K a → K' a w') (hh : qOp P ops C i K a) : wpOp P ops Q i K' a w := by
  unfold qOp at hh
  unfold wpOp
  split
  · rename_i ho; simp only [ho] at hh; exact h _ _ hC hh
  · rename_i o ho
    simp only [ho] at hh
    split
    · rename_i hw; simp only [hw, if_true] at hh; exact .inl (Oper.wp_of_quiet hC h hh)
    · rename_i hw; simp only [hw] at hh; exact h _ _ hC hh

theorem wpAny_of_win {g : Nat} (hL : ∀ listed a w, C w → Lk listed a → wpAny P md ops Q g listed a w) :
    ∀ (f : Nat) (listed : Array Bool) (a : Act) (w : World), C w → wpAnyW P md ops C W Lk f listed a → wpAny P md ops Q (f + g) listed a w
  | 0, listed, a, w, hC, h => by rw [Nat.zero_add]; exact hL _ _ _ hC h.2
  | f + 1, listed, a, w, hC, h => by
    rw [show f + 1 + g = (f + g) + 1 by omega]
    exact ⟨fun h0 => absurd h0 h.1, fun i hi => wpOp_of_qOp' hC (fun a' w' hC' h' => wpAny_of_win hL f _ a' w' hC' h') (h.2 i hi).2⟩

/-- What can run ahead of i belongs to the window. -/
def winB (md : Region.Mode) (ops : Array Oper) (listed : Array Bool) (W : List Nat) (i : Nat) : Bool :=
  (List.range ops.size).all fun k => k == i || listed.getD k true || !canB md ops listed i ops.size k || W.contains k

theorem wpAnyW_first {i : Nat} {oi : Oper} (hi : ops[i]? = some oi) (hiW : i ∈ W) (hsel : ∀ (k : Nat) (o : Oper) cs b, ops[k]? = some o → o.op ≠ .select cs b)
    (listed0 : Array Bool) (hwin : winB md ops listed0 W i = true) :
    ∀ (fuel : Nat) (listed : Array Bool) (a : Act),
      (∀ k ok, ops[k]? = some ok → k ≠ i → listed.getD k true = false → (∀ e ∈ ok.after, Region.binds md e = true → e.on ≠ i) → oi.apart ops ok = true) →
      (∀ k, listed.getD k true = false → listed0.getD k true = false) →
      (∀ k, listed.getD k false = true → listed0.getD k false = true ∨ ∀ f, canB md ops listed0 i f k = true) →
      i ∈ Region.ready md ops listed → YieldsIn P ops C oi v a →
      wpAnyW P md ops C W Lk fuel (listed.setIfInBounds i true) (a.put oi.dst v) → wpAnyW P md ops C W Lk (fuel + 1) listed a := by
  intro fuel
  have hcan : ∀ (listed : Array Bool), (∀ k, listed.getD k false = true → listed0.getD k false = true ∨ ∀ f, canB md ops listed0 i f k = true) → ∀ k ok, ops[k]? = some ok → k ≠ i → (∀ e ∈ ok.after, Region.binds md e = true → listed.getD e.on false = true) → ∀ f, canB md ops listed0 i f k = true := by
    intro listed hl k ok hk hki hall f
    cases f with
    | zero => rfl
    | succ f =>
      simp only [canB, hk, Bool.and_eq_true, bne_iff_ne, ne_eq, hki, not_false_eq_true, true_and]
      rw [Array.all_eq_true_iff_forall_mem]
      intro e he
      by_cases hb : Region.binds md e = true
      · rcases hl _ (hall e he hb) with h | h
        · simp [h]
        · simp [h f]
      · simp [hb]
  have hin : ∀ (listed : Array Bool), (∀ k, listed.getD k true = false → listed0.getD k true = false) → (∀ k, listed.getD k false = true → listed0.getD k false = true ∨ ∀ f, canB md ops listed0 i f k = true) → ∀ k ok, ops[k]? = some ok → k ≠ i → listed.getD k true = false → (∀ e ∈ ok.after, Region.binds md e = true → listed.getD e.on false = true) → k ∈ W := by
    intro listed hl0 hl k ok hk hki hun hall
    have hc := hcan listed hl k ok hk hki hall ops.size
    have h1 := List.all_eq_true.1 hwin k (List.mem_range.2 (Array.getElem?_eq_some_iff.1 hk).1)
    simp only [Bool.or_eq_true, beq_iff_eq, hki, false_or, hl0 k hun, Bool.false_eq_true, hc, Bool.not_true] at h1
    simpa using h1
  induction fuel with
  | zero =>
    intro listed a _ hl0 hl hr hy Hh
    refine ⟨fun h => (by rw [h] at hr; cases hr), fun k hk => ?_⟩
    by_cases hki : k = i
    · subst hki; exact ⟨hiW, hy.qOp hi Hh⟩
    · obtain ⟨hkun, ok, hok, hall⟩ := mem_ready.1 hk
      exact absurd (hin listed hl0 hl k ok hok hki hkun hall) (Hh.1 k (ready_mono hk hki))
  | succ fuel ih =>
    intro listed a hfree hl0 hl hr hy Hh
    refine ⟨fun h => (by rw [h] at hr; cases hr), fun k hk => ?_⟩
    by_cases hki : k = i
    · subst hki; exact ⟨hiW, hy.qOp hi Hh⟩
    · obtain ⟨hkun, ok, hok, hall⟩ := mem_ready.1 hk
      refine ⟨hin listed hl0 hl k ok hok hki hkun hall, ?_⟩
      have h1 := (Hh.2 k (ready_mono hk hki)).2
      have hnot : ∀ e ∈ ok.after, Region.binds md e = true → e.on ≠ i := fun e he hb heq => by
        have h1 := hall e he hb
        have h0 := (mem_ready.1 hr).1
        rw [heq] at h1
        rcases Nat.lt_or_ge i listed.size with h' | h'
        · simp [h'] at h0 h1; rw [h0] at h1; cases h1
        · simp [Array.getElem?_eq_none h'] at h1
      have h2 := qOp_put hok (hfree k ok hok hki hkun hnot) (fun cs b => hsel i oi cs b hi) (fun cs b => hsel k ok cs b hok) hy h1
      have hfree' : ∀ m om, ops[m]? = some om → m ≠ i → (listed.setIfInBounds k true).getD m true = false →
          (∀ e ∈ om.after, Region.binds md e = true → e.on ≠ i) → oi.apart ops om = true := fun m om hm hmi hun hno => by
        refine hfree m om hm hmi ?_ hno
        by_cases hkm : k = m
        · subst hkm; exact hkun
        · rw [getD_set_ne true hkm] at hun; exact hun
      have hl0' : ∀ m, (listed.setIfInBounds k true).getD m true = false → listed0.getD m true = false := fun m hm => by
        by_cases hkm : k = m
        · subst hkm; exact hl0 k hkun
        · rw [getD_set_ne true hkm] at hm; exact hl0 m hm
      have hl' : ∀ m, (listed.setIfInBounds k true).getD m false = true → listed0.getD m false = true ∨ ∀ f, canB md ops listed0 i f m = true := fun m hm => by
        by_cases hkm : k = m
        · subst hkm; exact .inr (hcan listed hl k ok hok hki hall)
        · rw [getD_set_ne false hkm] at hm; exact hl m hm
      refine qOp_mono (fun a' h3 => ih (listed.setIfInBounds k true) a' hfree' hl0' hl' (ready_mono hr (Ne.symm hki)) h3.1 ?_) h2
      rw [Array.setIfInBounds_comm _ _ hki]
      exact h3.2

/-! ### the rules -/
theorem win_start {f g : Nat} {listed : Array Bool} (W : List Nat) (hF : Fit w0 H w)
    (k : wpAnyW P .any ops (QC w0 H) W (fun listed a => ∀ w, Fit w0 H w → wpAny P .any ops Q g listed a w) f listed a) : wpAny P .any ops Q (f + g) listed a w :=
  wpAny_of_win (C := QC w0 H) (fun listed a w hC h => h w hC) f listed a w hF k
theorem win_val {fuel i : Nat} {listed : Array Bool} (hi : ops[i]? = some o) (hiW : W.contains i = true) (hns : Region.noSelect ops = true) (hrd : (Region.ready .any ops listed).contains i = true) (hfr : Region.free .any ops listed i = true)
    (hwin : winB .any ops listed W i = true) (hw : Region.wanted o (yielded ops a.tmps) = true) (hd : o.dst = some d) (hn : Nat.blt d n = true) (hr : RepD Df n (lk l j) a)
    (hrun : ∀ w, Fit w0 H w → (execOp (evE (lk l j)) o).run P w = .ok (.value v) w)
    (k : ∀ a, RepD Df n (lk ((d, v) :: l) j) a → wpAnyW P .any ops (QC w0 H) W Lk fuel (listed.setIfInBounds i true) a) : wpAnyW P .any ops (QC w0 H) W Lk (fuel + 1) listed a := by
  refine wpAnyW_first (v := v) hi (by simpa using hiW) (Region.noSelect_spec hns) listed hwin fuel listed a (Region.free_spec hi hfr) (fun _ h => h) (fun _ h => .inl h) (by simpa using hrd) ?_ ?_
  · unfold YieldsIn
    refine .inl ⟨hw, fun w hC => ?_⟩
    unfold Oper.quietAt
    rw [hr.eval, hrun w hC]
    exact ⟨rfl, rfl⟩
  · rw [hd]; exact k _ (hr.put d v hn)
theorem win_off {fuel i : Nat} {listed : Array Bool} (hi : ops[i]? = some o) (hiW : W.contains i = true) (hns : Region.noSelect ops = true) (hrd : (Region.ready .any ops listed).contains i = true) (hfr : Region.free .any ops listed i = true)
    (hwin : winB .any ops listed W i = true) (hw : Region.wanted o (yielded ops a.tmps) = false) (hd : o.dst = some d) (hn : Nat.blt d n = true) (hr : RepD Df n (lk l j) a)
    (k : ∀ a, RepD Df n (lk ((d, undef) :: l) j) a → wpAnyW P .any ops (QC w0 H) W Lk fuel (listed.setIfInBounds i true) a) : wpAnyW P .any ops (QC w0 H) W Lk (fuel + 1) listed a := by
  refine wpAnyW_first (v := undef) hi (by simpa using hiW) (Region.noSelect_spec hns) listed hwin fuel listed a (Region.free_spec hi hfr) (fun _ h => h) (fun _ h => .inl h) (by simpa using hrd) ?_ ?_
  · unfold YieldsIn
    exact .inr ⟨hw, rfl⟩
  · rw [hd]; exact k _ (hr.put d undef hn)
theorem win_call {fuel i : Nat} {listed : Array Bool} {f : FuncId} {args : Array Value} (hi : ops[i]? = some o) (hiW : W.contains i = true) (hns : Region.noSelect ops = true) (hrd : (Region.ready .any ops listed).contains i = true) (hfr : Region.free .any ops listed i = true)
    (hwin : winB .any ops listed W i = true) (hw : Region.wanted o (yielded ops a.tmps) = true) (hd : o.dst = some d) (hn : Nat.blt d n = true) (hr : RepD Df n (lk l j) a)
    (hrun : ∀ w, Fit w0 H w → (execOp (evE (lk l j)) o).run P w = .ok (.enter f args) w) (hc : ∀ w, Fit w0 H w → Calls P f args w fun e w1 => e = .returned v ∧ Fit w0 H w1)
    (k : ∀ a, RepD Df n (lk ((d, v) :: l) j) a → wpAnyW P .any ops (QC w0 H) W Lk fuel (listed.setIfInBounds i true) a) : wpAnyW P .any ops (QC w0 H) W Lk (fuel + 1) listed a := by
  refine wpAnyW_first (v := v) hi (by simpa using hiW) (Region.noSelect_spec hns) listed hwin fuel listed a (Region.free_spec hi hfr) (fun _ h => h) (fun _ h => .inl h) (by simpa using hrd) ?_ ?_
  · unfold YieldsIn
    refine .inl ⟨hw, fun w hC => ?_⟩
    unfold Oper.quietAt
    rw [hr.eval, hrun w hC]
    exact ⟨rfl, hc w hC⟩
  · rw [hd]; exact k _ (hr.put d v hn)
theorem win_end {listed : Array Bool} (hrd : ((Region.ready .any ops listed).all fun i => !W.contains i) = true) (k : Lk listed a) : wpAnyW P .any ops C W Lk 0 listed a :=
  ⟨fun i hi hW => by have := List.all_eq_true.1 hrd i hi; simp [hW] at this, k⟩
theorem wg_undef {i : Nat} {b : Bool} (hr : RepD Df n e a) (hg : o.guard = some (i, b)) (hi : (ops[i]?).bind (·.dst) = some t) (ht : Nat.blt t n = true) (he : e t = undef) :
    Region.wanted o (yielded ops a.tmps) = false := by
  have ht' : t < a.tmps.size := by rw [hr.size]; exact Nat.le_of_ble_eq_true ht
  have hg2 : a.tmps[t]? = some undef := by
    have := hr.get t
    rw [he, Array.getD_eq_getD_getElem?, Array.getElem?_eq_getElem ht'] at this
    rw [Array.getElem?_eq_getElem ht']
    simpa using this
  simp only [Region.wanted, hg, yielded, hi, Option.bind_some, hg2]
  cases b <;> rfl
end
end Go.Proofs.YtpikpffbcjpmcaaGreatDoor.GX
