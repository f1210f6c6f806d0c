/- Regions that draw their order: reads and quiet calls ahead of an effect, beside allocations that float. No program is named here. -/
import Derived.Test.YtpikpffbcjpmcaaGreatDoorWin
namespace Go.Proofs.YtpikpffbcjpmcaaGreatDoor.GX
open Go Go.RowKit Go.Proofs.YtpikpffbcjpmcaaGreatDoor.SL
set_option linter.unusedVariables false

section
variable {P : Program} {ops : Array Oper} {Q : Exit → Act → World → Prop} {a : Act} {w w0 w1 : World} {o : Oper} {n d t : Nat} {v : Value} {l : List (Nat × Value)} {j e : Nat → Value} {md : Region.Mode} {W A : List Nat} {pre : List HProp → List HProp} {Ls : List HProp} {Df : List Deferred}
/-- One allocation, whatever the world. -/
def nOp (P : Program) (ops : Array Oper) (i : Nat) (K : Act → HProp → Prop) (a : Act) : Prop :=
  ∃ o d cs T, ops[i]? = some o ∧ o.dst = some d ∧ Region.wanted o (yielded ops a.tmps) = true ∧
    (∀ w, (execOp a.eval o).run P w = .ok (.value (.pointer (some ⟨w.heap.size, 0, none⟩))) (w.alloc (.cells cs T))) ∧
    ∀ b, K (a.put (some d) (.pointer (some ⟨b, 0, none⟩))) (pts b (.cells cs T))

def wpV (P : Program) (md : Region.Mode) (ops : Array Oper) (Q : Exit → Act → World → Prop) (w0 : World) (pre : List HProp → List HProp) (W A : List Nat) : Nat → Array Bool → Act → List HProp → Prop
  | 0, listed, a, Ls => Region.ready md ops listed = [] ∧ ∀ w, Fit w0 (sepL (pre Ls)) w → Q .normal a w
  | f + 1, listed, a, Ls => Region.ready md ops listed ≠ [] ∧ ∀ i ∈ Region.ready md ops listed,
      (i ∈ W ∧ qOp P ops (QC w0 (sepL (pre Ls))) i (fun a' => wpV P md ops Q w0 pre W A f (listed.setIfInBounds i true) a' Ls) a) ∨
      (i ∉ W ∧ i ∈ A ∧ nOp P ops i (fun a' p => wpV P md ops Q w0 pre W A f (listed.setIfInBounds i true) a' (p :: Ls)) a) ∨
      (i ∉ W ∧ i ∉ A ∧ ∀ w, Fit w0 (sepL (pre Ls)) w → wpOp P ops Q i (wpAny P md ops Q f (listed.setIfInBounds i true)) a w)

theorem wpAny_of_V (hpre : ∀ p Ls w, Fit w0 (sepL (p :: pre Ls)) w → Fit w0 (sepL (pre (p :: Ls))) w) :
    ∀ (f : Nat) (listed : Array Bool) (a : Act) (Ls : List HProp) (w : World), Fit w0 (sepL (pre Ls)) w → wpV P md ops Q w0 pre W A f listed a Ls → wpAny P md ops Q f listed a w
  | 0, listed, a, Ls, w, hF, h => ⟨h.1, h.2 w hF⟩
  | f + 1, listed, a, Ls, w, hF, h => ⟨fun h0 => absurd h0 h.1, fun i hi => by
      rcases h.2 i hi with ⟨_, hq⟩ | ⟨_, _, o, d, cs, T, ho, hd, hw, hrun, k⟩ | ⟨_, _, k⟩
      · exact wpOp_of_qOp' (C := QC w0 (sepL (pre Ls))) hF (fun a' w' hC' h' => wpAny_of_V hpre f _ a' Ls w' hC' h') hq
      · unfold wpOp
        simp only [ho]
        rw [if_pos hw]
        left
        unfold Oper.wp
        rw [hrun w]
        have k := k w.heap.size
        rw [← hd] at k
        exact wpAny_of_V hpre f _ _ _ _ (hpre _ _ _ (hF.alloc _)) k
      · exact k w hF⟩

/-- What can run ahead of i belongs to the window, or floats. -/
def winV (md : Region.Mode) (ops : Array Oper) (listed : Array Bool) (W A : List Nat) (i : Nat) : Bool :=
  (List.range ops.size).all fun k => k == i || listed.getD k true || !canB md ops listed i ops.size k || W.contains k || A.contains k

theorem nOp_put {k : Nat} {oi ok : Oper} (hk : ops[k]? = some ok) (hap : oi.apart ops ok = true) (hsi : ∀ cs b, oi.op ≠ .select cs b) (hsk : ∀ cs b, ok.op ≠ .select cs b)
    {K : Act → HProp → Prop} {C : List HProp → World → Prop} (hy : ∀ Ls, YieldsIn P ops (C Ls) oi v a) (h : nOp P ops k K (a.put oi.dst v)) :
    nOp P ops k (fun a' p => (∀ Ls, YieldsIn P ops (C Ls) oi v a') ∧ K (a'.put oi.dst v) p) a := by
  obtain ⟨h1, h2, h3⟩ := Oper.apart_spec hap
  obtain ⟨o, d, cs, T, ho, hd, hw, hrun, k'⟩ := h
  rw [hk, Option.some.injEq] at ho
  subst ho
  rw [wanted_put ok a oi.dst v h1] at hw
  rw [execOp_put ok hsk a oi.dst v h1] at hrun
  refine ⟨ok, d, cs, T, hk, hd, hw, hrun, fun b => ⟨fun Ls => ?_, ?_⟩⟩
  · rw [← hd]; exact (hy Ls).of_same (execOp_put oi hsi a ok.dst _ h3) (wanted_put oi a ok.dst _ h3)
  · rw [← hd, ← Act.put_comm a v _ h2, hd]; exact k' b

theorem wpV_first {i : Nat} {oi : Oper} (hi : ops[i]? = some oi) (hiW : i ∈ W) (hsel : ∀ (k : Nat) (o : Oper) cs b, ops[k]? = some o → o.op ≠ .select cs b)
    (listed0 : Array Bool) (hwin : winV md ops listed0 W A i = true) :
    ∀ (fuel : Nat) (listed : Array Bool) (a : Act) (Ls : List HProp),
      (∀ k ok, ops[k]? = some ok → k ≠ i → listed.getD k true = false → (∀ e ∈ ok.after, Region.binds md e = true → e.on ≠ i) → oi.apart ops ok = true) →
      (∀ k, listed.getD k true = false → listed0.getD k true = false) →
      (∀ k, listed.getD k false = true → listed0.getD k false = true ∨ ∀ f, canB md ops listed0 i f k = true) →
      i ∈ Region.ready md ops listed → (∀ Ls, YieldsIn P ops (QC w0 (sepL (pre Ls))) oi v a) →
      wpV P md ops Q w0 pre W A fuel (listed.setIfInBounds i true) (a.put oi.dst v) Ls → wpV P md ops Q w0 pre W A (fuel + 1) listed a Ls := by
  intro fuel
  have hcan : ∀ (listed : Array Bool), (∀ k, listed.getD k false = true → listed0.getD k false = true ∨ ∀ f, canB md ops listed0 i f k = true) → ∀ k ok, ops[k]? = some ok → k ≠ i → (∀ e ∈ ok.after, Region.binds md e = true → listed.getD e.on false = true) → ∀ f, canB md ops listed0 i f k = true := by
    intro listed hl k ok hk hki hall f
    cases f with
    | zero => rfl
    | succ f =>
      simp only [canB, hk, Bool.and_eq_true, bne_iff_ne, ne_eq, hki, not_false_eq_true, true_and]
      rw [Array.all_eq_true_iff_forall_mem]
      intro e he
      by_cases hb : Region.binds md e = true
      · rcases hl _ (hall e he hb) with h | h
        · simp [h]
        · simp [h f]
      · simp [hb]
  have hin : ∀ (listed : Array Bool), (∀ k, listed.getD k true = false → listed0.getD k true = false) → (∀ k, listed.getD k false = true → listed0.getD k false = true ∨ ∀ f, canB md ops listed0 i f k = true) → ∀ k ok, ops[k]? = some ok → k ≠ i → listed.getD k true = false → (∀ e ∈ ok.after, Region.binds md e = true → listed.getD e.on false = true) → k ∈ W ∨ k ∈ A := by
    intro listed hl0 hl k ok hk hki hun hall
    have hc := hcan listed hl k ok hk hki hall ops.size
    have h1 := List.all_eq_true.1 hwin k (List.mem_range.2 (Array.getElem?_eq_some_iff.1 hk).1)
    simp only [Bool.or_eq_true, beq_iff_eq, hki, false_or, hl0 k hun, Bool.false_eq_true, hc, Bool.not_true] at h1
    simpa using h1
  induction fuel with
  | zero =>
    intro listed a Ls _ hl0 hl hr hy Hh
    refine ⟨fun h => (by rw [h] at hr; cases hr), fun k hk => ?_⟩
    by_cases hki : k = i
    · subst hki; exact .inl ⟨hiW, (hy Ls).qOp hi Hh⟩
    · have := ready_mono hk hki
      rw [Hh.1] at this; cases this
  | succ fuel ih =>
    intro listed a Ls hfree hl0 hl hr hy Hh
    refine ⟨fun h => (by rw [h] at hr; cases hr), fun k hk => ?_⟩
    by_cases hki : k = i
    · subst hki; exact .inl ⟨hiW, (hy Ls).qOp hi Hh⟩
    · obtain ⟨hkun, ok, hok, hall⟩ := mem_ready.1 hk
      have hmem := hin listed hl0 hl k ok hok hki hkun hall
      have hnot : ∀ e ∈ ok.after, Region.binds md e = true → e.on ≠ i := fun e he hb heq => by
        have h1 := hall e he hb
        have h0 := (mem_ready.1 hr).1
        rw [heq] at h1
        rcases Nat.lt_or_ge i listed.size with h' | h'
        · simp [h'] at h0 h1; rw [h0] at h1; cases h1
        · simp [Array.getElem?_eq_none h'] at h1
      have hap := hfree k ok hok hki hkun hnot
      have hfree' : ∀ m om, ops[m]? = some om → m ≠ i → (listed.setIfInBounds k true).getD m true = false →
          (∀ e ∈ om.after, Region.binds md e = true → e.on ≠ i) → oi.apart ops om = true := fun m om hm hmi hun hno => by
        refine hfree m om hm hmi ?_ hno
        by_cases hkm : k = m
        · subst hkm; exact hkun
        · rw [getD_set_ne true hkm] at hun; exact hun
      have hl0' : ∀ m, (listed.setIfInBounds k true).getD m true = false → listed0.getD m true = false := fun m hm => by
        by_cases hkm : k = m
        · subst hkm; exact hl0 k hkun
        · rw [getD_set_ne true hkm] at hm; exact hl0 m hm
      have hl' : ∀ m, (listed.setIfInBounds k true).getD m false = true → listed0.getD m false = true ∨ ∀ f, canB md ops listed0 i f m = true := fun m hm => by
        by_cases hkm : k = m
        · subst hkm; exact .inr (hcan listed hl k ok hok hki hall)
        · rw [getD_set_ne false hkm] at hm; exact hl m hm
      rcases Hh.2 k (ready_mono hk hki) with ⟨hW, h1⟩ | ⟨hW, hA, h1⟩ | ⟨hW, hA, _⟩
      · left
        refine ⟨hW, ?_⟩
        obtain ⟨u, hyu, hk2⟩ := yieldsIn_of_qOp hok h1
        have hyu' : YieldsIn P ops (QC w0 (sepL (pre Ls))) ok u a := by
          obtain ⟨p1, p2, p3⟩ := Oper.apart_spec hap
          exact hyu.of_same (execOp_put ok (fun cs b => hsel k ok cs b hok) a oi.dst v p1).symm (wanted_put ok a oi.dst v p1).symm
        refine hyu'.qOp hok (ih (listed.setIfInBounds k true) _ Ls hfree' hl0' hl' (ready_mono hr (Ne.symm hki)) (fun Ls => ?_) ?_)
        · obtain ⟨p1, p2, p3⟩ := Oper.apart_spec hap
          exact (hy Ls).of_same (execOp_put oi (fun cs b => hsel i oi cs b hi) a ok.dst u p3) (wanted_put oi a ok.dst u p3)
        · obtain ⟨p1, p2, p3⟩ := Oper.apart_spec hap
          rw [Array.setIfInBounds_comm _ _ hki, ← Act.put_comm a v u p2]
          exact hk2
      · right; left
        refine ⟨hW, hA, ?_⟩
        obtain ⟨o', d', cs, T, g1, g2, g3, g4, g5⟩ := nOp_put hok hap (fun cs b => hsel i oi cs b hi) (fun cs b => hsel k ok cs b hok) (C := fun Ls => QC w0 (sepL (pre Ls))) hy h1
        refine ⟨o', d', cs, T, g1, g2, g3, g4, fun b => ih (listed.setIfInBounds k true) _ _ hfree' hl0' hl' (ready_mono hr (Ne.symm hki)) (g5 b).1 ?_⟩
        rw [Array.setIfInBounds_comm _ _ hki]
        exact (g5 b).2
      · exact absurd hmem (by simp [hW, hA])

/-! ### the rules -/
theorem flo_start {f : Nat} {listed : Array Bool} (W A : List Nat) (pre : List HProp → List HProp) (hpre : ∀ p Ls w, Fit w0 (sepL (p :: pre Ls)) w → Fit w0 (sepL (pre (p :: Ls))) w) (hF : Fit w0 (sepL (pre Ls)) w)
    (k : wpV P .any ops Q w0 pre W A f listed a Ls) : wpAny P .any ops Q f listed a w := wpAny_of_V hpre f listed a Ls w hF k
theorem flo_val {fuel i : Nat} {listed : Array Bool} (hi : ops[i]? = some o) (hiW : W.contains i = true) (hns : Region.noSelect ops = true) (hrd : (Region.ready .any ops listed).contains i = true) (hfr : Region.free .any ops listed i = true)
    (hwin : winV .any ops listed W A i = true) (hw : Region.wanted o (yielded ops a.tmps) = true) (hd : o.dst = some d) (hn : Nat.blt d n = true) (hr : RepD Df n (lk l j) a)
    (hrun : ∀ Ls w, Fit w0 (sepL (pre Ls)) w → (execOp (evE (lk l j)) o).run P w = .ok (.value v) w)
    (k : ∀ a, RepD Df n (lk ((d, v) :: l) j) a → wpV P .any ops Q w0 pre W A fuel (listed.setIfInBounds i true) a Ls) : wpV P .any ops Q w0 pre W A (fuel + 1) listed a Ls := by
  refine wpV_first (v := v) hi (by simpa using hiW) (Region.noSelect_spec hns) listed hwin fuel listed a Ls (Region.free_spec hi hfr) (fun _ h => h) (fun _ h => .inl h) (by simpa using hrd) (fun Ls => ?_) ?_
  · unfold YieldsIn
    refine .inl ⟨hw, fun w hC => ?_⟩
    unfold Oper.quietAt
    rw [hr.eval, hrun Ls w hC]
    exact ⟨rfl, rfl⟩
  · rw [hd]; exact k _ (hr.put d v hn)
theorem flo_off {fuel i : Nat} {listed : Array Bool} (hi : ops[i]? = some o) (hiW : W.contains i = true) (hns : Region.noSelect ops = true) (hrd : (Region.ready .any ops listed).contains i = true) (hfr : Region.free .any ops listed i = true)
    (hwin : winV .any ops listed W A i = true) (hw : Region.wanted o (yielded ops a.tmps) = false) (hd : o.dst = some d) (hn : Nat.blt d n = true) (hr : RepD Df n (lk l j) a)
    (k : ∀ a, RepD Df n (lk ((d, undef) :: l) j) a → wpV P .any ops Q w0 pre W A fuel (listed.setIfInBounds i true) a Ls) : wpV P .any ops Q w0 pre W A (fuel + 1) listed a Ls := by
  refine wpV_first (v := undef) hi (by simpa using hiW) (Region.noSelect_spec hns) listed hwin fuel listed a Ls (Region.free_spec hi hfr) (fun _ h => h) (fun _ h => .inl h) (by simpa using hrd) (fun Ls => ?_) ?_
  · unfold YieldsIn
    exact .inr ⟨hw, rfl⟩
  · rw [hd]; exact k _ (hr.put d undef hn)
theorem flo_call {fuel i : Nat} {listed : Array Bool} {f : FuncId} {args : Array Value} (hi : ops[i]? = some o) (hiW : W.contains i = true) (hns : Region.noSelect ops = true) (hrd : (Region.ready .any ops listed).contains i = true) (hfr : Region.free .any ops listed i = true)
    (hwin : winV .any ops listed W A i = true) (hw : Region.wanted o (yielded ops a.tmps) = true) (hd : o.dst = some d) (hn : Nat.blt d n = true) (hr : RepD Df n (lk l j) a)
    (hrun : ∀ Ls w, Fit w0 (sepL (pre Ls)) w → (execOp (evE (lk l j)) o).run P w = .ok (.enter f args) w) (hc : ∀ Ls w, Fit w0 (sepL (pre Ls)) w → Calls P f args w fun e w1 => e = .returned v ∧ Fit w0 (sepL (pre Ls)) w1)
    (k : ∀ a, RepD Df n (lk ((d, v) :: l) j) a → wpV P .any ops Q w0 pre W A fuel (listed.setIfInBounds i true) a Ls) : wpV P .any ops Q w0 pre W A (fuel + 1) listed a Ls := by
  refine wpV_first (v := v) hi (by simpa using hiW) (Region.noSelect_spec hns) listed hwin fuel listed a Ls (Region.free_spec hi hfr) (fun _ h => h) (fun _ h => .inl h) (by simpa using hrd) (fun Ls => ?_) ?_
  · unfold YieldsIn
    refine .inl ⟨hw, fun w hC => ?_⟩
    unfold Oper.quietAt
    rw [hr.eval, hrun Ls w hC]
    exact ⟨rfl, hc Ls w hC⟩
  · rw [hd]; exact k _ (hr.put d v hn)
/-- What is ready now, one by one. -/
def VAll (X : Nat → Prop) : List Nat → Prop
  | [] => True
  | i :: r => X i ∧ VAll X r
theorem VAll.mem {X : Nat → Prop} : ∀ {r : List Nat}, VAll X r → ∀ i ∈ r, X i
  | _ :: _, h, _, .head _ => h.1
  | _ :: _, h, _, .tail _ hm => VAll.mem h.2 _ hm
theorem vall_nil {X : Nat → Prop} : VAll X [] := trivial
theorem vall_cons {X : Nat → Prop} {i : Nat} {r : List Nat} (h : X i) (k : VAll X r) : VAll X (i :: r) := ⟨h, k⟩
def VAt (P : Program) (md : Region.Mode) (ops : Array Oper) (Q : Exit → Act → World → Prop) (w0 : World) (pre : List HProp → List HProp) (W A : List Nat) (f : Nat) (listed : Array Bool) (a : Act) (Ls : List HProp) (i : Nat) : Prop :=
      (i ∈ W ∧ qOp P ops (QC w0 (sepL (pre Ls))) i (fun a' => wpV P md ops Q w0 pre W A f (listed.setIfInBounds i true) a' Ls) a) ∨
      (i ∉ W ∧ i ∈ A ∧ nOp P ops i (fun a' p => wpV P md ops Q w0 pre W A f (listed.setIfInBounds i true) a' (p :: Ls)) a) ∨
      (i ∉ W ∧ i ∉ A ∧ ∀ w, Fit w0 (sepL (pre Ls)) w → wpOp P ops Q i (wpAny P md ops Q f (listed.setIfInBounds i true)) a w)
theorem flo_split {fuel : Nat} {listed : Array Bool} (r : List Nat) (hrd : Region.ready .any ops listed = r) (hne : r.isEmpty = false) (k : VAll (VAt P .any ops Q w0 pre W A fuel listed a Ls) r) : wpV P .any ops Q w0 pre W A (fuel + 1) listed a Ls := by
  subst hrd
  exact ⟨(fun h => by rw [h] at hne; cases hne), (fun i hi => VAll.mem k i hi)⟩
theorem flo_new {fuel i : Nat} {listed : Array Bool} {cs : Array Value} {T : TypeId} (hi : ops[i]? = some o) (hW : W.contains i = false) (hA : A.contains i = true) (hw : Region.wanted o (yielded ops a.tmps) = true) (hd : o.dst = some d) (hn : Nat.blt d n = true) (hr : RepD Df n (lk l j) a)
    (hrun : ∀ w, (execOp (evE (lk l j)) o).run P w = .ok (.value (.pointer (some ⟨w.heap.size, 0, none⟩))) (w.alloc (.cells cs T)))
    (k : ∀ b a, RepD Df n (lk ((d, .pointer (some ⟨b, 0, none⟩)) :: l) j) a → wpV P .any ops Q w0 pre W A fuel (listed.setIfInBounds i true) a (pts b (.cells cs T) :: Ls)) : VAt P .any ops Q w0 pre W A fuel listed a Ls i :=
  .inr (.inl ⟨by simpa using hW, by simpa using hA, o, d, cs, T, hi, hd, hw, by rw [hr.eval]; exact hrun, fun b => k b _ (hr.put d _ hn)⟩)
theorem flo_eff {fuel i : Nat} {listed : Array Bool} (hi : ops[i]? = some o) (hW : W.contains i = false) (hA : A.contains i = false)
    (k : ∀ w, Fit w0 (sepL (pre Ls)) w → wpList P ops (Exit.then (fun a w => wpAny P .any ops Q fuel (listed.setIfInBounds i true) a w) Q) [o] a w) : VAt P .any ops Q w0 pre W A fuel listed a Ls i := by
  refine .inr (.inr ⟨by simpa using hW, by simpa using hA, fun w hF => ?_⟩)
  have k := k w hF
  unfold wpOp
  simp only [hi]
  unfold wpList at k
  have hlo : LetsOut (Exit.then (fun a w => wpAny P .any ops Q fuel (listed.setIfInBounds i true) a w) Q) → LetsOut Q := fun ⟨a, w, h⟩ => ⟨a, w, h⟩
  have hmo : ∀ {x : Act} {y : World} {K : Act → World → Prop}, o.wp P x y K (Exit.then (fun a w => wpAny P .any ops Q fuel (listed.setIfInBounds i true) a w) Q) → o.wp P x y K Q := by
    intro x y K h
    unfold Oper.wp at *
    generalize (execOp x.eval o).run P y = r at *
    cases r with
    | ok z w' =>
      cases z <;> simp only [Oper.upon] at h ⊢ <;> first
        | exact h
        | (refine h.mono fun e w'' he => ?_
           cases e with
           | returned u => exact he
           | panicked ch => exact he
           | outgrown => exact hlo he)
    | halt z w' => cases z <;> simp only [Oper.upon] at h ⊢ <;> exact h
  split
  · rename_i hw
    rw [if_pos hw] at k
    rcases k with k | k
    · exact .inl (Oper.wp_mono (fun _ _ h => h) (hmo k))
    · exact .inr ⟨k.1, hlo k.2⟩
  · rename_i hw
    rw [if_neg hw] at k
    exact k
end
end Go.Proofs.YtpikpffbcjpmcaaGreatDoor.GX
