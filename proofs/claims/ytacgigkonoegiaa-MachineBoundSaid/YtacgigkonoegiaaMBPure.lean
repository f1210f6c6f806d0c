/- machine.Bound answers what the document's Bound answers, at all numbers. Conditions: none. -/
import Derived.Test.YtacgigkonoegiaaMBx1
namespace Go.Proofs.Ytacgigkonoegiaa.MBPure
open Go.RowKit Go.Proofs.Ytacgigkonoegiaa.MB Go.Proofs.YtacgigkonoegiaaW.PrintWords Go.Proofs.YtacgigkonoegiaaW.PrintLast

theorem plus_same (a b : Int) : plunderref12_plus.f a b = machine_plus.f a b := rfl
theorem times_same (a b : Int) (h : 0 ≤ a) : plunderref12_times.f a b = machine_times.f a b := by
  unfold plunderref12_times.f machine_times.f
  by_cases h0 : a = 0
  · rw [if_neg (by omega), if_pos h0]
  · rw [if_pos (by omega), if_neg h0, if_neg h0]
theorem plus_some (a b : Int) : ∃ r, machine_plus.f a b = some r := by
  unfold machine_plus.f; split <;> exact ⟨_, rfl⟩
theorem times_some (a b : Int) : ∃ r, machine_times.f a b = some r := by
  unfold machine_times.f; split
  · exact ⟨_, rfl⟩
  · split <;> exact ⟨_, rfl⟩

theorem j0_same (a0 a1 a2 a3 : Int) (b : Bool) (h2 : 1 ≤ a2) (h2' : a2 ≤ 64 ∨ b = true) (h3 : 1 ≤ a3) : plunderref12_Bound.j0 1 a0 a1 a2 a3 b = machine_Bound.j0 1 a0 a1 a2 a3 b := by
  unfold plunderref12_Bound.j0 machine_Bound.j0
  cases b with
  | true => rfl
  | false =>
    have h64 : a2 ≤ 64 := by rcases h2' with h | h; exact h; cases h
    have hw : wrap64 (a2 + 32) = a2 + 32 := by unfold wrap64; omega
    simp only [hw, plus_same]
    rw [times_same 2 a0 (by omega), times_same (a2 + 32) a1 (by omega)]
    have ht : ∀ x, plunderref12_times.f a3 x = machine_times.f a3 x := fun x => times_same a3 x (by omega)
    simp only [ht]

theorem j0_some (a0 a1 a2 a3 : Int) (b : Bool) : ∃ r, machine_Bound.j0 1 a0 a1 a2 a3 b = some r := by
  cases b with
  | true => exact ⟨0, rfl⟩
  | false =>
    show ∃ r, ((machine_times.f 2 a0).bind fun t101 => ((machine_times.f (wrap64 (a2 + 32)) a1).bind fun t102 => ((machine_plus.f t101 t102).bind fun t103 => ((machine_plus.f t103 (wrap64 ((wrap64 (4 * a2)) + 32))).bind fun t104 => ((machine_times.f a3 t104).bind fun t105 => (some t105)))))) = some r
    obtain ⟨r1, e1⟩ := times_some 2 a0
    obtain ⟨r2, e2⟩ := times_some (wrap64 (a2 + 32)) a1
    obtain ⟨r3, e3⟩ := plus_some r1 r2
    obtain ⟨r4, e4⟩ := plus_some r3 (wrap64 (wrap64 (4 * a2) + 32))
    obtain ⟨r5, e5⟩ := times_some a3 r4
    exact ⟨r5, by rw [e1, Option.bind_some, e2, Option.bind_some, e3, Option.bind_some, e4, Option.bind_some, e5, Option.bind_some]⟩

theorem j0_true (a0 a1 a2 a3 : Int) : machine_Bound.j0 1 a0 a1 a2 a3 true = some 0 := by unfold machine_Bound.j0; rfl
theorem j0_true' (a0 a1 a2 a3 : Int) : plunderref12_Bound.j0 1 a0 a1 a2 a3 true = some 0 := by unfold plunderref12_Bound.j0; rfl

theorem bound_same (a0 a1 a2 a3 : Int) : ∃ r, machine_Bound.f 1 a0 a1 a2 a3 = some r ∧ plunderref12_Bound.f 1 a0 a1 a2 a3 = some r := by
  unfold machine_Bound.f plunderref12_Bound.f
  simp only [j0_true, j0_true']
  by_cases h0 : a0 < 1
  · rw [if_pos h0, if_pos h0]; exact ⟨0, rfl, rfl⟩
  rw [if_neg h0, if_neg h0]
  by_cases h1 : a1 < 1
  · rw [if_pos h1, if_pos h1]; exact ⟨0, rfl, rfl⟩
  rw [if_neg h1, if_neg h1]
  by_cases h3 : a3 < 1
  · rw [if_pos h3, if_pos h3]; exact ⟨0, rfl, rfl⟩
  rw [if_neg h3, if_neg h3]
  by_cases h2 : a2 < 1
  · rw [if_pos h2, if_pos h2]; exact ⟨0, rfl, rfl⟩
  rw [if_neg h2, if_neg h2]
  obtain ⟨r, e⟩ := j0_some a0 a1 a2 a3 (decide (a2 > 64))
  refine ⟨r, e, ?_⟩
  rw [j0_same a0 a1 a2 a3 _ (by omega) (by by_cases h : a2 > 64; exact .inr (by simpa using h); exact .inl (by omega)) (by omega)]
  exact e

theorem MachineBound : plunderlaw12_MachineBound.Pure := by
  intro a0 a1 a2 a3 _ _ _ _
  obtain ⟨r, e, e'⟩ := bound_same a0 a1 a2 a3
  refine ⟨1, ?_⟩
  unfold plunderlaw12_MachineBound.f
  rw [e, Option.bind_some, e', Option.bind_some]
  simp

end Go.Proofs.Ytacgigkonoegiaa.MBPure
