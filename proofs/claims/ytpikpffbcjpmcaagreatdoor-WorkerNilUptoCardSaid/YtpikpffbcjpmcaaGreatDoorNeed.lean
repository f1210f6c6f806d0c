/- How many cells a world takes: what is told is what the deques may grow to. No memory is spoken of. -/
import Derived.Test.YtpikpffbcjpmcaaGreatDoorNewC
namespace Go.Proofs.YtpikpffbcjpmcaaGreatDoor.Mo
open Go Go.Proofs.YtpikpffbcjpmcaaGreatDoor.SL Go.Proofs.YtpikpffbcjpmcaaGreatDoor.GX
set_option linter.unusedVariables false
set_option linter.unusedSimpArgs false
section
variable {K : Nat}
/-- the capacity of the buffer behind g growths -/
def cq (f m : Nat) : Nat → Nat
  | 0 => f
  | g + 1 => min (2 * cq f m g) m
/-- the cells of the buffers 1 to g -/
def tq (f m : Nat) : Nat → Nat
  | 0 => 0
  | g + 1 => tq f m g + 1 + cq f m (g + 1)
theorem cq_le {f m : Nat} (h : f ≤ m) : ∀ g, cq f m g ≤ m
  | 0 => h
  | g + 1 => by simp only [cq]; omega
theorem cq_pos {f m : Nat} (h1 : 1 ≤ f) (h : f ≤ m) : ∀ g, 1 ≤ cq f m g
  | 0 => h1
  | g + 1 => by have := cq_pos h1 h g; simp only [cq]; omega
theorem cq_top {f m : Nat} (h1 : 1 ≤ f) (hf : f ≤ m) : ∀ (d g : Nat), m - cq f m g ≤ d → ∃ G, g ≤ G ∧ cq f m G = m ∧ (∀ x, g ≤ x → x < G → cq f m x < m) ∧ tq f m g ≤ tq f m G ∧ (cq f m g = m → G = g) ∧ (2 ≤ cq f m g → 2 * (tq f m G - tq f m g) + 5 * cq f m g ≤ 7 * m) ∧ 2 * (tq f m G - tq f m g) ≤ 7 * m
  | d, g, hd => by
    have hl := cq_le hf g
    have hp := cq_pos h1 hf g
    by_cases e : cq f m g < m
    · have hn : cq f m (g + 1) = min (2 * cq f m g) m := rfl
      have hT : tq f m (g + 1) = tq f m g + 1 + cq f m (g + 1) := rfl
      obtain ⟨d, rfl⟩ : ∃ n, d = n + 1 := ⟨d - 1, by omega⟩
      obtain ⟨G, a1, a2, a3, a4, a5, a6, a7⟩ := cq_top h1 hf d (g + 1) (by omega)
      refine ⟨G, by omega, a2, fun x hx hG => ?_, by omega, fun h => by omega, fun h => ?_, ?_⟩
      · by_cases ex : x = g
        · rw [ex]; exact e
        · exact a3 x (by omega) hG
      · by_cases e2 : cq f m (g + 1) = m
        · have := a5 e2; subst this; omega
        · have := a6 (by omega); omega
      · by_cases e2 : cq f m (g + 1) = m
        · have := a5 e2; subst this; omega
        · have := a6 (by omega); omega
    · have e' : cq f m g = m := by omega
      exact ⟨g, Nat.le_refl _, e', fun x h1 h2 => by omega, Nat.le_refl _, fun _ => rfl, fun h => by omega, by omega⟩
theorem dcell_l {f m G : Nat} (hf : f ≤ m) (hm : m ≤ 4096) (hG : cq f m G = m) (hT : tq f m G ≤ 100000) : ∀ (d g k : Nat) (z : Int), g + d = G → d < k → (∀ x, g ≤ x → x < G → cq f m x < m) → 0 ≤ z → z + ((tq f m G - tq f m g : Nat) : Int) ≤ 1000000 → tq f m g ≤ tq f m G →
    plunderref11_dequeCells_l1 K (m : Int) k z (cq f m g : Nat) = some (z + ((tq f m G - tq f m g : Nat) : Int))
  | d, g, k, z, hd, hk, hx, hz, hz2, ht => by
    obtain ⟨k, rfl⟩ : ∃ n, k = n + 1 := ⟨k - 1, by omega⟩
    have hl := cq_le hf g
    rw [plunderref11_dequeCells_l1]
    by_cases e : g = G
    · subst e; rw [hG, if_neg (by omega), Nat.sub_self]; simp
    · obtain ⟨d, rfl⟩ : ∃ n, d = n + 1 := ⟨d - 1, by omega⟩
      have h1 := hx g (Nat.le_refl _) (by omega)
      have hn : cq f m (g + 1) = min (2 * cq f m g) m := rfl
      have hT' : tq f m (g + 1) = tq f m g + 1 + cq f m (g + 1) := rfl
      have hmon : ∀ y, g + 1 + y ≤ G → tq f m (g + 1) ≤ tq f m (g + 1 + y) := fun y => by
        induction y with
        | zero => intro _; exact Nat.le_refl _
        | succ y ih => intro h; have := ih (by omega); show _ ≤ tq f m (g + 1 + y) + 1 + cq f m (g + 1 + y + 1); omega
      have hle : tq f m (g + 1) ≤ tq f m G := by have := hmon (G - (g + 1)) (by omega); rwa [show g + 1 + (G - (g + 1)) = G by omega] at this
      have hc : (if (m : Int) < wi ((2 : Int) * ((cq f m g : Nat) : Int)) then (m : Int) else wi ((2 : Int) * ((cq f m g : Nat) : Int))) = ((cq f m (g + 1) : Nat) : Int) := by
        rw [wi_in (by omega)]; split <;> omega
      rw [if_pos (by omega), hc, wi_in (x := z + 1) (by omega), wi_in (x := z + 1 + _) (by omega),
        dcell_l hf hm hG hT d (g + 1) k _ (by omega) (by omega) (fun x h1 h2 => hx x (by omega) h2) (by omega) (by omega) hle]
      congr 1; omega
/-- what a world takes: its beginning, and what its deques may grow to -/
theorem need_ok {N F : Nat} {lim : T_api_Limits} {f m : Nat} (hl : Lim lim.Frames lim.First lim.Most) (hF : lim.Frames = F) (hf : lim.First = f) (hm : lim.Most = m) (hN1 : 1 ≤ N) (hN : N ≤ 64) (hK : 5000 < K) :
    ∃ G, cq f m G = m ∧ (∀ x, x < G → cq f m x < m) ∧ tq f m G ≤ 15000 ∧ plunderref11_Need K (N : Int) lim = some ((4 + 10 * F + N + N * (4 + f + tq f m G) : Nat) : Int) ∧ 4 + 10 * F + N + N * (4 + f + tq f m G) ≤ 1048576 := by
  have f1 := hl.f1
  have f2 := hl.f2
  have a1 := hl.a1
  have a2 := hl.a2
  have m2 := hl.m2
  obtain ⟨G, g1, g2, g3, g4, g5, g6, g7⟩ := cq_top (f := f) (m := m) (by omega) (by omega) (m - cq f m 0) 0 (Nat.le_refl _)
  have h0 : tq f m 0 = 0 := rfl
  have h0' : cq f m 0 = f := rfl
  rw [h0'] at g5 g6
  rw [h0] at g6 g7
  have hb : 2 * (4 + f + tq f m G) ≤ 28690 := by
    by_cases e : 2 ≤ f
    · have := g6 e; omega
    · omega
  refine ⟨G, g2, fun x hx => g3 x (Nat.zero_le _) hx, by omega, ?_, ?_⟩
  · unfold plunderref11_Need plunderref11_badLimits plunderref11_dequeCells
    have hGK : G < K := by
      have hmon : ∀ x, x ≤ G → x ≤ tq f m x := fun x => by
        induction x with
        | zero => intro _; exact Nat.le_refl _
        | succ y ih => intro h; have := ih (by omega); show _ ≤ tq f m y + 1 + cq f m (y + 1); omega
      have h9 : ∀ x, x ≤ G → x ≤ cq f m x := fun x => by
        induction x with
        | zero => intro _; exact Nat.zero_le _
        | succ y ih =>
          intro h; have := ih (by omega); have := g3 y (Nat.zero_le _) (by omega); have := cq_pos (f := f) (m := m) (by omega) (by omega) y; show _ ≤ min (2 * cq f m y) m; omega
      have := h9 G (Nat.le_refl _); omega
    have e := dcell_l (K := K) (f := f) (m := m) (G := G) (by omega) (by omega) g2 (by omega) G 0 K (4 + (f : Int)) (by omega) hGK (fun x h1 h2 => g3 x h1 h2) (by omega) (by omega) (by rw [h0]; omega)
    rw [h0, h0', Nat.sub_zero] at e
    rw [if_neg (by omega), if_neg (by omega), if_neg (by omega), if_neg (by omega), if_neg (by omega), if_neg (by omega), ob1_some, if_neg (by simp; omega), jn0_inl, hf, hm, wi_in (x := 4 + (f : Int)) (by omega), e, ob1_some, hF,
      wi_in (x := (F : Int) * 10) (by omega), wi_in (x := (2 : Int) + (F : Int) * 10) (by omega), wi_in (x := (2 : Int) + (F : Int) * 10 + 2) (by omega), wi_in (x := (2 : Int) + (F : Int) * 10 + 2 + (N : Int)) (by omega)]
    have hmul : (N : Int) * (4 + (f : Int) + ((tq f m G : Nat) : Int)) = ((N * (4 + f + tq f m G) : Nat) : Int) := by simp
    have hb2 : N * (4 + f + tq f m G) ≤ 64 * 14345 := Nat.mul_le_mul hN (by omega)
    rw [hmul, wi_in (x := ((N * (4 + f + tq f m G) : Nat) : Int)) (by omega), wi_in (by omega)]
    congr 1; omega
  · have hb2 : N * (4 + f + tq f m G) ≤ 64 * 14345 := Nat.mul_le_mul hN (by omega)
    omega
end
end Go.Proofs.YtpikpffbcjpmcaaGreatDoor.Mo
