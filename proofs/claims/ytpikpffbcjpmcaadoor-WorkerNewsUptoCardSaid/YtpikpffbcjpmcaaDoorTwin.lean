/- A case's twin is the case; what is the same is found the same. No memory is spoken of. -/
import Derived.Test.YtpikpffbcjpmcaaDoorNewC
namespace Go.Proofs.YtpikpffbcjpmcaaDoor.Mo
open Go Go.Proofs.YtpikpffbcjpmcaaDoor.SL Go.Proofs.YtpikpffbcjpmcaaDoor.GX
set_option linter.unusedVariables false
set_option linter.unusedSimpArgs false
section
variable {K : Nat}
/-- lists that are not too long -/
structure Small (c : T_plunderlaw11_Case) : Prop where
  f : c.P_Funcs.length ≤ 1048576
  k : ∀ i, i < c.P_Funcs.length → (at_ c.P_Funcs i).Code.length ≤ 1048576
  a : c.Args.length ≤ 1048576
  p : c.S_Picks.length ≤ 1048576
  d : c.S_Draws.length ≤ 1048576
theorem tw2 {c : T_plunderlaw11_Case} (h : Small c) {n : Nat} (hn : n < c.P_Funcs.length) : ∀ (d k i : Nat) (l : List T_api_Instr), i + d = (at_ c.P_Funcs n).Code.length → d < k → l.length = i → plunderlaw11_twin_l2 K c (n : Int) k l (i : Int) = some (l ++ (at_ c.P_Funcs n).Code.drop i)
  | d, k, i, l, hd, hk, hl => by
    obtain ⟨k, rfl⟩ : ∃ m, k = m + 1 := ⟨k - 1, by omega⟩
    have := h.k n hn
    rw [plunderlaw11_twin_l2, Int.toNat_natCast]
    by_cases hi : i < (at_ c.P_Funcs n).Code.length
    · obtain ⟨d, rfl⟩ : ∃ m, d = m + 1 := ⟨d - 1, by omega⟩
      rw [if_pos (by omega), if_pos ⟨by omega, by omega⟩, if_pos (by omega), Int.toNat_natCast, wiN (by omega), tw2 h hn d k (i + 1) _ (by omega) (by omega) (by simp [hl]), drop_at hi, List.append_assoc]; rfl
    · rw [if_neg (by omega), List.drop_of_length_le (by omega), List.append_nil]
theorem tw1 {c : T_plunderlaw11_Case} (h : Small c) (hK : 2000000 < K) : ∀ (d k i : Nat) (l : List T_api_Func), i + d = c.P_Funcs.length → d < k → l.length = i → plunderlaw11_twin_l1 K c k l (i : Int) = some (l ++ c.P_Funcs.drop i)
  | d, k, i, l, hd, hk, hl => by
    obtain ⟨k, rfl⟩ : ∃ m, k = m + 1 := ⟨k - 1, by omega⟩
    have := h.f
    rw [plunderlaw11_twin_l1]
    by_cases hi : i < c.P_Funcs.length
    · obtain ⟨d, rfl⟩ : ∃ m, d = m + 1 := ⟨d - 1, by omega⟩
      have := h.k i hi
      have e := tw2 (K := K) h hi (at_ c.P_Funcs i).Code.length K 0 [] (by omega) (by omega) rfl
      rw [Int.ofNat_zero, List.nil_append, List.drop_zero] at e
      rw [if_pos (by omega), if_pos ⟨by omega, by omega⟩, e, ob1_some, if_pos (by omega), ob1_some, Int.toNat_natCast, wiN (by omega), tw1 h hK d k (i + 1) _ (by omega) (by omega) (by simp [hl]), drop_at hi, List.append_assoc]; rfl
    · rw [if_neg (by omega), List.drop_of_length_le (by omega), List.append_nil]
theorem tw3 {c : T_plunderlaw11_Case} (h : Small c) : ∀ (d k i : Nat) (l : List Int), i + d = c.Args.length → d < k → l.length = i → plunderlaw11_twin_l3 K c k l (i : Int) = some (l ++ c.Args.drop i)
  | d, k, i, l, hd, hk, hl => by
    obtain ⟨k, rfl⟩ : ∃ m, k = m + 1 := ⟨k - 1, by omega⟩
    have := h.a
    rw [plunderlaw11_twin_l3]
    by_cases hi : i < c.Args.length
    · obtain ⟨d, rfl⟩ : ∃ m, d = m + 1 := ⟨d - 1, by omega⟩
      rw [if_pos (by omega), if_pos ⟨by omega, by omega⟩, if_pos (by omega), Int.toNat_natCast, wiN (by omega), tw3 h d k (i + 1) _ (by omega) (by omega) (by simp [hl]), drop_at hi, List.append_assoc]; rfl
    · rw [if_neg (by omega), List.drop_of_length_le (by omega), List.append_nil]
theorem tw4 {c : T_plunderlaw11_Case} (h : Small c) : ∀ (d k i : Nat) (l : List Int), i + d = c.S_Picks.length → d < k → l.length = i → plunderlaw11_twin_l4 K c k l (i : Int) = some (l ++ c.S_Picks.drop i)
  | d, k, i, l, hd, hk, hl => by
    obtain ⟨k, rfl⟩ : ∃ m, k = m + 1 := ⟨k - 1, by omega⟩
    have := h.p
    rw [plunderlaw11_twin_l4]
    by_cases hi : i < c.S_Picks.length
    · obtain ⟨d, rfl⟩ : ∃ m, d = m + 1 := ⟨d - 1, by omega⟩
      rw [if_pos (by omega), if_pos ⟨by omega, by omega⟩, if_pos (by omega), Int.toNat_natCast, wiN (by omega), tw4 h d k (i + 1) _ (by omega) (by omega) (by simp [hl]), drop_at hi, List.append_assoc]; rfl
    · rw [if_neg (by omega), List.drop_of_length_le (by omega), List.append_nil]
theorem tw5 {c : T_plunderlaw11_Case} (h : Small c) (f : List T_api_Func) (a p : List Int) : ∀ (d k i : Nat) (l : List Int), i + d = c.S_Draws.length → d < k → l.length = i → plunderlaw11_twin_l5 K c f a p k l (i : Int) = some { c with P_Funcs := f, Args := a, S_Picks := p, S_Draws := l ++ c.S_Draws.drop i }
  | d, k, i, l, hd, hk, hl => by
    obtain ⟨k, rfl⟩ : ∃ m, k = m + 1 := ⟨k - 1, by omega⟩
    have := h.d
    rw [plunderlaw11_twin_l5]
    by_cases hi : i < c.S_Draws.length
    · obtain ⟨d, rfl⟩ : ∃ m, d = m + 1 := ⟨d - 1, by omega⟩
      rw [if_pos (by omega), if_pos ⟨by omega, by omega⟩, if_pos (by omega), Int.toNat_natCast, wiN (by omega), tw5 h f a p d k (i + 1) _ (by omega) (by omega) (by simp [hl]), drop_at hi, List.append_assoc]; rfl
    · rw [if_neg (by omega), List.drop_of_length_le (by omega), List.append_nil]
theorem twin_ok {c : T_plunderlaw11_Case} (h : Small c) (hK : 2000000 < K) : plunderlaw11_twin K c = some c := by
  have h1 := h.f
  have h2 := h.a
  have h3 := h.p
  have h4 := h.d
  have e1 := tw1 (K := K) h hK c.P_Funcs.length K 0 [] (by omega) (by omega) rfl
  have e2 := tw3 (K := K) h c.Args.length K 0 [] (by omega) (by omega) rfl
  have e3 := tw4 (K := K) h c.S_Picks.length K 0 [] (by omega) (by omega) rfl
  have e4 := tw5 (K := K) h c.P_Funcs c.Args c.S_Picks c.S_Draws.length K 0 [] (by omega) (by omega) rfl
  rw [Int.ofNat_zero, List.nil_append, List.drop_zero] at e1 e2 e3 e4
  unfold plunderlaw11_twin
  rw [e1, ob1_some, e2, ob1_some, e3, ob1_some, e4]
theorem ints_l {p : List Int} (hb : p.length ≤ 1048576) : ∀ (d k i : Nat), i + d = p.length → d < k → plunderlaw11_sameInts_l1 K p p k (i : Int) = some true
  | d, k, i, h, hk => by
    obtain ⟨k, rfl⟩ : ∃ n, k = n + 1 := ⟨k - 1, by omega⟩
    rw [plunderlaw11_sameInts_l1]
    by_cases hi : i < p.length
    · obtain ⟨d, rfl⟩ : ∃ n, d = n + 1 := ⟨d - 1, by omega⟩
      rw [if_pos (by omega), if_pos ⟨by omega, by omega⟩, if_pos ⟨by omega, by omega⟩, if_pos rfl, wiN (by omega)]
      exact ints_l hb d k (i + 1) (by omega) (by omega)
    · rw [if_neg (by omega)]
theorem ints_ok {p : List Int} (hb : p.length ≤ 1048576) (hK : 2000000 < K) : plunderlaw11_sameInts K p p = some true := by
  unfold plunderlaw11_sameInts; rw [if_pos rfl]; exact ints_l hb p.length K 0 (by omega) (by omega)
theorem un2 {c : T_plunderlaw11_Case} (h : Small c) {n : Nat} (hn : n < c.P_Funcs.length) : ∀ (d k i : Nat), i + d = (at_ c.P_Funcs n).Code.length → d < k → plunderlaw11_unchanged_l2 K c c (n : Int) k (i : Int) = some (.inl ())
  | d, k, i, hd, hk => by
    obtain ⟨k, rfl⟩ : ∃ m, k = m + 1 := ⟨k - 1, by omega⟩
    have := h.k n hn
    rw [plunderlaw11_unchanged_l2, Int.toNat_natCast]
    by_cases hi : i < (at_ c.P_Funcs n).Code.length
    · obtain ⟨d, rfl⟩ : ∃ m, d = m + 1 := ⟨d - 1, by omega⟩
      rw [if_pos (by omega), if_pos ⟨by omega, by omega⟩, if_pos ⟨by omega, by omega⟩, if_pos rfl, wiN (by omega)]
      exact un2 h hn d k (i + 1) (by omega) (by omega)
    · rw [if_neg (by omega)]
theorem un1 {c : T_plunderlaw11_Case} (h : Small c) (hK : 2000000 < K) : ∀ (d k i : Nat), i + d = c.P_Funcs.length → d < k → plunderlaw11_unchanged_l1 K c c k (i : Int) = some (.inl ())
  | d, k, i, hd, hk => by
    obtain ⟨k, rfl⟩ : ∃ m, k = m + 1 := ⟨k - 1, by omega⟩
    have := h.f
    rw [plunderlaw11_unchanged_l1]
    by_cases hi : i < c.P_Funcs.length
    · obtain ⟨d, rfl⟩ : ∃ m, d = m + 1 := ⟨d - 1, by omega⟩
      have := h.k i hi
      have e := un2 (K := K) h hi (at_ c.P_Funcs i).Code.length K 0 (by omega) (by omega)
      rw [Int.ofNat_zero] at e
      have hi' : inr_ (i : Int) c.P_Funcs.length := ⟨by omega, by omega⟩
      rw [if_pos (by omega), if_pos hi', if_pos hi', if_pos rfl, if_pos rfl, if_pos rfl, if_pos rfl, jn0_inl, e, jn0_inl, wiN (by omega)]
      exact un1 h hK d k (i + 1) (by omega) (by omega)
    · rw [if_neg (by omega)]
theorem un3 {c : T_plunderlaw11_Case} (h : Small c) : ∀ (d k i : Nat), i + d = c.Args.length → d < k → plunderlaw11_unchanged_l3 K c c k (i : Int) = some (.inl ())
  | d, k, i, hd, hk => by
    obtain ⟨k, rfl⟩ : ∃ m, k = m + 1 := ⟨k - 1, by omega⟩
    have := h.a
    rw [plunderlaw11_unchanged_l3]
    by_cases hi : i < c.Args.length
    · obtain ⟨d, rfl⟩ : ∃ m, d = m + 1 := ⟨d - 1, by omega⟩
      rw [if_pos (by omega), if_pos ⟨by omega, by omega⟩, if_pos ⟨by omega, by omega⟩, if_pos rfl, wiN (by omega)]
      exact un3 h d k (i + 1) (by omega) (by omega)
    · rw [if_neg (by omega)]
theorem unchanged_ok {c : T_plunderlaw11_Case} (h : Small c) (hK : 2000000 < K) : plunderlaw11_unchanged K c c = some true := by
  have h1 := h.f
  have h2 := h.a
  have e1 := un1 (K := K) h hK c.P_Funcs.length K 0 (by omega) (by omega)
  have e3 := un3 (K := K) h c.Args.length K 0 (by omega) (by omega)
  rw [Int.ofNat_zero] at e1 e3
  unfold plunderlaw11_unchanged
  rw [if_pos rfl, if_pos rfl, jn0_inl, e1, jn0_inl, e3, jn0_inl, ints_ok h.p hK, ob1_some, if_pos rfl, ints_ok h.d hK, ob1_some]
theorem slog_l {p : List T_api_Access} (hb : p.length ≤ 100000000) : ∀ (d k i : Nat), i + d = p.length → d < k → plunderlaw11_sameLog_l1 K p p k (i : Int) = some true
  | d, k, i, h, hk => by
    obtain ⟨k, rfl⟩ : ∃ n, k = n + 1 := ⟨k - 1, by omega⟩
    rw [plunderlaw11_sameLog_l1]
    by_cases hi : i < p.length
    · obtain ⟨d, rfl⟩ : ∃ n, d = n + 1 := ⟨d - 1, by omega⟩
      rw [if_pos (by omega), if_pos ⟨by omega, by omega⟩, if_pos ⟨by omega, by omega⟩, if_pos rfl, wiN (by omega)]
      exact slog_l hb d k (i + 1) (by omega) (by omega)
    · rw [if_neg (by omega)]
theorem slog_ok {p : List T_api_Access} (hb : p.length ≤ 100000000) (hK : p.length < K) : plunderlaw11_sameLog K p p = some true := by
  unfold plunderlaw11_sameLog; rw [if_pos rfl]; exact slog_l hb p.length K 0 (by omega) hK
theorem scel_l {p : List Int} (hb : p.length ≤ 100000000) : ∀ (d k i : Nat), i + d = p.length → d < k → plunderlaw11_sameCells_l1 K p p k (i : Int) = some true
  | d, k, i, h, hk => by
    obtain ⟨k, rfl⟩ : ∃ n, k = n + 1 := ⟨k - 1, by omega⟩
    rw [plunderlaw11_sameCells_l1]
    by_cases hi : i < p.length
    · obtain ⟨d, rfl⟩ : ∃ n, d = n + 1 := ⟨d - 1, by omega⟩
      rw [if_pos (by omega), if_pos ⟨by omega, by omega⟩, if_pos ⟨by omega, by omega⟩, if_pos rfl, wiN (by omega)]
      exact scel_l hb d k (i + 1) (by omega) (by omega)
    · rw [if_neg (by omega)]
theorem scel_ok {p : List Int} (hb : p.length ≤ 100000000) (hK : p.length < K) : plunderlaw11_sameCells K p p = some true := by
  unfold plunderlaw11_sameCells; rw [if_pos rfl]; exact scel_l hb p.length K 0 (by omega) hK
end
end Go.Proofs.YtpikpffbcjpmcaaDoor.Mo
