/- A new world: the program's and the document's. No memory is spoken of. -/
import Derived.Test.YtpikpffbcjpmcaaGreatDoorNewA
namespace Go.Proofs.YtpikpffbcjpmcaaGreatDoor.Mo
open Go Go.Proofs.YtpikpffbcjpmcaaGreatDoor.SL Go.Proofs.YtpikpffbcjpmcaaGreatDoor.GX
set_option linter.unusedVariables false
set_option linter.unusedSimpArgs false
section
variable {K : Nat}
theorem atset {l : List Int} {i k : Nat} {x : Int} (h : i < l.length) : at_ (l.set i x) k = if k = i then x else at_ l k := setat h
theorem fnew_l {sz a : Int} {w : Bool} {F : Nat} (hF : F ≤ 4096) : ∀ (d k i : Nat) (c : List Int) (l : List T_api_Access), i + d = F → d < k → 2 + 10 * F ≤ c.length → l.length + d ≤ 1000000000 →
    ∃ c', frames_New_iface_l1 K (F : Int) 1 k (ar sz c l a w) (i : Int) = some (⟨1, F⟩, 0, ar sz c' (wl w l (stF a i d)) a w) ∧ c'.length = c.length ∧ (∀ f, i ≤ f → f < F → at_ c' (2 + 10 * f) = 1) ∧ (∀ x, (∀ f, i ≤ f → f < F → x ≠ 2 + 10 * f) → at_ c' x = at_ c x)
  | d, k, i, c, l, hd, hk, hc, hl => by
    obtain ⟨k, rfl⟩ : ∃ m, k = m + 1 := ⟨k - 1, by omega⟩
    rw [frames_New_iface_l1]
    by_cases hi : i < F
    · obtain ⟨d, rfl⟩ : ∃ m, d = m + 1 := ⟨d - 1, by omega⟩
      unfold frames_Table__join
      rw [if_pos (by omega), wi_in (x := (1 : Int) + 1) (by omega), wi_in (x := (i : Int) * 10) (by omega), wi_in (by omega), ob1_some, sto_ok (by omega) (by omega) (by omega), ob2_some, if_pos rfl, wiN (by omega)]
      have e : ((1 : Int) + 1 + (i : Int) * 10).toNat = 2 + 10 * i := by omega
      rw [e]
      have h1 := wl_len w l [(⟨a, 1, 1 + 1 + (i : Int) * 10, 1, 0, true⟩ : T_api_Access)]
      simp only [List.length_singleton] at h1
      obtain ⟨c', r1, r2, r3, r4⟩ := fnew_l hF d k (i + 1) (c.set (2 + 10 * i) 1) (wl w l [⟨a, 1, 1 + 1 + (i : Int) * 10, 1, 0, true⟩]) (by omega) (by omega) (by rw [List.length_set]; exact hc) (by omega)
      refine ⟨c', ?_, by rw [r2, List.length_set], fun f h1 h2 => ?_, fun x hx => ?_⟩
      · rw [r1, wl_wl, stF, show (1 : Int) + 1 + (i : Int) * 10 = 2 + 10 * (i : Int) by omega]; rfl
      · by_cases e : f = i
        · subst e; rw [r4 _ (fun g h3 h4 => by omega), atset (by omega), if_pos rfl]
        · exact r3 f (by omega) h2
      · rw [r4 x (fun f h3 h4 => hx f (by omega) h4), atset (by omega), if_neg (hx i (Nat.le_refl _) hi)]
    · rw [if_neg (by omega)]
      obtain rfl : d = 0 := by omega
      exact ⟨c, by rw [stF, wl_nil], rfl, fun f h1 h2 => by omega, fun _ _ => rfl⟩
/-- the deques of a new world -/
def dqs (B W : Nat) (most : Int) (i : Nat) : Nat → List T_deque_Deque
  | 0 => []
  | d + 1 => ⟨((B + i * W : Nat) : Int), most⟩ :: dqs B W most (i + 1) d
theorem dqs_len {B W : Nat} {most : Int} : ∀ (d i : Nat), (dqs B W most i d).length = d
  | 0, i => rfl
  | d + 1, i => by rw [dqs, List.length_cons, dqs_len d (i + 1)]
theorem dqs_at {B W : Nat} {most : Int} : ∀ (d i j : Nat), j < d → at_ (dqs B W most i d) j = ⟨((B + (i + j) * W : Nat) : Int), most⟩
  | d + 1, i, 0, _ => by rw [dqs]; rfl
  | d + 1, i, j + 1, h => by
    have := dqs_at (B := B) (W := W) (most := most) d (i + 1) j (by omega)
    rw [show i + 1 + j = i + (j + 1) by omega] at this
    exact this
theorem dnew {sz a : Int} {w : Bool} {lim : T_api_Limits} (hl : Lim lim.Frames lim.First lim.Most) (hs : sz ≤ 2000000000) {c : List Int} {l : List T_api_Access} (hc : c.length ≤ 1000000000) (hll : l.length ≤ 1000000000) :
    ((c.length : Int) + (4 + lim.First) ≤ sz → deque_New_iface (ar sz c l a w) lim.First lim.Most = some (⟨((c.length : Nat) : Int), lim.Most⟩, 0, ar sz (((c ++ List.replicate (4 + lim.First).toNat 0).set (c.length + 2) ((c.length : Nat) + 3)).set (c.length + 3) lim.First)
        (wl w l [⟨a, 4, (c.length : Nat), 4 + lim.First, 0, true⟩, ⟨a, 1, (c.length : Nat) + 2, (c.length : Nat) + 3, 0, true⟩, ⟨a, 1, (c.length : Nat) + 3, lim.First, 0, true⟩]) a w)) ∧
    (0 ≤ sz → ¬ (c.length : Int) + (4 + lim.First) ≤ sz → deque_New_iface (ar sz c l a w) lim.First lim.Most = some (⟨0, 0⟩, 22, ar sz c l a w)) := by
  have h1 := hl.a1
  have h2 := hl.a2
  have h3 := hl.m2
  unfold deque_New_iface deque_capsOK
  rw [if_pos h1, if_pos h2, decide_eq_true h3, ob1_some, if_pos rfl, wi_in (x := (4 : Int) + lim.First) (by omega)]
  refine ⟨fun hf => ?_, fun h0 hf => ?_⟩
  · have k1 := wl_len w l [(⟨a, 4, (c.length : Nat), 4 + lim.First, 0, true⟩ : T_api_Access)]
    simp only [List.length_singleton] at k1
    rw [res_ok (by omega) hs (by omega) hf, ob3_some, if_pos rfl, wi_in (x := ((c.length : Nat) : Int) + 2) (by omega), wi_in (x := ((c.length : Nat) : Int) + 3) (by omega), sto_ok (by omega) (by omega) (by rw [List.length_append, List.length_replicate]; omega), ob2_some, if_pos rfl]
    have k2 := wl_len w (wl w l [(⟨a, 4, (c.length : Nat), 4 + lim.First, 0, true⟩ : T_api_Access)]) [(⟨a, 1, (c.length : Nat) + 2, (c.length : Nat) + 3, 0, true⟩ : T_api_Access)]
    simp only [List.length_singleton] at k2
    rw [sto_ok (by omega) (by omega) (by rw [List.length_set, List.length_append, List.length_replicate]; omega), ob2_some, if_pos rfl, wl_wl, wl_wl, show (((c.length : Nat) : Int) + 2).toNat = c.length + 2 by omega, show (((c.length : Nat) : Int) + 3).toNat = c.length + 3 by omega]
    rfl
  · rw [res_no hs h0 (by omega) (by omega) hf, ob3_some, if_neg (by decide)]
theorem dq_l {sz a : Int} {w : Bool} {lim : T_api_Limits} (hl : Lim lim.Frames lim.First lim.Most) (hs : sz ≤ 1000000000) (hs0 : 0 ≤ sz) {N B W : Nat} (hN : N ≤ 64) (hB : B ≤ 100000) (hW : (W : Int) = 4 + lim.First) {p0 : T_worker_World} {r14 : Int} {r23 : T_frames_Table} {r32 : T_park_Lot} : ∀ (d k i : Nat) (c : List Int) (l : List T_api_Access) (D : List T_deque_Deque), i + d = N → d < k → c.length = B + i * W → D.length = i → l.length + 3 * d ≤ 1000000000 →
    (((B + N * W : Nat) : Int) ≤ sz → ∃ c', worker_World_lay_l1 K p0 (N : Int) lim r14 r23 r32 k (ar sz c l a w) D (i : Int) = some (.inl (ar sz c' (wl w l (dqL a lim.First (c.length : Nat) d)) a w, D ++ dqs B W lim.Most i d)) ∧ cutL sz (dqL a lim.First (c.length : Nat) d) = dqL a lim.First (c.length : Nat) d ∧ c'.length = B + N * W ∧ (∀ x, x < c.length → at_ c' x = at_ c x) ∧
      (∀ j, i ≤ j → j < N → ∀ r, r < W → at_ c' (B + j * W + r) = if r = 2 then ((B + j * W + 3 : Nat) : Int) else if r = 3 then lim.First else 0)) ∧
    (¬ ((B + N * W : Nat) : Int) ≤ sz → ∃ X c', worker_World_lay_l1 K p0 (N : Int) lim r14 r23 r32 k (ar sz c l a w) D (i : Int) = some (.inr (22, X, ar sz c' (wl w l (cutL sz (dqL a lim.First (c.length : Nat) d))) a w)) ∧ (∀ ys, cutL sz (dqL a lim.First (c.length : Nat) d ++ ys) = cutL sz (dqL a lim.First (c.length : Nat) d)) ∨ ((B + i * W : Nat) : Int) > sz ∧ d = 0)
  | d, k, i, c, l, D, hd, hk, hc, hD, hll => by
    obtain ⟨k, rfl⟩ : ∃ m, k = m + 1 := ⟨k - 1, by omega⟩
    have h1 := hl.a1
    have h2 := hl.a2
    have h3 := hl.m2
    have hiW : i * W ≤ N * W := Nat.mul_le_mul_right W (by omega)
    have hNW : N * W ≤ 64 * 4100 := Nat.mul_le_mul hN (by omega)
    rw [worker_World_lay_l1]
    by_cases hi : i < N
    · obtain ⟨d, rfl⟩ : ∃ m, d = m + 1 := ⟨d - 1, by omega⟩
      have hsW : (i + 1) * W = i * W + W := Nat.succ_mul i W
      have hiW' : (i + 1) * W ≤ N * W := Nat.mul_le_mul_right W (by omega)
      have hcl : (((c ++ List.replicate (4 + lim.First).toNat (0 : Int)).set (c.length + 2) ((c.length : Nat) + 3)).set (c.length + 3) lim.First).length = B + (i + 1) * W := by
        rw [List.length_set, List.length_set, List.length_append, List.length_replicate]; omega
      rw [if_pos (by omega)]
      obtain ⟨n1, n2⟩ := dnew (a := a) (w := w) hl (by omega : sz ≤ 2000000000) (c := c) (l := l) (by omega) (by omega)
      by_cases hf : (c.length : Int) + (4 + lim.First) ≤ sz
      · rw [n1 hf, ob3_some, if_pos rfl, if_pos (by omega), wiN (by omega)]
        have hcut : ∀ ys, cutL sz ((⟨a, 4, (c.length : Nat), 4 + lim.First, 0, true⟩ : T_api_Access) :: (⟨a, 1, (c.length : Nat) + 2, (c.length : Nat) + 3, 0, true⟩ : T_api_Access) :: (⟨a, 1, (c.length : Nat) + 3, lim.First, 0, true⟩ : T_api_Access) :: ys) = (⟨a, 4, (c.length : Nat), 4 + lim.First, 0, true⟩ : T_api_Access) :: (⟨a, 1, (c.length : Nat) + 2, (c.length : Nat) + 3, 0, true⟩ : T_api_Access) :: (⟨a, 1, (c.length : Nat) + 3, lim.First, 0, true⟩ : T_api_Access) :: cutL sz ys := fun ys => by
          rw [cutL, if_neg (fun h => absurd h.2 (by show ¬ ((c.length : Nat) : Int) + (4 + lim.First) > sz; omega)), cutL, if_neg (fun h => absurd h.1 (by show ¬ (1 : Int) = 4; decide)), cutL, if_neg (fun h => absurd h.1 (by show ¬ (1 : Int) = 4; decide))]
        have k1 := wl_len w l [(⟨a, 4, (c.length : Nat), 4 + lim.First, 0, true⟩ : T_api_Access), (⟨a, 1, (c.length : Nat) + 2, (c.length : Nat) + 3, 0, true⟩ : T_api_Access), (⟨a, 1, (c.length : Nat) + 3, lim.First, 0, true⟩ : T_api_Access)]
        simp only [List.length_cons, List.length_nil] at k1
        obtain ⟨ih1, ih2⟩ := dq_l hl hs hs0 hN hB hW (p0 := p0) (r14 := r14) (r23 := r23) (r32 := r32) (a := a) (w := w) d k (i + 1) _ (wl w l [(⟨a, 4, (c.length : Nat), 4 + lim.First, 0, true⟩ : T_api_Access), (⟨a, 1, (c.length : Nat) + 2, (c.length : Nat) + 3, 0, true⟩ : T_api_Access), (⟨a, 1, (c.length : Nat) + 3, lim.First, 0, true⟩ : T_api_Access)]) (D ++ [⟨((c.length : Nat) : Int), lim.Most⟩]) (by omega) (by omega) hcl (by simp [hD]) (by omega)
        have el : ((B + (i + 1) * W : Nat) : Int) = ((c.length : Nat) : Int) + (4 + lim.First) := by omega
        rw [hcl, el] at ih1 ih2
        refine ⟨fun hfit => ?_, fun hno => ?_⟩
        · obtain ⟨c', r1, r0, r2, r3, r4⟩ := ih1 hfit
          refine ⟨c', ?_, ?_, r2, fun x hx => ?_, fun j h5 h6 r h7 => ?_⟩
          · rw [r1, wl_wl, dqL, dqs, List.append_assoc, hc]; rfl
          · rw [dqL, hcut, r0]
          · rw [r3 x (by omega), atset (by rw [List.length_set, List.length_append, List.length_replicate]; omega), if_neg (by omega), atset (by rw [List.length_append, List.length_replicate]; omega), if_neg (by omega), at_append_left hx]
          · by_cases e : j = i
            · subst e
              rw [r3 _ (by omega), ← hc, atset (by rw [List.length_set, List.length_append, List.length_replicate]; omega), atset (by rw [List.length_append, List.length_replicate]; omega), at_append_right (by omega), show c.length + r - c.length = r by omega, at_reps (by omega)]
              by_cases e2 : r = 2
              · subst e2; rw [if_neg (by omega), if_pos rfl, if_pos rfl]; omega
              · by_cases e3 : r = 3
                · subst e3; rw [if_pos rfl, if_neg (by omega), if_pos rfl]
                · rw [if_neg (by omega), if_neg (by omega), if_neg e2, if_neg e3]
            · exact r4 j (by omega) h6 r h7
        · obtain ⟨X, c', ⟨r1, r2⟩ | r1⟩ := ih2 hno
          · exact ⟨X, c', .inl ⟨by rw [r1, wl_wl, dqL, hcut]; rfl, fun ys => by rw [dqL, List.cons_append, List.cons_append, List.cons_append, hcut, hcut, r2 ys]⟩⟩
          · exfalso; omega
      · have e2 := n2 hs0 hf
        refine ⟨fun hfit => by exfalso; omega, fun hno => ?_⟩
        rw [e2, ob3_some, if_neg (by decide)]
        have e3 : wl w l (cutL sz (dqL a lim.First (c.length : Nat) (d + 1))) = l := by
          rw [dqL, cutL, if_pos ⟨rfl, by show ((c.length : Nat) : Int) + (4 + lim.First) > sz; omega⟩, wl_nil]
        rw [e3]
        exact ⟨_, c, .inl ⟨rfl, fun ys => by rw [dqL, List.cons_append, cutL, cutL, if_pos ⟨rfl, by show ((c.length : Nat) : Int) + (4 + lim.First) > sz; omega⟩, if_pos ⟨rfl, by show ((c.length : Nat) : Int) + (4 + lim.First) > sz; omega⟩]⟩⟩
    · obtain rfl : d = 0 := by omega
      obtain rfl : i = N := by omega
      rw [if_neg (by omega)]
      refine ⟨fun hfit => ⟨c, by rw [dqL, wl_nil, dqs, List.append_nil], rfl, hc, fun _ _ => rfl, fun j h5 h6 => by omega⟩, fun hno => ⟨p0, c, .inr ⟨by omega, rfl⟩⟩⟩
/-- all accesses that lay a world -/
def laidL (a : Int) (N F : Nat) (first : Int) : List T_api_Access :=
  [⟨a, 4, 0, 1, 0, true⟩, ⟨a, 4, 1, 1 + 10 * (F : Int), 0, true⟩] ++ stF a 0 F ++ (⟨a, 4, 2 + 10 * (F : Int), 2 + (N : Int), 0, true⟩ :: dqL a first (4 + 10 * F + N : Nat) N ++ [⟨a, 3, 1, 1, 1, true⟩])
theorem frames_new {sz a : Int} {w : Bool} {F : Nat} (h1 : 1 ≤ F) (h2 : F ≤ 4096) (hs : sz ≤ 1000000000) (hs0 : 0 ≤ sz) (hK : 5000 < K) {l : List T_api_Access} (hl : l.length ≤ 100) :
    ((2 + 10 * F : Int) ≤ sz → ∃ c, frames_New_iface K (ar sz [0] l a w) (F : Int) = some (⟨1, F⟩, 0, ar sz c (wl w l (⟨a, 4, 1, 1 + 10 * (F : Int), 0, true⟩ :: stF a 0 F)) a w) ∧ c.length = 2 + 10 * F ∧ (∀ f, f < F → at_ c (2 + 10 * f) = 1) ∧ (∀ x, x < 2 + 10 * F → (∀ f, f < F → x ≠ 2 + 10 * f) → at_ c x = 0)) ∧
    (¬ (2 + 10 * F : Int) ≤ sz → frames_New_iface K (ar sz [0] l a w) (F : Int) = some (⟨0, 0⟩, 22, ar sz [0] l a w)) := by
  unfold frames_New_iface frames_Cells
  rw [if_neg (show ¬ (F : Int) < 1 by omega), if_neg (show ¬ (F : Int) > 4096 by omega), wi_in (x := (F : Int) * 10) (by omega), wi_in (x := 1 + (F : Int) * 10) (by omega), ob1_some, if_neg (show ¬ 1 + (F : Int) * 10 = 0 by omega), ob1_some]
  refine ⟨fun hf => ?_, fun hf => ?_⟩
  · rw [res_ok (by omega) (by omega) (by omega) (by show ((1 : Nat) : Int) + (1 + (F : Int) * 10) ≤ sz; omega), ob3_some, if_pos rfl]
    have k1 := wl_len w l [(⟨a, 4, 1, 1 + (F : Int) * 10, 0, true⟩ : T_api_Access)]
    simp only [List.length_singleton] at k1
    obtain ⟨c, r1, r2, r3, r4⟩ := fnew_l (K := K) (sz := sz) (a := a) (w := w) h2 F K 0 ([0] ++ List.replicate (1 + (F : Int) * 10).toNat 0) (wl w l [⟨a, 4, 1, 1 + (F : Int) * 10, 0, true⟩]) (by omega) (by omega) (by rw [List.length_append, List.length_replicate]; simp; omega) (by omega)
    rw [Int.ofNat_zero] at r1
    refine ⟨c, ?_, by rw [r2, List.length_append, List.length_replicate]; simp; omega, fun f hf => r3 f (Nat.zero_le _) hf, fun x hx hn => ?_⟩
    · show frames_New_iface_l1 K (F : Int) ((1 : Nat) : Int) K (ar sz ([0] ++ List.replicate (1 + (F : Int) * 10).toNat 0) (wl w l [⟨a, 4, ((1 : Nat) : Int), 1 + (F : Int) * 10, 0, true⟩]) a w) 0 = _
      rw [show ((1 : Nat) : Int) = 1 from rfl, r1, wl_wl, show 1 + (F : Int) * 10 = 1 + 10 * (F : Int) by omega]; rfl
    · rw [r4 x (fun f _ h => hn f h)]
      by_cases e : x = 0
      · subst e; rfl
      · rw [at_append_right (by simp; omega), at_reps (by simp; omega)]
  · rw [res_no (by omega) hs0 (by simp) (by omega) (by show ¬ ((1 : Nat) : Int) + (1 + (F : Int) * 10) ≤ sz; omega), ob3_some, if_neg (by decide)]
theorem park_new {sz a : Int} {w : Bool} {N : Nat} (h1 : 1 ≤ N) (h2 : N ≤ 64) (hs : sz ≤ 1000000000) (hs0 : 0 ≤ sz) {c : List Int} (hc : c.length ≤ 100000) {l : List T_api_Access} (hl : l.length ≤ 100000) :
    ((c.length + 2 + N : Int) ≤ sz → park_New_iface (ar sz c l a w) (N : Int) = some (⟨(c.length : Nat), N⟩, 0, ar sz (c ++ List.replicate (2 + N) 0) (wl w l [⟨a, 4, (c.length : Nat), 2 + (N : Int), 0, true⟩]) a w)) ∧
    (¬ (c.length + 2 + N : Int) ≤ sz → park_New_iface (ar sz c l a w) (N : Int) = some (⟨0, 0⟩, 22, ar sz c l a w)) := by
  unfold park_New_iface park_Cells
  rw [if_neg (show ¬ (N : Int) < 1 by omega), if_neg (show ¬ (N : Int) > 64 by omega), wi_in (x := 2 + (N : Int)) (by omega), ob1_some, if_neg (show ¬ 2 + (N : Int) = 0 by omega), ob1_some]
  refine ⟨fun hf => ?_, fun hf => ?_⟩
  · rw [res_ok (by omega) (by omega) (by omega) (by omega), ob3_some, if_pos rfl, show (2 + (N : Int)).toNat = 2 + N by omega]
  · rw [res_no (by omega) hs0 (by omega) (by omega) (by omega), ob3_some, if_neg (by decide)]
/-- the accesses of New, and what it leaves -/
theorem lay_ok {sz a : Int} {w : Bool} {N F W : Nat} {lim : T_api_Limits} (hl : Lim lim.Frames lim.First lim.Most) (hF : lim.Frames = F) (hN1 : 1 ≤ N) (hN : N ≤ 64) (hW : (W : Int) = 4 + lim.First) (hs : sz ≤ 1000000000) (hs0 : 0 ≤ sz) (hK : 5000 < K) {p0 : T_worker_World} (hp : p0.deques = []) :
    (((4 + 10 * F + N + N * W : Nat) : Int) ≤ sz → ∃ c, worker_World_lay K p0 (ar sz [] [] a w) (N : Int) lim = some (0, ⟨p0.code, 0, 1, F, 2 + 10 * (F : Int), N, dqs (4 + 10 * F + N) W lim.Most 0 N, p0.tasks, p0.workers, p0.value, p0.left⟩, ar sz c (wl w [] (laidL a N F lim.First)) a w) ∧ cutL sz (laidL a N F lim.First) = laidL a N F lim.First ∧ Laid0 N F W lim.First c) ∧
    (¬ ((4 + 10 * F + N + N * W : Nat) : Int) ≤ sz → ∃ X c, worker_World_lay K p0 (ar sz [] [] a w) (N : Int) lim = some (22, X, ar sz c (wl w [] (cutL sz (laidL a N F lim.First))) a w)) := by
  have f1 := hl.f1
  have f2 := hl.f2
  have h1 := hl.a1
  have h2 := hl.a2
  have h3 := hl.m2
  have hNW : N * W ≤ 64 * 4100 := Nat.mul_le_mul hN (by omega)
  unfold worker_World_lay
  rw [hF]
  by_cases s1 : ¬ (1 : Int) ≤ sz
  · rw [res_no (c := []) (by omega) hs0 (by simp) (by omega) (by show ¬ ((0 : Nat) : Int) + 1 ≤ sz; omega), ob3_some, if_neg (by decide)]
    refine ⟨fun h => by exfalso; omega, fun _ => ?_⟩
    have : wl w [] (cutL sz (laidL a N F lim.First)) = [] := by
      rw [laidL, List.cons_append, List.cons_append, cutL, if_pos ⟨rfl, by show (0 : Int) + 1 > sz; omega⟩, wl_nil]
    rw [this]; exact ⟨_, [], rfl⟩
  have s1 := Decidable.not_not.1 s1
  rw [res_ok (c := []) (by simp) (by omega) (by omega) (by show ((0 : Nat) : Int) + 1 ≤ sz; omega), ob3_some, if_pos rfl]
  have k0 := wl_len w [] [(⟨a, 4, (([] : List Int).length : Nat), 1, 0, true⟩ : T_api_Access)]
  simp only [List.length_singleton, List.length_nil] at k0
  obtain ⟨fr1, fr2⟩ := frames_new (K := K) (sz := sz) (a := a) (w := w) (F := F) (by omega) (by omega) hs hs0 hK (l := wl w [] [(⟨a, 4, (([] : List Int).length : Nat), 1, 0, true⟩ : T_api_Access)]) (by simp only [List.length_nil]; omega)
  have hc1 : cutL sz (laidL a N F lim.First) = ⟨a, 4, 0, 1, 0, true⟩ :: cutL sz (⟨a, 4, 1, 1 + 10 * (F : Int), 0, true⟩ :: stF a 0 F ++ (⟨a, 4, 2 + 10 * (F : Int), 2 + (N : Int), 0, true⟩ :: dqL a lim.First (4 + 10 * F + N : Nat) N ++ [⟨a, 3, 1, 1, 1, true⟩])) := by
    rw [laidL, List.cons_append, List.cons_append, cutL, if_neg (fun h => absurd h.2 (by show ¬ (0 : Int) + 1 > sz; omega))]; rfl
  have e0 : ar sz ([] ++ List.replicate (1 : Int).toNat 0) (wl w [] [(⟨a, 4, (([] : List Int).length : Nat), 1, 0, true⟩ : T_api_Access)]) a w = ar sz [0] (wl w [] [(⟨a, 4, (([] : List Int).length : Nat), 1, 0, true⟩ : T_api_Access)]) a w := rfl
  rw [e0]
  by_cases s2 : ¬ (2 + 10 * F : Int) ≤ sz
  · rw [fr2 s2, ob3_some, if_neg (by decide)]
    refine ⟨fun h => by exfalso; omega, fun _ => ?_⟩
    rw [hc1, List.cons_append, cutL, if_pos ⟨rfl, by show (1 : Int) + (1 + 10 * (F : Int)) > sz; omega⟩]
    exact ⟨_, _, rfl⟩
  have s2 := Decidable.not_not.1 s2
  obtain ⟨c1, q1, q2, q3, q4⟩ := fr1 s2
  rw [q1, ob3_some, if_pos rfl]
  have hc2 : cutL sz (laidL a N F lim.First) = ⟨a, 4, 0, 1, 0, true⟩ :: ⟨a, 4, 1, 1 + 10 * (F : Int), 0, true⟩ :: (stF a 0 F ++ cutL sz (⟨a, 4, 2 + 10 * (F : Int), 2 + (N : Int), 0, true⟩ :: dqL a lim.First (4 + 10 * F + N : Nat) N ++ [⟨a, 3, 1, 1, 1, true⟩])) := by
    rw [hc1, List.cons_append, cutL, if_neg (fun h => absurd h.2 (by show ¬ (1 : Int) + (1 + 10 * (F : Int)) > sz; omega)), cutL_stores _ _ (stF_kind F 0)]
  have kf : (⟨a, 4, 1, 1 + 10 * (F : Int), 0, true⟩ :: stF a 0 F : List T_api_Access).length = F + 1 := by rw [List.length_cons, stF_len]
  have k1 := wl_len w (wl w [] [(⟨a, 4, (([] : List Int).length : Nat), 1, 0, true⟩ : T_api_Access)]) (⟨a, 4, 1, 1 + 10 * (F : Int), 0, true⟩ :: stF a 0 F)
  rw [kf] at k1
  obtain ⟨pk1, pk2⟩ := park_new (sz := sz) (a := a) (w := w) (N := N) hN1 hN hs hs0 (c := c1) (by omega) (l := wl w (wl w [] [(⟨a, 4, (([] : List Int).length : Nat), 1, 0, true⟩ : T_api_Access)]) (⟨a, 4, 1, 1 + 10 * (F : Int), 0, true⟩ :: stF a 0 F)) (by simp only [List.length_nil]; simp only [List.length_nil] at k1; omega)
  by_cases s3 : ¬ (c1.length + 2 + N : Int) ≤ sz
  · rw [pk2 s3, ob3_some, if_neg (by decide)]
    refine ⟨fun h => by exfalso; omega, fun _ => ?_⟩
    rw [hc2, List.cons_append, cutL, if_pos ⟨rfl, by show 2 + 10 * (F : Int) + (2 + (N : Int)) > sz; omega⟩, List.append_nil]
    rw [wl_wl]; exact ⟨_, c1, rfl⟩
  have s3 := Decidable.not_not.1 s3
  rw [pk1 s3, ob3_some, if_pos rfl, hp, wl_wl, wl_wl]
  have hcl : (c1 ++ List.replicate (2 + N) 0).length = 4 + 10 * F + N := by rw [List.length_append, List.length_replicate]; omega
  have kl : ∀ X : List T_api_Access, X.length ≤ 100000 → (wl w [] X).length ≤ 100000 := fun X hX => Nat.le_trans (wl_len w [] X) (by simpa using hX)
  obtain ⟨d1, d2⟩ := dq_l (K := K) hl hs hs0 hN (B := 4 + 10 * F + N) (by omega) hW (p0 := p0) (r14 := ((([] : List Int).length : Nat) : Int)) (r23 := ⟨1, F⟩) (r32 := ⟨(c1.length : Nat), N⟩) (a := a) (w := w) N K 0 (c1 ++ List.replicate (2 + N) 0)
    (wl w [] ([(⟨a, 4, (([] : List Int).length : Nat), 1, 0, true⟩ : T_api_Access)] ++ (⟨a, 4, 1, 1 + 10 * (F : Int), 0, true⟩ :: stF a 0 F ++ [⟨a, 4, (c1.length : Nat), 2 + (N : Int), 0, true⟩]))) [] (by omega) (by omega) (by rw [hcl]; omega) rfl (by
      have := kl ([(⟨a, 4, (([] : List Int).length : Nat), 1, 0, true⟩ : T_api_Access)] ++ (⟨a, 4, 1, 1 + 10 * (F : Int), 0, true⟩ :: stF a 0 F ++ [⟨a, 4, (c1.length : Nat), 2 + (N : Int), 0, true⟩])) (by rw [List.length_append, List.length_append, kf]; simp; omega)
      omega)
  rw [hcl] at d1 d2
  rw [Int.ofNat_zero] at d1 d2
  have hc3 : cutL sz (laidL a N F lim.First) = ⟨a, 4, 0, 1, 0, true⟩ :: ⟨a, 4, 1, 1 + 10 * (F : Int), 0, true⟩ :: (stF a 0 F ++ (⟨a, 4, 2 + 10 * (F : Int), 2 + (N : Int), 0, true⟩ :: cutL sz (dqL a lim.First (4 + 10 * F + N : Nat) N ++ [⟨a, 3, 1, 1, 1, true⟩]))) := by
    rw [hc2, List.cons_append, cutL, if_neg (fun h => absurd h.2 (by show ¬ 2 + 10 * (F : Int) + (2 + (N : Int)) > sz; omega))]
  by_cases s4 : ¬ ((4 + 10 * F + N + N * W : Nat) : Int) ≤ sz
  · refine ⟨fun h => absurd h s4, fun _ => ?_⟩
    obtain ⟨X, c', ⟨r1, r2⟩ | r1⟩ := d2 s4
    · rw [r1, jn2_inr, wl_wl, hc3, r2]
      refine ⟨X, c', ?_⟩
      congr 5
      rw [q2]
      simp only [List.cons_append, List.nil_append, List.append_assoc, List.length_nil]
      rw [show ((2 + 10 * F : Nat) : Int) = 2 + 10 * (F : Int) by omega]; rfl
    · exfalso; omega
  have s4 := Decidable.not_not.1 s4
  refine ⟨fun _ => ?_, fun h => absurd s4 h⟩
  obtain ⟨c', r1, r0, r2, r3, r4⟩ := d1 s4
  have b0 : at_ c' 1 = 0 := by
    rw [r3 1 (by omega), at_append_left (by omega), q4 1 (by omega) (fun f _ => by omega)]
  have kk : ∀ X : List T_api_Access, X.length ≤ 100000 → (wl w [] X).length ≤ 100000 := fun X hX => Nat.le_trans (wl_len w [] X) (by simpa using hX)
  have kd := dqL_len (a := a) (first := lim.First) N (4 + 10 * F + N : Nat)
  have ea : ∀ l : List T_api_Access, l.length ≤ 100000 → (ob1 (frames_Alloc (⟨1, F⟩ : T_frames_Table)) fun r75 => ob2 (frames_Step_iface (ar sz c' l a w) r75) fun r77 S78 => ob2 (frames_Answer r77) fun r84 r85 => some (r84, S78)) = some (4, ar sz (c'.set 1 1) (wl w l [⟨a, 3, 1, 1, 1, true⟩]) a w) := fun l hl => by
    unfold frames_Alloc frames_begin frames_Table__has
    simp only [if_pos (show (1 : Int) ≥ 0 by decide), if_pos (show (F : Int) ≥ 1 by omega), if_pos (show (F : Int) ≤ 4096 by omega), if_pos (show (0 : Int) ≥ 0 by decide), decide_eq_true (show (0 : Int) < F by omega), ob1_some, if_true, if_neg (show ¬ (0 : Int) < 0 by decide), if_neg (show ¬ (0 : Int) ≥ 8 by decide)]
    unfold frames_Step_iface frames_Op_alloc_iface frames_Table__next
    dsimp only
    rw [if_neg (by decide), if_pos rfl, ob1_some, add_ok (by omega) (by decide) (by omega), ob3_some, if_pos rfl]
    rw [show (1 : Int).toNat = 1 from rfl, b0, show wi ((0 : Int) + 1) = 1 from rfl, if_pos (by decide), decide_eq_true (show (1 : Int) ≤ (F : Int) by omega), ob1_some, if_pos rfl]
    rfl
  have ea2 : ∀ (l : List T_api_Access), l.length ≤ 100000 → ∀ (f : Int → T_cells_Arena → Option (Int × T_worker_World × T_cells_Arena)), (ob1 (frames_Alloc (⟨1, F⟩ : T_frames_Table)) fun r75 => ob2 (frames_Step_iface (ar sz c' l a w) r75) fun r77 S78 => ob2 (frames_Answer r77) fun r84 r85 => f r84 S78) = f 4 (ar sz (c'.set 1 1) (wl w l [⟨a, 3, 1, 1, 1, true⟩]) a w) := fun l hl f => by
    have h := ea l hl
    cases e1 : frames_Alloc (⟨1, F⟩ : T_frames_Table) with
    | none => rw [e1] at h; simp [ob1] at h
    | some x =>
      rw [e1, ob1_some] at h; rw [ob1_some]
      cases e2 : frames_Step_iface (ar sz c' l a w) x with
      | none => rw [e2] at h; simp [ob2] at h
      | some y =>
        obtain ⟨y1, y2⟩ := y
        rw [e2, ob2_some] at h; rw [ob2_some]
        cases e3 : frames_Answer y1 with
        | none => rw [e3] at h; simp [ob2] at h
        | some u =>
          obtain ⟨u1, u2⟩ := u
          rw [e3, ob2_some] at h; rw [ob2_some]
          have := Prod.mk.inj (Option.some.inj h)
          rw [this.1, this.2]
  have hlen : ∀ X : List T_api_Access, X.length ≤ 100000 → (wl w (wl w [] X) (dqL a lim.First (4 + 10 * F + N : Nat) N)).length ≤ 200000 := fun X hX => by
    have := wl_len w (wl w [] X) (dqL a lim.First (4 + 10 * F + N : Nat) N)
    have := kk X hX
    omega
  rw [r1, jn2_inl, wl_wl, ea2 _ (kk _ (by rw [List.length_append, List.length_append, List.length_append, kf, kd]; simp; omega)) (fun r84 S78 => if r84 = 4 then some (0, _, S78) else some (22, _, S78)), if_pos rfl]
  have hlog : cutL sz (laidL a N F lim.First) = laidL a N F lim.First := by
    rw [hc3]
    rw [cutL_app _ _ r0, show cutL sz [(⟨a, 3, 1, 1, 1, true⟩ : T_api_Access)] = [⟨a, 3, 1, 1, 1, true⟩] by rw [cutL, if_neg (fun h => absurd h.1 (by show ¬ (3 : Int) = 4; decide)), cutL], laidL]
    simp only [List.cons_append, List.nil_append, List.append_assoc]
  refine ⟨c'.set 1 1, ?_, hlog, ?_⟩
  · rw [wl_wl, q2]
    refine congrArg some (Prod.ext rfl (Prod.ext ?_ ?_))
    · simp only [List.nil_append, List.length_nil]
      rw [show ((2 + 10 * F : Nat) : Int) = 2 + 10 * (F : Int) by omega]; rfl
    · have : (([(⟨a, 4, (([] : List Int).length : Nat), 1, 0, true⟩ : T_api_Access)] ++ (⟨a, 4, 1, 1 + 10 * (F : Int), 0, true⟩ :: stF a 0 F ++ [⟨a, 4, ((2 + 10 * F : Nat) : Int), 2 + (N : Int), 0, true⟩])) ++ dqL a lim.First (4 + 10 * F + N : Nat) N) ++ [⟨a, 3, 1, 1, 1, true⟩] = laidL a N F lim.First := by
        rw [laidL, show ((2 + 10 * F : Nat) : Int) = 2 + 10 * (F : Int) by omega]
        simp only [List.cons_append, List.nil_append, List.append_assoc, List.length_nil]; rfl
      rw [this]
  · have hl2 : (c'.set 1 (1 : Int)).length = c'.length := List.length_set
    refine ⟨by rw [hl2, r2], ?_, ?_, fun f hf r hr => ?_, fun r hr => ?_, fun i hi r hr => ?_⟩
    · rw [atset (by omega), if_neg (by decide), r3 0 (by omega), at_append_left (by omega), q4 0 (by omega) (fun f _ => by omega)]
    · rw [atset (by omega), if_pos rfl]
    · rw [atset (by omega), if_neg (by omega), r3 _ (by omega), at_append_left (by omega)]
      by_cases e : r = 0
      · subst e; rw [if_pos rfl]; exact q3 f hf
      · rw [if_neg e, q4 _ (by omega) (fun g _ => by omega)]
    · rw [atset (by omega), if_neg (by omega), r3 _ (by omega), at_append_right (by omega), at_reps (by omega)]
    · have := Nat.mul_le_mul_right W (show i + 1 ≤ N by omega)
      rw [Nat.succ_mul] at this
      rw [atset (by omega), if_neg (by omega)]
      exact r4 i (Nat.zero_le _) hi r hr
end
end Go.Proofs.YtpikpffbcjpmcaaGreatDoor.Mo
