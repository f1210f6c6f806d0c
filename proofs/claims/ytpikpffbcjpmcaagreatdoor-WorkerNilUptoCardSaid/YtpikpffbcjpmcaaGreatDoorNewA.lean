/- A world at its beginning: what the program and the document lay, and what is told of it. No memory is spoken of. -/
import Derived.Test.YtpikpffbcjpmcaaGreatDoorChkE
import Derived.Test.YtpikpffbcjpmcaaGreatDoorWo4
namespace Go.Proofs.YtpikpffbcjpmcaaGreatDoor.Mo
open Go Go.Proofs.YtpikpffbcjpmcaaGreatDoor.SL Go.Proofs.YtpikpffbcjpmcaaGreatDoor.GX
set_option linter.unusedVariables false
set_option linter.unusedSimpArgs false
section
variable {K : Nat}
/-! ### an arena -/
abbrev ar (sz : Int) (c : List Int) (l : List T_api_Access) (a : Int) (w : Bool) : T_cells_Arena := ⟨sz, (c.length : Nat), c, l, a, w⟩
def wl (w : Bool) (l xs : List T_api_Access) : List T_api_Access := if w then l ++ xs else l
theorem wl_wl (w : Bool) (l xs ys : List T_api_Access) : wl w (wl w l xs) ys = wl w l (xs ++ ys) := by cases w <;> simp [wl]
theorem wl_nil (w : Bool) (l : List T_api_Access) : wl w l [] = l := by cases w <;> simp [wl]
theorem wl_len (w : Bool) (l xs : List T_api_Access) : (wl w l xs).length ≤ l.length + xs.length := by cases w <;> simp [wl]
theorem note_ok {sz : Int} {m : Int} {c : List Int} {l : List T_api_Access} {a : Int} {w : Bool} (hl : l.length ≤ 2000000000) (k d x y : Int) (ok : Bool) :
    cells_Arena_note ⟨sz, m, c, l, a, w⟩ k d x y ok = some ⟨sz, m, c, wl w l [⟨a, k, d, x, y, ok⟩], a, w⟩ := by
  unfold cells_Arena_note wl
  cases w
  · rfl
  · rw [if_pos rfl, if_pos (by show (l.length + 1) * 48 ≤ _; omega)]; rfl
theorem res_ok {sz : Int} {c : List Int} {l : List T_api_Access} {a : Int} {w : Bool} (hl : l.length ≤ 2000000000) (hs : sz ≤ 2000000000) {n : Int} (h1 : 1 ≤ n) (hn : (c.length : Int) + n ≤ sz) :
    cells_Arena_Reserve (ar sz c l a w) n = some (((c.length : Nat) : Int), 0, ar sz (c ++ List.replicate n.toNat 0) (wl w l [⟨a, 4, (c.length : Nat), n, 0, true⟩]) a w) := by
  unfold cells_Arena_Reserve cells_ledger_refuse cells_ledger_take
  rw [ob0_some, if_neg (by omega), wi_in (by show -9223372036854775808 ≤ sz - (c.length : Nat) ∧ sz - (c.length : Nat) ≤ 9223372036854775807; omega), if_neg (by show ¬ n > sz - (c.length : Nat); omega), ob1_some, if_pos rfl, ob2_some,
    if_pos ⟨by omega, by show (c.length + n.toNat) * 8 ≤ _; omega⟩, note_ok hl, ob1_some, wi_in (by show -9223372036854775808 ≤ ((c.length : Nat) : Int) + n ∧ ((c.length : Nat) : Int) + n ≤ 9223372036854775807; omega)]
  simp only [ar, List.length_append, List.length_replicate]
  rw [show ((c.length + n.toNat : Nat) : Int) = ((c.length : Nat) : Int) + n by omega]
theorem res_no {sz : Int} {c : List Int} {l : List T_api_Access} {a : Int} {w : Bool} (hs : sz ≤ 2000000000) (hs0 : 0 ≤ sz) (hc : c.length ≤ 2000000000) {n : Int} (h1 : 1 ≤ n) (hn : ¬ (c.length : Int) + n ≤ sz) :
    cells_Arena_Reserve (ar sz c l a w) n = some (0, 22, ar sz c l a w) := by
  unfold cells_Arena_Reserve cells_ledger_refuse
  rw [ob0_some, if_neg (by omega), wi_in (by show -9223372036854775808 ≤ sz - (c.length : Nat) ∧ sz - (c.length : Nat) ≤ 9223372036854775807; omega), if_pos (by show n > sz - (c.length : Nat); omega), ob1_some, if_neg (by decide)]
theorem out_no {sz : Int} {c : List Int} {l : List T_api_Access} {a : Int} {w : Bool} {d : Int} (h0 : 0 ≤ d) (h1 : d < (c.length : Nat)) : cells_Arena_outside (ar sz c l a w) d = some false := by
  unfold cells_Arena_outside cells_ledger_has
  rw [if_pos h0, ob1_some]; simp [h1]
theorem sto_ok {sz : Int} {c : List Int} {l : List T_api_Access} {a : Int} {w : Bool} (hl : l.length ≤ 2000000000) {d v : Int} (h0 : 0 ≤ d) (h1 : d < (c.length : Nat)) :
    cells_Arena_Store (ar sz c l a w) d v = some (0, ar sz (c.set d.toNat v) (wl w l [⟨a, 1, d, v, 0, true⟩]) a w) := by
  unfold cells_Arena_Store
  rw [out_no h0 h1, ob1_some, if_neg (by decide), if_pos ⟨h0, h1⟩, note_ok hl, ob1_some]
  simp only [ar, List.length_set]
theorem load_ok {sz : Int} {c : List Int} {l : List T_api_Access} {a : Int} {w : Bool} (hl : l.length ≤ 2000000000) {d : Int} (h0 : 0 ≤ d) (h1 : d < (c.length : Nat)) :
    cells_Arena_Load (ar sz c l a w) d = some (at_ c d.toNat, 0, ar sz c (wl w l [⟨a, 0, d, at_ c d.toNat, 0, true⟩]) a w) := by
  unfold cells_Arena_Load
  rw [out_no h0 h1, ob1_some, if_neg (by decide), if_pos ⟨h0, h1⟩, note_ok hl, ob1_some]
theorem add_ok {sz : Int} {c : List Int} {l : List T_api_Access} {a : Int} {w : Bool} (hl : l.length ≤ 2000000000) {d v : Int} (h0 : 0 ≤ d) (h1 : d < (c.length : Nat)) :
    cells_Arena_Add (ar sz c l a w) d v = some (wi (at_ c d.toNat + v), 0, ar sz (c.set d.toNat (wi (at_ c d.toNat + v))) (wl w l [⟨a, 3, d, v, wi (at_ c d.toNat + v), true⟩]) a w) := by
  unfold cells_Arena_Add
  have h2 : d.toNat < c.length := by omega
  rw [out_no h0 h1, ob1_some, if_neg (by decide), if_pos ⟨h0, h1⟩, if_pos ⟨h0, by rw [List.length_set]; exact h1⟩, note_ok hl, ob1_some, if_pos ⟨h0, by show d < (((c.set d.toNat _).length : Nat) : Int); rw [List.length_set]; exact h1⟩]
  simp only [ar, List.length_set]
  rw [at_set_same h2]
/-! ### the lists of accesses -/
def cutL (sz : Int) : List T_api_Access → List T_api_Access
  | [] => []
  | x :: xs => if x.Kind = 4 ∧ x.Addr + x.A > sz then [] else x :: cutL sz xs
theorem cutL_stores {sz : Int} : ∀ (xs ys : List T_api_Access), (∀ x ∈ xs, x.Kind ≠ 4) → cutL sz (xs ++ ys) = xs ++ cutL sz ys
  | [], ys, _ => rfl
  | x :: xs, ys, h => by
    rw [List.cons_append, cutL, if_neg (fun e => h x (by simp) e.1), cutL_stores xs ys (fun y hy => h y (List.mem_cons_of_mem _ hy))]; rfl
theorem cutL_app {sz : Int} : ∀ (xs ys : List T_api_Access), cutL sz xs = xs → cutL sz (xs ++ ys) = xs ++ cutL sz ys
  | [], ys, _ => rfl
  | x :: xs, ys, h => by
    rw [cutL] at h
    by_cases e : x.Kind = 4 ∧ x.Addr + x.A > sz
    · rw [if_pos e] at h; exact absurd h (by simp)
    · rw [if_neg e] at h
      rw [List.cons_append, cutL, if_neg e, cutL_app xs ys (List.cons.inj h).2]; rfl
theorem cutL_len {sz : Int} : ∀ (xs : List T_api_Access), (cutL sz xs).length ≤ xs.length
  | [] => by simp [cutL]
  | x :: xs => by
    rw [cutL]; split
    · simp
    · have := cutL_len (sz := sz) xs; simp; omega
/-- the stores of a table's frames -/
def stF (a : Int) (i : Nat) : Nat → List T_api_Access
  | 0 => []
  | d + 1 => ⟨a, 1, 2 + 10 * (i : Int), 1, 0, true⟩ :: stF a (i + 1) d
theorem stF_kind {a : Int} : ∀ (d i : Nat), ∀ x ∈ stF a i d, x.Kind ≠ 4
  | 0, i, x, h => by simp [stF] at h
  | d + 1, i, x, h => by
    rcases List.mem_cons.1 h with rfl | h
    · show (1 : Int) ≠ 4; decide
    · exact stF_kind d (i + 1) x h
theorem stF_len {a : Int} : ∀ (d i : Nat), (stF a i d).length = d
  | 0, i => rfl
  | d + 1, i => by rw [stF, List.length_cons, stF_len d (i + 1)]
/-- the accesses that lay the deques from at on -/
def dqL (a first : Int) : Int → Nat → List T_api_Access
  | _, 0 => []
  | at_, d + 1 => ⟨a, 4, at_, 4 + first, 0, true⟩ :: ⟨a, 1, at_ + 2, at_ + 3, 0, true⟩ :: ⟨a, 1, at_ + 3, first, 0, true⟩ :: dqL a first (at_ + (4 + first)) d
theorem dqL_len {a first : Int} : ∀ (d : Nat) (at_ : Int), (dqL a first at_ d).length = 3 * d
  | 0, _ => rfl
  | d + 1, _ => by rw [dqL, List.length_cons, List.length_cons, List.length_cons, dqL_len d]; omega
/-! ### what is asked of the numbers -/
structure Lim (F first most : Int) : Prop where
  f1 : 1 ≤ F
  f2 : F ≤ 4096
  a1 : 1 ≤ first
  a2 : first ≤ most
  m2 : most ≤ 4096
theorem refuse_ok (p : T_api_Program) (args : List Int) (n : Int) (l : T_api_Limits) (hK : 3000 < K) : ∃ e : Int, plunderref11_Refused K p args n l = some e ∧ worker_refuse K p args n l = some e ∧ (e = 0 ∨ e = 110 ∨ e = 111 ∨ e = 60 ∨ e = 61) ∧ (e = 0 → Valid p ∧ (args.length : Int) = (at_ p.Funcs 0).Params ∧ 1 ≤ n ∧ n ≤ 64 ∧ Lim l.Frames l.First l.Most) := by
  obtain ⟨x, e1, e2, e3⟩ := check_ok (K := K) p hK
  unfold plunderref11_Refused worker_refuse
  rw [e1, e2, ob1_some, ob1_some]
  by_cases hx : x.Err = 0
  · have hv := e3 hx
    have := hv.n1
    have hi : inr_ (0 : Int) p.Funcs.length := ⟨by decide, by omega⟩
    rw [if_pos hx, if_pos hx, if_pos hi, if_pos hi]
    by_cases ha : ((args.length : Nat) : Int) = (at_ p.Funcs 0).Params
    · rw [if_pos ha, if_pos ha]
      unfold worker_counted plunderref11_badLimits worker_limited
      by_cases h1 : n < 1
      · rw [if_pos h1, if_neg (show ¬ n ≥ 1 by omega)]; exact ⟨110, rfl, rfl, by simp, fun h => absurd h (by decide)⟩
      · rw [if_neg h1, if_pos (show n ≥ 1 by omega)]
        by_cases h2 : n > 64
        · rw [if_pos h2, decide_eq_false (show ¬ n ≤ 64 by omega)]; exact ⟨110, rfl, rfl, by simp, fun h => absurd h (by decide)⟩
        · rw [if_neg h2, decide_eq_true (show n ≤ 64 by omega), ob1_some, if_pos rfl]
          by_cases g1 : l.Frames < 1
          · rw [if_pos g1, if_neg (show ¬ l.Frames ≥ 1 by omega)]; exact ⟨111, rfl, rfl, by simp, fun h => absurd h (by decide)⟩
          rw [if_neg g1, if_pos (show l.Frames ≥ 1 by omega)]
          by_cases g2 : l.Frames > 4096
          · rw [if_pos g2, if_neg (show ¬ l.Frames ≤ 4096 by omega)]; exact ⟨111, rfl, rfl, by simp, fun h => absurd h (by decide)⟩
          rw [if_neg g2, if_pos (show l.Frames ≤ 4096 by omega)]
          by_cases g3 : l.First < 1
          · rw [if_pos g3, if_neg (show ¬ (1 : Int) ≤ l.First by omega)]; exact ⟨111, rfl, rfl, by simp, fun h => absurd h (by decide)⟩
          rw [if_neg g3, if_pos (show (1 : Int) ≤ l.First by omega)]
          by_cases g4 : l.First > l.Most
          · rw [if_pos g4, if_neg (show ¬ l.First ≤ l.Most by omega)]; exact ⟨111, rfl, rfl, by simp, fun h => absurd h (by decide)⟩
          rw [if_neg g4, if_pos (show l.First ≤ l.Most by omega)]
          by_cases g5 : l.Most > 4096
          · rw [decide_eq_true g5, decide_eq_false (show ¬ l.Most ≤ 4096 by omega)]; exact ⟨111, rfl, rfl, by simp, fun h => absurd h (by decide)⟩
          · rw [decide_eq_false g5, decide_eq_true (show l.Most ≤ 4096 by omega)]
            exact ⟨0, rfl, rfl, .inl rfl, fun _ => ⟨hv, ha, by omega, by omega, ⟨by omega, by omega, by omega, by omega, by omega⟩⟩⟩
    · rw [if_neg ha, if_neg ha]; exact ⟨61, rfl, rfl, by simp, fun h => absurd h (by decide)⟩
  · rw [if_neg hx, if_neg hx]; exact ⟨60, rfl, rfl, by simp, fun h => absurd h (by decide)⟩
/-! ### the cells -/
structure Laid0 (N F W : Nat) (first : Int) (c : List Int) : Prop where
  len : c.length = 4 + 10 * F + N + N * W
  c0 : at_ c 0 = 0
  c1 : at_ c 1 = 1
  fr : ∀ f, f < F → ∀ r, r < 10 → at_ c (2 + 10 * f + r) = if r = 0 then 1 else 0
  lot : ∀ r, r < 2 + N → at_ c (2 + 10 * F + r) = 0
  dq : ∀ i, i < N → ∀ r, r < W → at_ c (4 + 10 * F + N + i * W + r) = if r = 2 then ((4 + 10 * F + N + i * W + 3 : Nat) : Int) else if r = 3 then first else 0
theorem at_ext {x y : List Int} (hl : x.length = y.length) (he : ∀ i, i < x.length → at_ x i = at_ y i) : x = y := by
  refine List.ext_getElem hl fun i h1 h2 => ?_
  have := he i h1
  unfold at_ at this
  rw [List.getD_eq_getElem?_getD, List.getD_eq_getElem?_getD, List.getElem?_eq_getElem h1, List.getElem?_eq_getElem h2] at this
  exact this
theorem Laid0.eq {N F W : Nat} (hW : 0 < W) {first : Int} {c c' : List Int} (h : Laid0 N F W first c) (h' : Laid0 N F W first c') : c = c' := by
  refine at_ext (by rw [h.len, h'.len]) fun x hx => ?_
  rw [h.len] at hx
  by_cases e0 : x = 0
  · subst e0; rw [h.c0, h'.c0]
  by_cases e1 : x = 1
  · subst e1; rw [h.c1, h'.c1]
  by_cases e2 : x < 2 + 10 * F
  · rw [show x = 2 + 10 * ((x - 2) / 10) + (x - 2) % 10 by omega, h.fr _ (by omega) _ (by omega), h'.fr _ (by omega) _ (by omega)]
  by_cases e3 : x < 4 + 10 * F + N
  · rw [show x = 2 + 10 * F + (x - (2 + 10 * F)) by omega, h.lot _ (by omega), h'.lot _ (by omega)]
  have hd := Nat.div_add_mod (x - (4 + 10 * F + N)) W
  have hm := Nat.mod_lt (x - (4 + 10 * F + N)) hW
  have hi : (x - (4 + 10 * F + N)) / W < N := by rw [Nat.div_lt_iff_lt_mul hW]; omega
  rw [Nat.mul_comm] at hd
  rw [show x = 4 + 10 * F + N + (x - (4 + 10 * F + N)) / W * W + (x - (4 + 10 * F + N)) % W by omega, h.dq _ hi _ hm, h'.dq _ hi _ hm]
theorem blk_ne {W i j r q : Nat} (hr : r < W) (hq : q < W) (h : i ≠ j) : i * W + r ≠ j * W + q := by
  intro e
  rcases Nat.lt_or_gt_of_ne h with h | h
  · have := Nat.mul_le_mul_right W (show i + 1 ≤ j by omega); rw [Nat.succ_mul] at this; omega
  · have := Nat.mul_le_mul_right W (show j + 1 ≤ i by omega); rw [Nat.succ_mul] at this; omega
end
end Go.Proofs.YtpikpffbcjpmcaaGreatDoor.Mo
