/- Areas that are reserved one behind the other, of both kinds of cells: what the walk's plain functions answer. No memory is spoken of. Printed by mkfresh.py. -/
import Derived.Test.YtacgigkonoegiaaCf1
namespace Go.Proofs.Ytacgigkonoegiaa.Mo
open Go Go.Proofs.Ytacgigkonoegiaa.SL Go.Proofs.Ytacgigkonoegiaa.GX
set_option linter.unusedVariables false
set_option linter.unusedSimpArgs false
theorem at_rep {α : Type} [Inhabited α] {n i : Nat} {x : α} (h : i < n) : at_ (List.replicate n x) i = x := by
  unfold at_; rw [List.getD_eq_getElem?_getD, List.getElem?_replicate, if_pos h]; rfl
theorem at_appl {α : Type} [Inhabited α] {l m : List α} {q : Nat} (h : q < l.length) : at_ (l ++ m) q = at_ l q := by
  unfold at_; rw [List.getD_eq_getElem?_getD, List.getD_eq_getElem?_getD, List.getElem?_append_left h]
theorem at_appr {α : Type} [Inhabited α] {l m : List α} {q : Nat} (h : l.length ≤ q) : at_ (l ++ m) q = at_ m (q - l.length) := by
  unfold at_; rw [List.getD_eq_getElem?_getD, List.getD_eq_getElem?_getD, List.getElem?_append_right h]
theorem mod_ok (x : Int) {m : Int} (hm : 0 < m) (hm2 : m ≤ 1048576) : ∃ r, plunderlaw2_mod x m = some r ∧ 0 ≤ r ∧ r < m := by
  unfold plunderlaw2_mod
  rw [if_pos (by omega)]
  have h1 := Int.tmod_lt_of_pos x hm
  have h2 : -m < x.tmod m := by
    have := Int.tmod_lt_of_pos (-x) hm
    rw [Int.neg_tmod] at this
    omega
  by_cases h : x.tmod m < 0
  · rw [if_pos h]
    exact ⟨_, rfl, by rw [wi_in (by omega)]; omega, by rw [wi_in (by omega)]; omega⟩
  · rw [if_neg h]
    exact ⟨_, rfl, by omega, h1⟩
/-- Shared cells: sz of them, g given, f of these hold their number, the others 0. -/
structure Sh (sz g f : Int) (S : T_cells_Shared) : Prop where
  size : S.ledger_size = sz
  mark : S.ledger_mark = g
  lock : S.lock_mu_state = 0
  given : S.given_v = g
  len : (S.cell.length : Int) = sz
  le : 0 ≤ f ∧ f ≤ g ∧ g ≤ sz ∧ sz ≤ 4096
  lo : ∀ i : Nat, (i : Int) < f → (at_ S.cell i).v = 7 + 3 * (i : Int)
  hi : ∀ i : Nat, f ≤ (i : Int) → (i : Int) < sz → (at_ S.cell i).v = 0
theorem sh_out {S : T_cells_Shared} {sz g f : Int} (h : Sh sz g f S) (i : Int) : cells_Shared_outside S i = some (!decide (0 ≤ i ∧ i < g)) := by
  unfold cells_Shared_outside
  by_cases h0 : i < 0
  · rw [if_pos h0, decide_eq_false (by omega)]; rfl
  · rw [if_neg h0, h.given]
    by_cases h1 : i ≥ g
    · rw [decide_eq_true h1, decide_eq_false (by omega)]; rfl
    · rw [decide_eq_false h1, decide_eq_true (by omega)]; rfl
theorem sh_load_in {S : T_cells_Shared} {sz g f : Int} (h : Sh sz g f S) {i : Int} (hi : 0 ≤ i ∧ i < g) : cells_Shared_Load S i = some ((at_ S.cell i.toNat).v, 0) := by
  have hl := h.len
  have hle := h.le
  unfold cells_Shared_Load
  rw [sh_out h, decide_eq_true hi, ob1_some, if_neg (by simp), if_pos ⟨hi.1, by omega⟩]
theorem sh_load_out {S : T_cells_Shared} {sz g f : Int} (h : Sh sz g f S) {i : Int} (hi : ¬ (0 ≤ i ∧ i < g)) : cells_Shared_Load S i = some (0, 20) := by
  unfold cells_Shared_Load
  rw [sh_out h, decide_eq_false hi, ob1_some, if_pos (by simp)]
theorem sh_store {S : T_cells_Shared} {sz g f : Int} (h : Sh sz g f S) (hf : f < g) : ∃ S', cells_Shared_Store S f (7 + 3 * f) = some (0, S') ∧ Sh sz g (f + 1) S' := by
  have hl := h.len
  have hle := h.le
  refine ⟨{ S with cell := S.cell.set f.toNat ⟨7 + 3 * f⟩ }, ?_, ⟨h.size, h.mark, h.lock, h.given, by show ((S.cell.set _ _).length : Int) = sz; rw [List.length_set]; exact hl, by omega, fun i hi => ?_, fun i h1 h2 => ?_⟩⟩
  · unfold cells_Shared_Store
    rw [sh_out h, decide_eq_true (by omega), ob1_some, if_neg (by simp), if_pos ⟨hle.1, by omega⟩]
  · show (at_ (S.cell.set f.toNat ⟨7 + 3 * f⟩) i).v = _
    by_cases e : i = f.toNat
    · subst e; rw [at_set_same (by omega)]; show 7 + 3 * f = _; omega
    · rw [at_set_ne (by omega)]; exact h.lo i (by omega)
  · show (at_ (S.cell.set f.toNat ⟨7 + 3 * f⟩) i).v = _
    rw [at_set_ne (by omega)]; exact h.hi i (by omega) h2
theorem sh_reserve {S : T_cells_Shared} {sz g : Int} (h : Sh sz g g S) (c : Int) : (c < 1 ∧ cells_Shared_Reserve S c = some (0, 21, S)) ∨ (¬ c < 1 ∧ c > sz - g ∧ cells_Shared_Reserve S c = some (0, 22, S)) ∨ (¬ c < 1 ∧ ¬ c > sz - g ∧ ∃ S', cells_Shared_Reserve S c = some (g, 0, S') ∧ Sh sz (g + c) g S') := by
  have hle := h.le
  have hS : ({ S with ledger_size := sz, ledger_mark := g, lock_mu_state := 0 } : T_cells_Shared) = S := by
    have h1 := h.size; have h2 := h.mark; have h3 := h.lock
    cases S; simp only at h1 h2 h3; rw [h1, h2, h3]
  unfold cells_Shared_Reserve cells_ledger_refuse cells_ledger_take
  rw [if_pos h.lock]
  simp only [h.size, h.mark]
  rw [wi_in (x := sz - g) (by omega)]
  by_cases h1 : c < 1
  · left; rw [if_pos h1, ob1_some, if_neg (by decide), hS]; exact ⟨h1, rfl⟩
  · right
    by_cases h2 : c > sz - g
    · left; rw [if_neg h1, if_pos h2, ob1_some, if_neg (by decide), hS]; exact ⟨h1, h2, rfl⟩
    · right
      refine ⟨h1, h2, { S with ledger_mark := g + c, lock_mu_state := 0, given_v := g + c }, ?_, ⟨h.size, rfl, rfl, rfl, h.len, by omega, h.lo, h.hi⟩⟩
      rw [if_neg h1, if_neg h2, ob1_some, if_pos rfl, ob2_some, wi_in (x := g + c) (by omega)]
      simp [h.size]
/-- An arena's cells: likewise. -/
structure Are (sz g f : Int) (S : T_cells_Arena) : Prop where
  size : S.ledger_size = sz
  mark : S.ledger_mark = g
  off : S.watched = false
  len : (S.cell.length : Int) = g
  le : 0 ≤ f ∧ f ≤ g ∧ g ≤ sz ∧ sz ≤ 4096
  lo : ∀ i : Nat, (i : Int) < f → at_ S.cell i = 7 + 3 * (i : Int)
  hi : ∀ i : Nat, f ≤ (i : Int) → (i : Int) < g → at_ S.cell i = 0
theorem ar_note {S : T_cells_Arena} (h : S.watched = false) (k i x y : Int) (ok : Bool) : cells_Arena_note S k i x y ok = some S := by
  unfold cells_Arena_note; rw [if_neg (by rw [h]; decide)]
theorem ar_noteS {s m a : Int} {c : List Int} {l : List T_api_Access} {o : Bool} (h : o = false) (k i x y : Int) (ok : Bool) : cells_Arena_note ⟨s, m, c, l, a, o⟩ k i x y ok = some ⟨s, m, c, l, a, o⟩ := ar_note h k i x y ok
theorem ar_out {S : T_cells_Arena} {sz g f : Int} (h : Are sz g f S) (i : Int) : cells_Arena_outside S i = some (!decide (0 ≤ i ∧ i < g)) := by
  unfold cells_Arena_outside cells_ledger_has
  by_cases h0 : i ≥ 0
  · rw [if_pos h0, h.mark, ob1_some]; congr 2; simp only [decide_eq_decide]; omega
  · rw [if_neg h0, ob1_some, decide_eq_false (by omega)]
theorem ar_load_in {S : T_cells_Arena} {sz g f : Int} (h : Are sz g f S) {i : Int} (hi : 0 ≤ i ∧ i < g) : cells_Arena_Load S i = some (at_ S.cell i.toNat, 0, S) := by
  have hl := h.len
  have hle := h.le
  unfold cells_Arena_Load
  rw [ar_out h, decide_eq_true hi, ob1_some, if_neg (by simp), if_pos ⟨hi.1, by omega⟩, ar_note h.off, ob1_some]
theorem ar_load_out {S : T_cells_Arena} {sz g f : Int} (h : Are sz g f S) {i : Int} (hi : ¬ (0 ≤ i ∧ i < g)) : cells_Arena_Load S i = some (0, 20, S) := by
  unfold cells_Arena_Load
  rw [ar_out h, decide_eq_false hi, ob1_some, if_pos (by simp)]
theorem ar_store {S : T_cells_Arena} {sz g f : Int} (h : Are sz g f S) (hf : f < g) : ∃ S', cells_Arena_Store S f (7 + 3 * f) = some (0, S') ∧ Are sz g (f + 1) S' := by
  have hl := h.len
  have hle := h.le
  refine ⟨{ S with cell := S.cell.set f.toNat (7 + 3 * f) }, ?_, ⟨h.size, h.mark, h.off, by show ((S.cell.set _ _).length : Int) = g; rw [List.length_set]; exact hl, by omega, fun i hi => ?_, fun i h1 h2 => ?_⟩⟩
  · unfold cells_Arena_Store
    rw [ar_out h, decide_eq_true (by omega), ob1_some, if_neg (by simp), if_pos ⟨hle.1, by omega⟩, ar_noteS h.off, ob1_some]
  · show at_ (S.cell.set f.toNat (7 + 3 * f)) i = _
    by_cases e : i = f.toNat
    · subst e; rw [at_set_same (by omega)]; omega
    · rw [at_set_ne (by omega)]; exact h.lo i (by omega)
  · show at_ (S.cell.set f.toNat (7 + 3 * f)) i = _
    rw [at_set_ne (by omega)]; exact h.hi i (by omega) h2
theorem ar_reserve {S : T_cells_Arena} {sz g : Int} (h : Are sz g g S) (c : Int) : (c < 1 ∧ cells_Arena_Reserve S c = some (0, 21, S)) ∨ (¬ c < 1 ∧ c > sz - g ∧ cells_Arena_Reserve S c = some (0, 22, S)) ∨ (¬ c < 1 ∧ ¬ c > sz - g ∧ ∃ S', cells_Arena_Reserve S c = some (g, 0, S') ∧ Are sz (g + c) g S') := by
  have hle := h.le
  have hl := h.len
  unfold cells_Arena_Reserve cells_ledger_refuse_Arena cells_ledger_take_Arena
  simp only [h.size, h.mark, ob0_some]
  rw [wi_in (x := sz - g) (by omega)]
  by_cases h1 : c < 1
  · left; rw [if_pos h1, ob1_some, if_neg (by decide)]; exact ⟨h1, rfl⟩
  · right
    by_cases h2 : c > sz - g
    · left; rw [if_neg h1, if_pos h2, ob1_some, if_neg (by decide)]; exact ⟨h1, h2, rfl⟩
    · right
      refine ⟨h1, h2, { S with ledger_mark := g + c, cell := S.cell ++ List.replicate c.toNat 0 }, ?_, ⟨h.size, rfl, h.off, by show ((S.cell ++ List.replicate c.toNat (0 : Int)).length : Int) = g + c; simp; omega, by omega, fun i hi => ?_, fun i h3 h4 => ?_⟩⟩
      · rw [if_neg h1, if_neg h2, ob1_some, if_pos rfl, ob2_some, if_pos ⟨by omega, by show (S.cell.length + c.toNat) * 8 ≤ _; omega⟩, wi_in (x := g + c) (by omega), ar_noteS h.off, ob1_some]
        simp [h.size]
      · show at_ (S.cell ++ List.replicate c.toNat 0) i = _
        rw [at_appl (by omega)]; exact h.lo i hi
      · show at_ (S.cell ++ List.replicate c.toNat 0) i = _
        rw [at_appr (by omega), at_rep (by omega)]

theorem sf_l2 {K : Nat} {p2 : List Int} {r g12 g13 sz g c : Int} (hc : at_ p2 g13.toNat = c) (hg : wi (r + c) = g) (hret : wi (g12 + c) = g) : ∀ (d k : Nat) (f : Int) (S : T_cells_Shared), f + (d : Int) = g → d < k → Sh sz g f S →
    ∃ S', plunderlaw2_fresh_iface_l2 K p2 r g12 g13 k S f = some (.inl (S', g)) ∧ Sh sz g g S'
  | d, k, f, S, h, hk, hs => by
    obtain ⟨k, rfl⟩ : ∃ m, k = m + 1 := ⟨k - 1, by omega⟩
    have hle := hs.le
    rw [plunderlaw2_fresh_iface_l2, hc, hg, hret]
    by_cases hi : f < g
    · obtain ⟨d, rfl⟩ : ∃ m, d = m + 1 := ⟨d - 1, by omega⟩
      obtain ⟨S', e1, e2⟩ := sh_store hs hi
      rw [if_pos hi, sh_load_in hs ⟨by omega, hi⟩, ob2_some, wi_in (x := 3 * f) (by omega), wi_in (x := 7 + 3 * f) (by omega), e1, ob2_some, if_pos (by have := hs.hi f.toNat (by omega) (by omega); exact this), if_pos rfl, if_pos rfl, wi_in (x := f + 1) (by omega)]
      exact sf_l2 hc hg hret d k (f + 1) S' (by omega) (by omega) e2
    · rw [if_neg hi]
      obtain rfl : f = g := by omega
      exact ⟨S, rfl, hs⟩
theorem sf_l1 {K : Nat} (hK : 5000 < K) {p2 : List Int} {sz : Int} (hp : p2.length ≤ 9223372036854775807) : ∀ (d k i : Nat) (S : T_cells_Shared) (g : Int), i + d = p2.length → d < k → Sh sz g g S →
    ∃ S' g', plunderlaw2_fresh_iface_l1 K sz p2 k S g (i : Int) = some (.inl (S', g')) ∧ Sh sz g' g' S'
  | d, k, i, S, g, h, hk, hs => by
    obtain ⟨k, rfl⟩ : ∃ m, k = m + 1 := ⟨k - 1, by omega⟩
    have hle := hs.le
    rw [plunderlaw2_fresh_iface_l1]
    by_cases hi : i < p2.length
    · obtain ⟨d, rfl⟩ : ∃ m, d = m + 1 := ⟨d - 1, by omega⟩
      have wi1 : wi ((i : Int) + (1 : Int)) = ((i + 1 : Nat) : Int) := by rw [wi_in (by omega)]; omega
      rw [if_pos (by omega), if_pos ⟨by omega, by omega⟩, Int.toNat_natCast, wi_in (x := sz - g) (by omega)]
      rcases sh_reserve hs (at_ p2 i) with ⟨h1, e1⟩ | ⟨h1, h2, e1⟩ | ⟨h1, h2, S', e1, e2⟩
      · rw [e1, ob3_some, if_pos h1, if_neg (by decide), if_pos rfl, jn2_inl, wi1]
        exact sf_l1 hK hp d k (i + 1) S g (by omega) (by omega) hs
      · rw [e1, ob3_some, if_neg h1, if_pos h2, if_neg (by decide), if_pos rfl, jn2_inl, wi1]
        exact sf_l1 hK hp d k (i + 1) S g (by omega) (by omega) hs
      · have hw : wi (g + at_ p2 i) = g + at_ p2 i := wi_in (by omega)
        obtain ⟨S2, f1, f2⟩ := sf_l2 (K := K) (p2 := p2) (r := g) (g12 := g) (g13 := (i : Int)) (sz := sz) (c := at_ p2 i) (by rw [Int.toNat_natCast]) hw hw (at_ p2 i).toNat K g S' (by omega) (by omega) e2
        rw [e1, ob3_some, if_neg h1, if_neg h2, if_pos rfl, if_pos rfl, jn0_inl, f1, jn2_inl, wi1]
        exact sf_l1 hK hp d k (i + 1) S2 _ (by omega) (by omega) f2
    · rw [if_neg (by omega)]
      exact ⟨S, g, rfl, hs⟩
theorem sf_l3 {K : Nat} {sz g : Int} {S : T_cells_Shared} : ∀ (d k : Nat) (i : Int) , 0 ≤ i → i + (d : Int) = g → d < k → Sh sz g g S → plunderlaw2_fresh_iface_l3 K S g k i = some (.inl ())
  | d, k, i, h0, h, hk, hs => by
    obtain ⟨k, rfl⟩ : ∃ m, k = m + 1 := ⟨k - 1, by omega⟩
    have hle := hs.le
    rw [plunderlaw2_fresh_iface_l3]
    by_cases hi : i < g
    · obtain ⟨d, rfl⟩ : ∃ m, d = m + 1 := ⟨d - 1, by omega⟩
      rw [if_pos hi, sh_load_in hs ⟨h0, hi⟩, ob2_some, if_pos rfl, wi_in (x := 3 * i) (by omega), wi_in (x := 7 + 3 * i) (by omega), if_pos (by have := hs.lo i.toNat (by omega); rw [show ((i.toNat : Nat) : Int) = i by omega] at this; exact this), wi_in (x := i + 1) (by omega)]
      exact sf_l3  d k (i + 1) (by omega) (by omega) (by omega) hs
    · rw [if_neg hi]
theorem sf_fresh {K : Nat} {p2 : List Int} {sz : Int} (hp : p2.length ≤ 9223372036854775807) (hK : p2.length + 5000 < K) {S : T_cells_Shared} (hs : Sh sz 0 0 S) : ∃ S', plunderlaw2_fresh_iface K S sz p2 = some (true, S') := by
  unfold plunderlaw2_fresh_iface
  obtain ⟨S', g, e1, e2⟩ := sf_l1 (K := K) (by omega) hp p2.length K 0 S 0 (by omega) (by omega) hs
  have hle := e2.le
  have e3 := sf_l3 (K := K) (S := S') g.toNat K 0 (by omega) (by omega) (by omega) e2
  simp only [Int.natCast_zero] at e1
  rw [e1, jn2_inl, e3, jn0_inl, sh_load_out e2 (by omega), ob2_some, sh_load_out e2 (by omega), ob2_some, if_neg (by decide)]
  exact ⟨S', rfl⟩

theorem af_l2 {K : Nat} {p2 : List Int} {r g12 g13 sz g c : Int} (hc : at_ p2 g13.toNat = c) (hg : wi (r + c) = g) (hret : wi (g12 + c) = g) : ∀ (d k : Nat) (f : Int) (S : T_cells_Arena), f + (d : Int) = g → d < k → Are sz g f S →
    ∃ S', plunderlaw2_fresh_iface_Arena_l2 K p2 g12 g13 r k S f = some (.inl (S', g)) ∧ Are sz g g S'
  | d, k, f, S, h, hk, hs => by
    obtain ⟨k, rfl⟩ : ∃ m, k = m + 1 := ⟨k - 1, by omega⟩
    have hle := hs.le
    rw [plunderlaw2_fresh_iface_Arena_l2, hc, hg, hret]
    by_cases hi : f < g
    · obtain ⟨d, rfl⟩ : ∃ m, d = m + 1 := ⟨d - 1, by omega⟩
      obtain ⟨S', e1, e2⟩ := ar_store hs hi
      rw [if_pos hi, ar_load_in hs ⟨by omega, hi⟩, ob3_some, wi_in (x := 3 * f) (by omega), wi_in (x := 7 + 3 * f) (by omega), e1, ob2_some, if_pos (by have := hs.hi f.toNat (by omega) (by omega); exact this), if_pos rfl, if_pos rfl, wi_in (x := f + 1) (by omega)]
      exact af_l2 hc hg hret d k (f + 1) S' (by omega) (by omega) e2
    · rw [if_neg hi]
      obtain rfl : f = g := by omega
      exact ⟨S, rfl, hs⟩
theorem af_l1 {K : Nat} (hK : 5000 < K) {p2 : List Int} {sz : Int} (hp : p2.length ≤ 9223372036854775807) : ∀ (d k i : Nat) (S : T_cells_Arena) (g : Int), i + d = p2.length → d < k → Are sz g g S →
    ∃ S' g', plunderlaw2_fresh_iface_Arena_l1 K sz p2 k S g (i : Int) = some (.inl (S', g')) ∧ Are sz g' g' S'
  | d, k, i, S, g, h, hk, hs => by
    obtain ⟨k, rfl⟩ : ∃ m, k = m + 1 := ⟨k - 1, by omega⟩
    have hle := hs.le
    rw [plunderlaw2_fresh_iface_Arena_l1]
    by_cases hi : i < p2.length
    · obtain ⟨d, rfl⟩ : ∃ m, d = m + 1 := ⟨d - 1, by omega⟩
      have wi1 : wi ((i : Int) + (1 : Int)) = ((i + 1 : Nat) : Int) := by rw [wi_in (by omega)]; omega
      rw [if_pos (by omega), if_pos ⟨by omega, by omega⟩, Int.toNat_natCast, wi_in (x := sz - g) (by omega)]
      rcases ar_reserve hs (at_ p2 i) with ⟨h1, e1⟩ | ⟨h1, h2, e1⟩ | ⟨h1, h2, S', e1, e2⟩
      · rw [e1, ob3_some, if_pos h1, if_neg (by decide), if_pos rfl, jn2_inl, wi1]
        exact af_l1 hK hp d k (i + 1) S g (by omega) (by omega) hs
      · rw [e1, ob3_some, if_neg h1, if_pos h2, if_neg (by decide), if_pos rfl, jn2_inl, wi1]
        exact af_l1 hK hp d k (i + 1) S g (by omega) (by omega) hs
      · have hw : wi (g + at_ p2 i) = g + at_ p2 i := wi_in (by omega)
        obtain ⟨S2, f1, f2⟩ := af_l2 (K := K) (p2 := p2) (r := g) (g12 := g) (g13 := (i : Int)) (sz := sz) (c := at_ p2 i) (by rw [Int.toNat_natCast]) hw hw (at_ p2 i).toNat K g S' (by omega) (by omega) e2
        rw [e1, ob3_some, if_neg h1, if_neg h2, if_pos rfl, if_pos rfl, jn0_inl, f1, jn2_inl, wi1]
        exact af_l1 hK hp d k (i + 1) S2 _ (by omega) (by omega) f2
    · rw [if_neg (by omega)]
      exact ⟨S, g, rfl, hs⟩
theorem af_l3 {K : Nat} {sz g : Int} : ∀ (d k : Nat) (i : Int) (S : T_cells_Arena), 0 ≤ i → i + (d : Int) = g → d < k → Are sz g g S → plunderlaw2_fresh_iface_Arena_l3 K g k S i = some (.inl S)
  | d, k, i, S, h0, h, hk, hs => by
    obtain ⟨k, rfl⟩ : ∃ m, k = m + 1 := ⟨k - 1, by omega⟩
    have hle := hs.le
    rw [plunderlaw2_fresh_iface_Arena_l3]
    by_cases hi : i < g
    · obtain ⟨d, rfl⟩ : ∃ m, d = m + 1 := ⟨d - 1, by omega⟩
      rw [if_pos hi, ar_load_in hs ⟨h0, hi⟩, ob3_some, if_pos rfl, wi_in (x := 3 * i) (by omega), wi_in (x := 7 + 3 * i) (by omega), if_pos (by have := hs.lo i.toNat (by omega); rw [show ((i.toNat : Nat) : Int) = i by omega] at this; exact this), wi_in (x := i + 1) (by omega)]
      exact af_l3  d k (i + 1) S (by omega) (by omega) (by omega) hs
    · rw [if_neg hi]
theorem af_fresh {K : Nat} {p2 : List Int} {sz : Int} (hp : p2.length ≤ 9223372036854775807) (hK : p2.length + 5000 < K) {S : T_cells_Arena} (hs : Are sz 0 0 S) : ∃ S', plunderlaw2_fresh_iface_Arena K S sz p2 = some (true, S') := by
  unfold plunderlaw2_fresh_iface_Arena
  obtain ⟨S', g, e1, e2⟩ := af_l1 (K := K) (by omega) hp p2.length K 0 S 0 (by omega) (by omega) hs
  have hle := e2.le
  have e3 := af_l3 (K := K)  g.toNat K 0 S' (by omega) (by omega) (by omega) e2
  simp only [Int.natCast_zero] at e1
  rw [e1, jn2_inl, e3, jn1_inl, ar_load_out e2 (by omega), ob3_some, ar_load_out e2 (by omega), ob3_some, if_neg (by decide)]
  exact ⟨S', rfl⟩

theorem fresh_true {K : Nat} (p0 : Bool) (p1 : Int) {p2 : List Int} (hp : p2.length ≤ 9223372036854775807) (hK : p2.length + 5000 < K) : plunderlaw2_CellsFresh K p0 p1 p2 = some true := by
  unfold plunderlaw2_CellsFresh
  obtain ⟨r, a1, a2, a3⟩ := mod_ok p1 (m := 4097) (by decide) (by decide)
  have hgood : cells_good r = some true := by
    unfold cells_good; rw [if_pos (by omega), decide_eq_true (by omega)]
  rw [a1, ob1_some]
  cases p0 with
  | true =>
    have hn : cells_NewShared r = some (some ⟨r, 0, 0, 0, 0, List.replicate r.toNat ⟨0⟩⟩, 0) := by
      unfold cells_NewShared; rw [hgood, ob1_some, if_pos rfl, if_pos ⟨a2, by omega⟩]
    have hs : Sh r 0 0 ⟨r, 0, 0, 0, 0, List.replicate r.toNat ⟨0⟩⟩ := ⟨rfl, rfl, rfl, rfl, by show ((List.replicate r.toNat (⟨0⟩ : T_atomic_Int64)).length : Int) = r; simp; omega, by omega, fun i hi => by omega, fun i h1 h2 => by show (at_ (List.replicate r.toNat (⟨0⟩ : T_atomic_Int64)) i).v = 0; rw [at_rep (by omega)]⟩
    obtain ⟨S', e⟩ := sf_fresh (K := K) hp hK hs
    rw [if_pos rfl, hn, ob2_some]
    simp only [reduceIte, e, ob2_some]
  | false =>
    have hn : cells_New r = some (some ⟨r, 0, [], [], 0, false⟩, 0) := by
      unfold cells_New; rw [hgood, ob1_some, if_pos rfl]
    have hs : Are r 0 0 ⟨r, 0, [], [], 0, false⟩ := ⟨rfl, rfl, rfl, rfl, by omega, fun i hi => by omega, fun i h1 h2 => by omega⟩
    obtain ⟨S', e⟩ := af_fresh (K := K) hp hK hs
    rw [if_neg (by decide), hn, ob2_some]
    simp only [reduceIte, e, ob2_some]
end Go.Proofs.Ytacgigkonoegiaa.Mo
