/- A play's own memory: what the walk's plain functions answer. No memory of the machine's is spoken of. -/
import Derived.Test.YtacgigkonoegiaaMp3
namespace Go.Proofs.Ytacgigkonoegiaa.Mo
open Go Go.Proofs.Ytacgigkonoegiaa.SL Go.Proofs.Ytacgigkonoegiaa.GX
set_option linter.unusedVariables false
set_option linter.unusedSimpArgs false

theorem wi1' {g : Int} (h0 : 0 ≤ g) (h1 : g < 4611686018427387904) : wi (g + (1 : Int)) = g + 1 := wi_in (by omega)
theorem wi_def (x : Int) : wi x = (if 9223372036854775808 ≤ x % 18446744073709551616 then x % 18446744073709551616 - 18446744073709551616 else x % 18446744073709551616) := by
  show IntKind.i64.wrap x = _
  unfold IntKind.wrap
  simp [IntKind.bits, IntKind.signed]
theorem wi_back {a b : Int} (hb : -9223372036854775808 ≤ b ∧ b ≤ 9223372036854775807) : wi (wi (a + b) - a) = b := by
  rw [wi_def (wi (a + b) - a), wi_def]
  split <;> split <;> omega
theorem drop_cons {α : Type} [Inhabited α] {l : List α} {i : Nat} (h : i < l.length) : l.drop i = at_ l i :: l.drop (i + 1) := by
  rw [List.drop_eq_getElem_cons h]; unfold at_; rw [List.getD_eq_getElem?_getD, List.getElem?_eq_getElem h]; rfl
theorem of_drop {α : Type} [Inhabited α] {l t : List α} {x : α} {i : Nat} (h : l.drop i = x :: t) : i < l.length ∧ at_ l i = x ∧ l.drop (i + 1) = t := by
  have hi : i < l.length := by
    by_cases hi : i < l.length
    · exact hi
    · rw [List.drop_of_length_le (by omega)] at h; cases h
  rw [drop_cons hi] at h
  simp only [List.cons.injEq] at h
  exact ⟨hi, h.1, h.2⟩

/-! ### one act on cells -/
def stepE (c : List Int) (x : T_api_Act) : T_api_Effect :=
  if x.Kind = 0 then ⟨at_ c x.Addr.toNat, true, 0⟩ else if x.Kind = 1 then ⟨0, true, 0⟩ else if x.Kind = 2 then ⟨0, at_ c x.Addr.toNat == x.A, 0⟩ else ⟨wi (at_ c x.Addr.toNat + x.A), true, 0⟩
def stepG (c : List Int) (x : T_api_Act) : T_api_Access :=
  if x.Kind = 0 then ⟨x.Who, 0, x.Addr, at_ c x.Addr.toNat, 0, true⟩ else if x.Kind = 1 then ⟨x.Who, 1, x.Addr, x.A, 0, true⟩ else if x.Kind = 2 then ⟨x.Who, 2, x.Addr, x.A, x.B, at_ c x.Addr.toNat == x.A⟩ else ⟨x.Who, 3, x.Addr, x.A, wi (at_ c x.Addr.toNat + x.A), true⟩
def stepC (c : List Int) (x : T_api_Act) : List Int :=
  if x.Kind = 0 then c else if x.Kind = 1 then c.set x.Addr.toNat x.A else if x.Kind = 2 then (if at_ c x.Addr.toNat = x.A then c.set x.Addr.toNat x.B else c) else c.set x.Addr.toNat (wi (at_ c x.Addr.toNat + x.A))
theorem stepC_len (c : List Int) (x : T_api_Act) : (stepC c x).length = c.length := by
  unfold stepC
  repeat' split
  all_goals simp
structure Good (n : Nat) (x : T_api_Act) : Prop where
  k0 : 0 ≤ x.Kind
  k3 : x.Kind ≤ 3
  a0 : 0 ≤ x.Addr
  a1 : x.Addr < n
  v : -9223372036854775808 ≤ x.A ∧ x.A ≤ 9223372036854775807
def runC (c : List Int) : List T_api_Act → List Int
  | [] => c
  | x :: t => runC (stepC c x) t
def runE (c : List Int) : List T_api_Act → List T_api_Effect
  | [] => []
  | x :: t => stepE c x :: runE (stepC c x) t
def runG (c : List Int) : List T_api_Act → List T_api_Access
  | [] => []
  | x :: t => stepG c x :: runG (stepC c x) t
theorem runC_len : ∀ (t : List T_api_Act) (c : List Int), (runC c t).length = c.length
  | [], c => rfl
  | x :: t, c => by rw [runC, runC_len t, stepC_len]
theorem runE_len : ∀ (t : List T_api_Act) (c : List Int), (runE c t).length = t.length
  | [], c => rfl
  | x :: t, c => by rw [runE, List.length_cons, runE_len t, List.length_cons]
theorem runG_len : ∀ (t : List T_api_Act) (c : List Int), (runG c t).length = t.length
  | [], c => rfl
  | x :: t, c => by rw [runG, List.length_cons, runG_len t, List.length_cons]

theorem note_on {S : T_cells_Arena} (ho : S.watched = true) (hl : S.log.length ≤ 1099511627776) (k i x y : Int) (ok : Bool) :
    cells_Arena_note S k i x y ok = some { S with log := S.log ++ [⟨S.actor, k, i, x, y, ok⟩] } := by
  unfold cells_Arena_note
  rw [if_pos ho, if_pos (by omega)]
theorem act_step {S : T_cells_Arena} {x : T_api_Act} (hm : S.ledger_mark = (S.cell.length : Int)) (ho : S.watched = true) (hl : S.log.length ≤ 1099511627776) (g : Good S.cell.length x) :
    cells_Arena_act S x = some (stepE S.cell x, { S with cell := stepC S.cell x, log := S.log ++ [stepG S.cell x], actor := x.Who }) := by
  have hr : inr_ x.Addr S.cell.length := ⟨g.a0, g.a1⟩
  have hlt : x.Addr.toNat < S.cell.length := at_okL hr
  have hout : ∀ T : T_cells_Arena, T.ledger_mark = S.ledger_mark → cells_Arena_outside T x.Addr = some false := fun T hT => by
    unfold cells_Arena_outside cells_ledger_has
    rw [if_pos (show x.Addr ≥ 0 from g.a0), ob1_some, hT, hm, show decide (x.Addr < (S.cell.length : Int)) = true from decide_eq_true g.a1]; rfl
  have hk0 := g.k0
  have hk3 := g.k3
  unfold cells_Arena_act cells_Arena_Who stepE stepG stepC
  rw [ob1_some]
  by_cases k0 : x.Kind = 0
  · rw [if_pos k0, if_pos k0, if_pos k0, if_pos k0]
    unfold cells_Arena_Load
    rw [hout { S with actor := x.Who } rfl]
    simp only [ob1_some, Bool.false_eq_true, if_false, if_pos hr, note_on (S := { S with actor := x.Who }) ho hl, ob3_some]
    rfl
  · rw [if_neg k0, if_neg k0, if_neg k0, if_neg k0]
    by_cases k1 : x.Kind = 1
    · rw [if_pos k1, if_pos k1, if_pos k1, if_pos k1]
      unfold cells_Arena_Store
      rw [hout { S with actor := x.Who } rfl]
      simp only [ob1_some, Bool.false_eq_true, if_false, if_pos hr, note_on (S := { S with actor := x.Who, cell := S.cell.set x.Addr.toNat x.A }) ho hl, ob2_some]
      rfl
    · rw [if_neg k1, if_neg k1, if_neg k1, if_neg k1]
      by_cases k2 : x.Kind = 2
      · rw [if_pos k2, if_pos k2, if_pos k2, if_pos k2]
        unfold cells_Arena_CAS
        rw [hout { S with actor := x.Who } rfl]
        simp only [ob1_some, Bool.false_eq_true, if_false, if_pos hr]
        by_cases e : at_ S.cell x.Addr.toNat = x.A
        · simp only [if_pos e, note_on (S := { S with actor := x.Who, cell := S.cell.set x.Addr.toNat x.B }) ho hl, ob1_some, ob3_some]
        · simp only [if_neg e, note_on (S := { S with actor := x.Who }) ho hl, ob1_some, ob3_some]
      · rw [if_neg k2, if_neg k2, if_neg k2, if_neg k2, if_pos (by omega)]
        unfold cells_Arena_Add
        rw [hout { S with actor := x.Who } rfl]
        have hr2 : inr_ x.Addr (S.cell.set x.Addr.toNat (wi (at_ S.cell x.Addr.toNat + x.A))).length := by rw [List.length_set]; exact hr
        simp only [ob1_some, Bool.false_eq_true, if_false, if_pos hr, if_pos hr2, note_on (S := { S with actor := x.Who, cell := S.cell.set x.Addr.toNat (wi (at_ S.cell x.Addr.toNat + x.A)) }) ho hl, ob3_some, at_set_same hlt]
        rfl

/-! ### a play -/
theorem play_l {K : Nat} {p : List T_api_Act} (hp : p.length ≤ 4096) : ∀ (t : List T_api_Act) (k i : Nat) (S : T_cells_Arena) (l : List T_api_Effect), p.drop i = t → t.length < k → (∀ x ∈ t, Good S.cell.length x) → S.ledger_mark = (S.cell.length : Int) → S.watched = true →
    S.log.length ≤ 1048576 + i → l.length ≤ 1048576 + i → i ≤ p.length →
    ∃ S', cells_Play_l1 K p k S l (i : Int) = some (S', l ++ runE S.cell t) ∧ S'.cell = runC S.cell t ∧ S'.log = S.log ++ runG S.cell t
  | t, k, i, S, l, ht, hk, hg, hm, ho, hl, hll, hi => by
    obtain ⟨k, rfl⟩ : ∃ m, k = m + 1 := ⟨k - 1, by omega⟩
    rw [cells_Play_l1]
    cases t with
    | nil =>
      have : p.length ≤ i := List.drop_eq_nil_iff.1 ht
      rw [if_neg (by omega)]
      exact ⟨S, by rw [runE, List.append_nil], rfl, by rw [runG, List.append_nil]⟩
    | cons x t =>
      obtain ⟨h1, h2, h3⟩ := of_drop ht
      rw [if_pos (by omega), if_pos ⟨by omega, by omega⟩, Int.toNat_natCast, h2, act_step hm ho (by omega) (hg x (by simp)), ob2_some, if_pos (by omega), wi1' (by omega) (by omega), show ((i : Int) + 1) = ((i + 1 : Nat) : Int) by omega]
      obtain ⟨S', e1, e2, e3⟩ := play_l (K := K) hp t k (i + 1) { S with cell := stepC S.cell x, log := S.log ++ [stepG S.cell x], actor := x.Who } (l ++ [stepE S.cell x]) h3 (by simp at hk; omega)
        (fun y hy => by show Good (stepC S.cell x).length y; rw [stepC_len]; exact hg y (by simp [hy])) (by show S.ledger_mark = ((stepC S.cell x).length : Int); rw [stepC_len]; exact hm) ho (by simp; omega) (by simp; omega) (by omega)
      refine ⟨S', ?_, e2, ?_⟩
      · rw [e1, runE]; simp
      · rw [e3, runG]; simp
theorem mod_ok (x : Int) {m : Int} (hm : 0 < m) (hm2 : m ≤ 1048576) : ∃ r, plunderlaw2_mod x m = some r ∧ 0 ≤ r ∧ r < m := by
  unfold plunderlaw2_mod
  rw [if_pos (by omega)]
  have h1 := Int.tmod_lt_of_pos x hm
  have h2 : -m < x.tmod m := by
    have := Int.tmod_lt_of_pos (-x) hm
    rw [Int.neg_tmod] at this
    omega
  by_cases h : x.tmod m < 0
  · rw [if_pos h]
    exact ⟨_, rfl, by rw [wi_in (by omega)]; omega, by rw [wi_in (by omega)]; omega⟩
  · rw [if_neg h]
    exact ⟨_, rfl, by omega, h1⟩
def InA (x : T_api_Act) : Prop := -9223372036854775808 ≤ x.A ∧ x.A ≤ 9223372036854775807
theorem within_l {K : Nat} {n : Nat} (hn0 : 0 < n) (hn : n ≤ 64) {acts : List T_api_Act} (ha : ∀ x ∈ acts, InA x) : ∀ (d k i : Nat) (l : List T_api_Act), l.length + d = 4096 → d < k → i ≤ l.length →
    ∃ t, plunderlaw2_within_l1 K (n : Int) acts 4096 k l (i : Int) = some (l ++ t) ∧ (l ++ t).length ≤ 4096 ∧ ∀ x ∈ t, Good n x
  | d, k, i, l, h, hk, hi => by
    obtain ⟨k, rfl⟩ : ∃ m, k = m + 1 := ⟨k - 1, by omega⟩
    rw [plunderlaw2_within_l1]
    by_cases h1 : (i : Int) < ((acts.length : Nat) : Int)
    · rw [if_pos h1]
      by_cases h2 : ((l.length : Nat) : Int) < 4096
      · obtain ⟨d, rfl⟩ : ∃ m, d = m + 1 := ⟨d - 1, by omega⟩
        rw [if_pos h2, if_pos ⟨by omega, h1⟩]
        obtain ⟨r, e1, e2, e3⟩ := mod_ok (at_ acts ((i : Int)).toNat).Kind (m := 4) (by decide) (by decide)
        obtain ⟨q, f1, f2, f3⟩ := mod_ok (at_ acts ((i : Int)).toNat).Addr (m := (n : Int)) (by omega) (by omega)
        rw [e1, ob1_some, f1, ob1_some, if_pos (by omega), wi1' (by omega) (by omega), show ((i : Int) + 1) = ((i + 1 : Nat) : Int) by omega]
        obtain ⟨t, g1, g2, g3⟩ := within_l (K := K) hn0 hn ha d k (i + 1) (l ++ [{ at_ acts ((i : Int)).toNat with Kind := r, Addr := q }]) (by simp; omega) (by omega) (by simp; omega)
        refine ⟨{ at_ acts ((i : Int)).toNat with Kind := r, Addr := q } :: t, by rw [g1, List.append_assoc]; rfl, by rw [List.append_assoc] at g2; exact g2, fun x hx => ?_⟩
        rcases List.mem_cons.1 hx with rfl | hx
        · refine ⟨e2, by show r ≤ 3; omega, f2, f3, ?_⟩
          refine ha (at_ acts ((i : Int)).toNat) ?_
          have hlt : i < acts.length := by omega
          rw [Int.toNat_natCast]
          unfold at_; rw [List.getD_eq_getElem?_getD, List.getElem?_eq_getElem hlt]
          exact List.getElem_mem hlt
        · exact g3 x hx
      · rw [if_neg h2]
        exact ⟨[], by simp, by simp; omega, fun x hx => by cases hx⟩
    · rw [if_neg h1]
      exact ⟨[], by simp, by simp; omega, fun x hx => by cases hx⟩

/-! ### the law -/
theorem mem_l {K : Nat} {acts : List T_api_Act} {run : T_api_CellRun} (hp : acts.length ≤ 4096) : ∀ (t : List T_api_Act) (k i : Nat) (last c : List Int), acts.drop i = t → run.Effects.drop i = runE c t → run.Log.drop i = runG c t → t.length < k → c.length ≤ 64 → last.length = 64 →
    (∀ a, a < c.length → at_ last a = at_ c a) → (∀ x ∈ t, Good c.length x) → i ≤ acts.length →
    ∃ last', plunderlaw2_CellsMemory_l1 K acts run k last (i : Int) = some (.inl last') ∧ last'.length = 64 ∧ ∀ a, a < c.length → at_ last' a = at_ (runC c t) a
  | t, k, i, last, c, ht, hE, hG, hk, hc, hla, hsame, hg, hi => by
    obtain ⟨k, rfl⟩ : ∃ m, k = m + 1 := ⟨k - 1, by omega⟩
    rw [plunderlaw2_CellsMemory_l1]
    cases t with
    | nil =>
      have : acts.length ≤ i := List.drop_eq_nil_iff.1 ht
      rw [if_neg (by omega)]
      exact ⟨last, rfl, hla, hsame⟩
    | cons x t =>
      obtain ⟨h1, h2, h3⟩ := of_drop ht
      obtain ⟨E1, E2, E3⟩ := of_drop hE
      obtain ⟨G1, G2, G3⟩ := of_drop hG
      have g := hg x (by simp)
      have ga0 := g.a0
      have ga1 := g.a1
      have gk0 := g.k0
      have gk3 := g.k3
      have hs := hsame x.Addr.toNat (by omega)
      have next : ∀ last2 : List Int, last2.length = 64 → (∀ a, a < c.length → at_ last2 a = at_ (stepC c x) a) →
          ∃ last', plunderlaw2_CellsMemory_l1 K acts run k last2 (wi ((i : Int) + 1)) = some (.inl last') ∧ last'.length = 64 ∧ ∀ a, a < c.length → at_ last' a = at_ (runC c (x :: t)) a := fun last2 q1 q2 => by
        rw [wi1' (by omega) (by omega), show ((i : Int) + 1) = ((i + 1 : Nat) : Int) by omega]
        obtain ⟨last', r1, r2, r3⟩ := mem_l (K := K) hp t k (i + 1) last2 (stepC c x) h3 E3 G3 (by simp at hk; omega) (by rw [stepC_len]; exact hc) q1 (fun a ha => q2 a (by rw [stepC_len] at ha; exact ha))
          (fun y hy => by rw [stepC_len]; exact hg y (by simp [hy])) (by omega)
        exact ⟨last', r1, r2, fun a ha => by rw [runC]; exact r3 a (by rw [stepC_len]; exact ha)⟩
      have put : ∀ v : Int, stepC c x = c.set x.Addr.toNat v → ∀ a, a < c.length → at_ (last.set x.Addr.toNat v) a = at_ (stepC c x) a := fun v hv a ha => by
        rw [hv]
        by_cases e : x.Addr.toNat = a
        · subst e; rw [at_set_same (by omega), at_set_same ha]
        · rw [at_set_ne e, at_set_ne e]; exact hsame a ha
      rw [if_pos (by omega), if_pos ⟨by omega, by omega⟩, if_pos ⟨by omega, by omega⟩, if_pos ⟨by omega, by omega⟩, Int.toNat_natCast, h2, E2, G2, if_pos ⟨by omega, by omega⟩, hs]
      unfold stepE stepG
      by_cases k0 : x.Kind = 0
      · obtain ⟨z, n1, n2⟩ := next last hla (by unfold stepC; rw [if_pos k0]; exact hsame)
        refine ⟨z, ?_, n2⟩
        simp only [if_pos k0, k0, if_true, jn0_inl]
        exact n1
      · by_cases k1 : x.Kind = 1
        · obtain ⟨z, n1, n2⟩ := next (last.set x.Addr.toNat x.A) (by simpa using hla) (put x.A (by unfold stepC; rw [if_neg k0, if_pos k1]))
          refine ⟨z, ?_, n2⟩
          simp only [k1, Int.reduceEq, reduceIte, jn0_inl]
          exact n1
        · by_cases k2 : x.Kind = 2
          · by_cases e : at_ c x.Addr.toNat = x.A
            · obtain ⟨z, n1, n2⟩ := next (last.set x.Addr.toNat x.B) (by simpa using hla) (put x.B (by unfold stepC; rw [if_neg k0, if_neg k1, if_pos k2, if_pos e]))
              refine ⟨z, ?_, n2⟩
              simp only [k2, Int.reduceEq, reduceIte, jn0_inl, e, beq_self_eq_true]
              exact n1
            · obtain ⟨z, n1, n2⟩ := next last hla (by unfold stepC; rw [if_neg k0, if_neg k1, if_pos k2, if_neg e]; exact hsame)
              refine ⟨z, ?_, n2⟩
              have eb : (at_ c x.Addr.toNat == x.A) = false := by simpa using e
              simp only [k2, Int.reduceEq, reduceIte, jn0_inl, eb, Bool.false_eq_true]
              exact n1
          · have k3 : x.Kind = 3 := by omega
            obtain ⟨z, n1, n2⟩ := next (last.set x.Addr.toNat (wi (at_ c x.Addr.toNat + x.A))) (by simpa using hla) (put _ (by unfold stepC; rw [if_neg k0, if_neg k1, if_neg k2]))
            refine ⟨z, ?_, n2⟩
            simp only [k3, Int.reduceEq, reduceIte, jn0_inl, wi_back g.v]
            exact n1
theorem mem_l2 {K : Nat} {r : Int} {run : T_api_CellRun} {last : List Int} {n : Nat} (hr : wi (1 + r) = (n : Int)) (hn : n ≤ 64) (hc : run.Cells.length = n) (hl : last.length = 64) (hs : ∀ a, a < n → at_ last a = at_ run.Cells a) : ∀ (d k i : Nat), i + d = n → d < k →
    plunderlaw2_CellsMemory_l2 K r run last k (i : Int) = some true
  | d, k, i, h, hk => by
    obtain ⟨k, rfl⟩ : ∃ m, k = m + 1 := ⟨k - 1, by omega⟩
    rw [plunderlaw2_CellsMemory_l2, hr]
    by_cases hi : i < n
    · obtain ⟨d, rfl⟩ : ∃ m, d = m + 1 := ⟨d - 1, by omega⟩
      rw [if_pos (by omega), if_pos ⟨by omega, by omega⟩, if_pos ⟨by omega, by omega⟩, Int.toNat_natCast, hs i hi, if_pos rfl, wi1' (by omega) (by omega), show ((i : Int) + 1) = ((i + 1 : Nat) : Int) by omega]
      exact mem_l2 hr hn hc hl hs d k (i + 1) (by omega) (by omega)
    · rw [if_neg (by omega)]
theorem memory_true {K : Nat} (hK : 5000 < K) (n0 : Int) {acts : List T_api_Act} (ha : ∀ x ∈ acts, InA x) : plunderlaw2_CellsMemory K n0 acts = some true := by
  unfold plunderlaw2_CellsMemory
  obtain ⟨r, e1, e2, e3⟩ := mod_ok n0 (m := 64) (by decide) (by decide)
  obtain ⟨n, hn⟩ : ∃ n : Nat, wi (1 + r) = (n : Int) := ⟨(1 + r).toNat, by rw [wi_in (by omega)]; omega⟩
  have hn1 : (n : Int) = 1 + r := by rw [← hn, wi_in (by omega)]
  rw [e1, ob1_some, hn]
  obtain ⟨t, w1, w2, w3⟩ := within_l (K := K) (n := n) (by omega) (by omega) ha 4095 K 0 [⟨0, 4, 0, (n : Int), 0⟩] rfl (by omega) (by simp)
  unfold plunderlaw2_within
  simp only [Int.natCast_zero] at w1
  rw [w1, ob1_some]
  have hp : (⟨0, 4, 0, (n : Int), 0⟩ :: t : List T_api_Act).length ≤ 4096 := by simpa using w2
  -- the play
  let S0 : T_cells_Arena := ⟨n, n, List.replicate n 0, [⟨0, 4, 0, n, 0, true⟩], 0, true⟩
  obtain ⟨S', p1, p2, p3⟩ := play_l (K := K) (p := ⟨0, 4, 0, (n : Int), 0⟩ :: t) hp t (K - 1) 1 S0 [⟨0, true, 0⟩] rfl (by simp at hp; omega) (by simpa [S0] using w3) (by simp [S0]) rfl (by simp [S0]) (by simp) (by simp)
  have hplay : cells_Play K (n : Int) ([⟨0, 4, 0, (n : Int), 0⟩] ++ t) = some (⟨⟨0, true, 0⟩ :: runE (List.replicate n 0) t, runC (List.replicate n 0) t, ⟨0, 4, 0, n, 0, true⟩ :: runG (List.replicate n 0) t⟩, 0) := by
    have hfirst : cells_Arena_act ⟨n, 0, [], [], 0, true⟩ ⟨0, 4, 0, (n : Int), 0⟩ = some (⟨0, true, 0⟩, S0) := by
      unfold cells_Arena_act cells_Arena_Who cells_Arena_Reserve cells_ledger_refuse cells_ledger_take cells_Arena_note
      simp only [ob1_some, ob0_some, ob2_some, Int.reduceEq, reduceIte]
      rw [if_neg (by omega), if_neg (by rw [wi_in (by omega)]; omega), ob1_some, if_pos rfl, if_pos ⟨by omega, by simp; omega⟩]
      simp only [if_true, List.length_nil, List.nil_append]
      rw [if_pos (by decide)]
      simp only [ob1_some, ob3_some, S0]
      rw [show wi (0 + (n : Int)) = (n : Int) by rw [wi_in (by omega)]; omega, Int.toNat_natCast]
      rfl
    have hl1 : cells_Play_l1 K ([⟨0, 4, 0, (n : Int), 0⟩] ++ t) K ⟨n, 0, [], [], 0, true⟩ [] 0 = some (S', ⟨0, true, 0⟩ :: runE (List.replicate n 0) t) := by
      obtain ⟨k, rfl⟩ : ∃ m, K = m + 1 := ⟨K - 1, by omega⟩
      rw [cells_Play_l1, if_pos (by simp; try omega), if_pos ⟨by simp, by simp; try omega⟩]
      have : at_ ([⟨0, 4, 0, (n : Int), 0⟩] ++ t : List T_api_Act) ((0 : Int)).toNat = ⟨0, 4, 0, (n : Int), 0⟩ := rfl
      rw [this, hfirst, ob2_some, if_pos (by simp)]
      exact p1
    unfold cells_Play cells_New cells_good
    rw [if_pos (by omega), ob1_some, show decide ((n : Int) ≤ 1048576) = true from decide_eq_true (by omega)]
    simp only [if_true, ob2_some]
    rw [if_neg (by simp at hp ⊢; omega)]
    unfold cells_Arena_Watch
    simp only [ob1_some]
    rw [hl1, ob2_some]
    unfold cells_Arena_Cells cells_Arena_Log
    have lc : S'.cell.length ≤ 64 := by rw [p2, runC_len]; simp [S0]; omega
    have lg : S'.log.length ≤ 5000 := by rw [p3, List.length_append, runG_len]; simp [S0] at hp ⊢; omega
    rw [if_pos ⟨by omega, by omega⟩, if_pos (by simp), ob1_some, if_pos ⟨by omega, by omega⟩, if_pos (by simp), ob1_some, p2, p3]
    rfl
  rw [hplay, ob2_some]
  simp only [if_true]
  rw [if_pos (by simp [runE_len]), if_pos (by simp [runG_len]), if_pos (by rw [runC_len]; simp), jn0_inl, if_pos ⟨by simp, by simp; try omega⟩, if_pos ⟨by simp, by simp; try omega⟩]
  rw [if_pos (show at_ ((⟨0, 4, 0, (n : Int), 0, true⟩ : T_api_Access) :: runG (List.replicate n 0) t) 0 = ⟨(at_ ([⟨0, 4, 0, (n : Int), 0⟩] ++ t : List T_api_Act) 0).Who, 4, 0, (n : Int), 0, true⟩ from rfl), if_pos ⟨by simp, by simp; try omega⟩, if_pos (show at_ ((⟨0, true, 0⟩ : T_api_Effect) :: runE (List.replicate n 0) t) 0 = ⟨0, true, 0⟩ from rfl), jn0_inl]
  obtain ⟨last, m1, m2, m3⟩ := mem_l (K := K) (acts := [⟨0, 4, 0, (n : Int), 0⟩] ++ t) (run := ⟨⟨0, true, 0⟩ :: runE (List.replicate n 0) t, runC (List.replicate n 0) t, ⟨0, 4, 0, n, 0, true⟩ :: runG (List.replicate n 0) t⟩) (by simpa using hp) t K 1 (List.replicate 64 0) (List.replicate n 0) rfl rfl rfl
    (by simp at hp; omega) (by simp; omega) (by simp) (fun a ha => by simp at ha; unfold at_; rw [List.getD_eq_getElem?_getD, List.getD_eq_getElem?_getD, List.getElem?_replicate, List.getElem?_replicate, if_pos ha, if_pos (by omega)]) (by simpa using w3) (by simp)
  simp only [Int.natCast_one] at m1
  rw [m1, jn1_inl]
  exact mem_l2 (n := n) hn (by omega) (by rw [runC_len]; simp) m2 (fun a ha => m3 a (by simpa using ha)) n K 0 (by omega) (by omega)
end Go.Proofs.Ytacgigkonoegiaa.Mo
