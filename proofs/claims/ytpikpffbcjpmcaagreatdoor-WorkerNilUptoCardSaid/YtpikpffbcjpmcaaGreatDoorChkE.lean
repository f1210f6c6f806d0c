/- The document's check of a program and the program's own answer the same fault; what is found sound, is. No memory is spoken of. -/
import Derived.Test.YtpikpffbcjpmcaaGreatDoorChkD
namespace Go.Proofs.YtpikpffbcjpmcaaGreatDoor.Mo
open Go Go.Proofs.YtpikpffbcjpmcaaGreatDoor.SL Go.Proofs.YtpikpffbcjpmcaaGreatDoor.GX
set_option linter.unusedVariables false
set_option linter.unusedSimpArgs false
section
variable {K : Nat}
def endB (f : T_api_Func) : Bool := (decide ((at_ f.Code (f.Code.length - 1)).Kind = 3) || decide ((at_ f.Code (f.Code.length - 1)).Kind = 9))
theorem ends_ok {f : T_api_Func} (hf : Shp f) : plunderref5_ends f = some (endB f) ∧ prog_lastOK f = some (endB f) := by
  have e : prog_lastOK f = plunderref5_ends f := rfl
  rw [e, and_self]
  unfold plunderref5_ends endB
  have h1 := hf.c1
  have h2 := hf.c512
  rw [wi_in (by omega), if_pos ⟨by omega, by omega⟩, show (((f.Code.length : Nat) : Int) - 1).toNat = f.Code.length - 1 by omega]
  split
  · rename_i h; simp [h]
  · rename_i h; simp [h]; rfl
/-- an instruction that may be -/
def InsOK (p : T_api_Program) (f : T_api_Func) (c : T_api_Instr) : Prop := aloneB f c = true ∧ calledB p f c = true
structure Code (p : T_api_Program) (f : T_api_Func) : Prop where
  ins : ∀ a, a < f.Code.length → InsOK p f (at_ f.Code a)
  fin : endB f = true
theorem Code.snd {p : T_api_Program} {f : T_api_Func} (hs : Shp f) (h : Code p f) : Snd f := by
  have h1 := hs.c1
  have h2 := hs.c512
  have kd : ∀ a : Nat, a < f.Code.length → 0 ≤ (at_ f.Code a).Kind ∧ (at_ f.Code a).Kind < 10 := fun a ha => by
    have := (h.ins a ha).1
    unfold aloneB at this
    by_cases e : 0 ≤ (at_ f.Code a).Kind ∧ (at_ f.Code a).Kind < 10
    · exact e
    · rw [if_neg (by omega), if_neg (by omega), if_neg (by omega), if_neg (by omega), if_neg (by omega), if_neg (by omega), if_neg (by omega), if_neg (by omega)] at this
      exact Bool.noConfusion this
  have en := h.fin
  unfold endB at en
  simp only [Bool.or_eq_true, decide_eq_true_eq] at en
  refine ⟨h1, h2, fun a h0 h1 n hn => ?_, fun a h0 h1 => kd _ (by omega)⟩
  have hi := (h.ins a.toNat (by omega)).1
  unfold aloneB at hi
  have last : ¬ (at_ f.Code a.toNat).Kind = 3 → ¬ (at_ f.Code a.toNat).Kind = 9 → a + 1 < f.Code.length := fun e3 e9 => by
    by_cases e : a.toNat = f.Code.length - 1
    · rw [← e] at en; rcases en with en | en
      · exact absurd en e3
      · exact absurd en e9
    · omega
  unfold Mo.nx at hn
  split at hn
  · rename_i e; rw [if_neg (by omega), if_neg (by omega), if_neg (by omega), if_pos e] at hi
    rw [List.mem_singleton.1 hn]; exact bel_iff.1 hi
  · rename_i e3
    split at hn
    · exact absurd hn (by simp)
    · rename_i e9
      have := last e3 e9
      split at hn
      · rename_i e4; rw [if_neg (by omega), if_neg (by omega), if_neg (by omega), if_neg (by omega), if_pos e4, Bool.and_eq_true] at hi
        have := bel_iff.1 hi.2
        rcases List.mem_cons.1 hn with rfl | hn
        · omega
        · rw [List.mem_singleton.1 hn]; exact this
      · rw [List.mem_singleton.1 hn]; omega
/-! ### the shapes -/
theorem pass1 {p : T_api_Program} (hn : p.Funcs.length ≤ 32) : ∀ (d k i : Nat), i + d = p.Funcs.length → d < k → (∀ a, a < i → Shp (at_ p.Funcs a)) →
    (∃ x : T_api_Fault, plunderref5_Check_l1 K p k (i : Int) = some (.inr x) ∧ prog_Check_l1 K p k (i : Int) = some (.inr x) ∧ x.Err ≠ 0) ∨
    (plunderref5_Check_l1 K p k (i : Int) = some (.inl ()) ∧ prog_Check_l1 K p k (i : Int) = some (.inl ()) ∧ ∀ a, a < p.Funcs.length → Shp (at_ p.Funcs a))
  | d, k, i, hd, hk, h => by
    obtain ⟨k, rfl⟩ : ∃ m, k = m + 1 := ⟨k - 1, by omega⟩
    rw [plunderref5_Check_l1, prog_Check_l1]
    by_cases hi : i < p.Funcs.length
    · obtain ⟨d, rfl⟩ : ∃ m, d = m + 1 := ⟨d - 1, by omega⟩
      obtain ⟨b, e1, e2, e3⟩ := shape_ok (at_ p.Funcs i)
      rw [if_pos (by omega), if_pos ⟨by omega, by omega⟩, if_pos (by omega), if_pos ⟨by omega, by omega⟩, Int.toNat_natCast, e1, ob1_some, e2, ob1_some, wiN (by omega)]
      cases b
      · left; exact ⟨⟨51, i, 0⟩, rfl, rfl, by show (51 : Int) ≠ 0; decide⟩
      · exact pass1 hn d k (i + 1) (by omega) (by omega) (fun a ha => by
          by_cases e : a = i
          · subst e; exact e3 rfl
          · exact h a (by omega))
    · rw [if_neg (by omega), if_neg (by omega)]
      right; exact ⟨rfl, rfl, fun a ha => h a (by omega)⟩
/-! ### the instructions -/
theorem ins_l {p : T_api_Program} {n : Nat} (hs : ∀ g ∈ p.Funcs, Shp g) (hn : n < p.Funcs.length) : ∀ (d k i : Nat), i + d = (at_ p.Funcs n).Code.length → d < k → (∀ a, a < i → InsOK p (at_ p.Funcs n) (at_ (at_ p.Funcs n).Code a)) →
    (∃ j : Int, plunderref5_Check_l3 K p (n : Int) k (i : Int) = some (.inr (.inr (.inr ⟨52, n, j⟩))) ∧ prog_instructions_l1 K (n : Int) (at_ p.Funcs n) p.Funcs k (i : Int) = some (.inr (.inr ⟨52, n, j⟩))) ∨
    (plunderref5_Check_l3 K p (n : Int) k (i : Int) = some (.inl ()) ∧ prog_instructions_l1 K (n : Int) (at_ p.Funcs n) p.Funcs k (i : Int) = some (.inl ()) ∧ ∀ a, a < (at_ p.Funcs n).Code.length → InsOK p (at_ p.Funcs n) (at_ (at_ p.Funcs n).Code a))
  | d, k, i, hd, hk, h => by
    obtain ⟨k, rfl⟩ : ∃ m, k = m + 1 := ⟨k - 1, by omega⟩
    have hf := hs _ (at_mem_ hn)
    have h512 := hf.c512
    rw [plunderref5_Check_l3, prog_instructions_l1]
    by_cases hi : i < (at_ p.Funcs n).Code.length
    · obtain ⟨d, rfl⟩ : ∃ m, d = m + 1 := ⟨d - 1, by omega⟩
      rw [Int.toNat_natCast, if_pos (by omega), if_pos ⟨by omega, by omega⟩, if_pos (by omega), if_pos ⟨by omega, by omega⟩, Int.toNat_natCast, alone_ok, ob1_some, instr_ok hs hf (by omega), ob1_some, wiN (by omega)]
      cases e1 : aloneB (at_ p.Funcs n) (at_ (at_ p.Funcs n).Code i)
      · left; exact ⟨i, rfl, rfl⟩
      · rw [if_pos rfl, called_ok hs hf, ob1_some]
        cases e2 : calledB p (at_ p.Funcs n) (at_ (at_ p.Funcs n).Code i)
        · left; exact ⟨i, rfl, rfl⟩
        · rw [if_pos rfl, Bool.true_and, if_pos rfl]
          exact ins_l hs hn d k (i + 1) (by omega) (by omega) (fun a ha => by
            by_cases e : a = i
            · subst e; exact ⟨e1, e2⟩
            · exact h a (by omega))
    · rw [Int.toNat_natCast, if_neg (by omega), if_neg (by omega)]
      right; exact ⟨rfl, rfl, fun a ha => h a (by omega)⟩
theorem pass2 {p : T_api_Program} (hn : p.Funcs.length ≤ 32) (hs : ∀ g ∈ p.Funcs, Shp g) (hK : 3000 < K) : ∀ (d k i : Nat), i + d = p.Funcs.length → d < k → (∀ a, a < i → Code p (at_ p.Funcs a)) →
    (∃ x : T_api_Fault, plunderref5_Check_l2 K p k (i : Int) = some (.inr x) ∧ prog_Check_l2 K p k (i : Int) = some (.inr x) ∧ x.Err ≠ 0) ∨
    (plunderref5_Check_l2 K p k (i : Int) = some (.inl ()) ∧ prog_Check_l2 K p k (i : Int) = some (.inl ()) ∧ ∀ a, a < p.Funcs.length → Code p (at_ p.Funcs a))
  | d, k, i, hd, hk, h => by
    obtain ⟨k, rfl⟩ : ∃ m, k = m + 1 := ⟨k - 1, by omega⟩
    rw [plunderref5_Check_l2, prog_Check_l2]
    by_cases hi : i < p.Funcs.length
    · obtain ⟨d, rfl⟩ : ∃ m, d = m + 1 := ⟨d - 1, by omega⟩
      have hf := hs _ (at_mem_ hi)
      have h512 := hf.c512
      rw [if_pos (by omega), if_pos ⟨by omega, by omega⟩, if_pos (by omega), if_pos ⟨by omega, by omega⟩, Int.toNat_natCast]
      unfold prog_instructions
      rcases ins_l (K := K) hs hi (at_ p.Funcs i).Code.length K 0 (by omega) (by omega) (fun a ha => by omega) with ⟨j, e1, e2⟩ | ⟨e1, e2, e3⟩
      · rw [Int.ofNat_zero] at e1 e2
        rw [e1, e2]; left; exact ⟨⟨52, i, j⟩, rfl, rfl, by show (52 : Int) ≠ 0; decide⟩
      · rw [Int.ofNat_zero] at e1 e2
        rw [e1, e2, jn0_inl, jn0_inl, (ends_ok hf).1, (ends_ok hf).2, ob1_some, ob1_some]
        cases e4 : endB (at_ p.Funcs i)
        · left; exact ⟨⟨53, i, wi (((at_ p.Funcs i).Code.length : Int) - 1)⟩, rfl, rfl, by show (53 : Int) ≠ 0; decide⟩
        · rw [if_pos rfl, if_pos rfl, jn0_inl, ob1_some, wiN (by omega)]
          exact pass2 hn hs hK d k (i + 1) (by omega) (by omega) (fun a ha => by
            by_cases e : a = i
            · subst e; exact ⟨e3, e4⟩
            · exact h a (by omega))
    · rw [if_neg (by omega), if_neg (by omega)]
      right; exact ⟨rfl, rfl, fun a ha => h a (by omega)⟩
/-! ### the slots -/
/-- what is in the slots at a place is as it must be -/
def SlotOK (f : T_api_Func) (a : Nat) : Prop :=
  ((at_ f.Code a).Kind = 5 → ((a : Int), 2) ∉ reach f (at_ f.Code a).A) ∧
  ((at_ f.Code a).Kind = 7 → ((a : Int), 1) ∉ reach f (at_ f.Code a).B ∧ ((a : Int), 2) ∉ reach f (at_ f.Code a).B) ∧
  ((at_ f.Code a).Kind = 9 → ∀ c : Nat, c < f.Slots.toNat → ((a : Int), 2) ∉ reach f c)
theorem band3 : ∀ (a b c : Bool), ((band ((if a then 1 else 0) + (if b then 2 else 0) + (if c then 4 else 0)) 3 = 0) ↔ a = false ∧ b = false) := by
  intro a b c; cases a <;> cases b <;> cases c <;> decide
theorem band3_wt {V : List Pt} {a : Int} : band (wt V a) 3 = 0 ↔ (a, 1) ∉ V ∧ (a, 2) ∉ V := by
  have := band3 (decide ((a, 1) ∈ V)) (decide ((a, 2) ∈ V)) (decide ((a, 4) ∈ V))
  simp only [decide_eq_true_eq, decide_eq_false_iff_not] at this
  unfold wt; rw [this]
theorem flow_ok {p : T_api_Program} {f : T_api_Func} (hs : Shp f) (hc : Code p f) (hK : 3000 < K) : ∃ R, plunderref5_Flow K f = some R ∧ prog_states K f = some R ∧ Tab f R f.Slots.toNat := by
  have hf := hc.snd hs
  have h1 := hs.c1
  have h2 := hs.c512
  have hsd : ∀ (d k i : Nat), i + d = f.Code.length → d < k → plunderref5_Sound_l1 K f k (i : Int) = some true := by
    intro d
    induction d with
    | zero =>
      intro k i hd hk
      obtain ⟨k, rfl⟩ : ∃ m, k = m + 1 := ⟨k - 1, by omega⟩
      rw [plunderref5_Sound_l1, if_neg (by omega), (ends_ok hs).1, ob1_some, hc.fin]
    | succ d ih =>
      intro k i hd hk
      obtain ⟨k, rfl⟩ : ∃ m, k = m + 1 := ⟨k - 1, by omega⟩
      rw [plunderref5_Sound_l1, if_pos (by omega), if_pos ⟨by omega, by omega⟩, alone_ok, ob1_some, Int.toNat_natCast, (hc.ins i (by omega)).1, if_pos rfl, wiN (by omega)]
      exact ih k (i + 1) (by omega) (by omega)
  obtain ⟨b, e1, e2, e3⟩ := shape_ok f
  have hb : b = true := by
    cases b
    · exfalso
      unfold plunderref5_shaped at e1
      have := hs.p0; have := hs.p8; have := hs.r1; have := hs.rp; have := hs.r16; have := hs.s0; have := hs.s8
      rw [if_neg (by omega), if_neg (by omega), if_neg (by omega), if_neg (by omega), if_neg (by omega), jn0_inl, if_pos (by omega), if_pos (by omega), if_pos (by omega), decide_eq_true (by omega)] at e1
      exact Bool.noConfusion (Option.some.inj e1)
    · rfl
  unfold plunderref5_Flow plunderref5_Sound prog_states
  have hsd0 := hsd f.Code.length K 0 (by omega) (by omega)
  rw [Int.ofNat_zero] at hsd0
  rw [e1, ob1_some, hb, if_pos rfl, hsd0, ob1_some, if_pos rfl, if_pos ⟨by omega, by omega⟩, if_pos ⟨by omega, by omega⟩]
  obtain ⟨R, r1, r2, r3⟩ := flow_l1 (K := K) hf hs.s0 hs.s8 f.Code.length K 0 (List.replicate f.Code.length []) (by omega) (by omega) ⟨by simp, fun a ha => by omega⟩
  rw [Int.ofNat_zero] at r1 r2
  rw [r1, r2, ob1_some, ob1_some]
  have hs8 := hs.s8
  have ht : Tab f R 0 := ⟨r3.1, fun a ha => by rw [r3.2 a ha]; simp, fun a ha c hc => by omega, fun a ha c _ hc => by rw [r3.2 a ha, at_reps hc]⟩
  obtain ⟨R1, a1, a2⟩ := flow_l2 (K := K) hf hs.s0 hs.s8 hK f.Slots.toNat K 0 R (by omega) (by omega) ht
  obtain ⟨R2, b1, b2⟩ := states_l2 (K := K) hf hs.s0 hs.s8 hK f.Slots.toNat K 0 R (by omega) (by omega) ht
  rw [Int.ofNat_zero] at a1 b1
  have := tab_eq a2 b2
  subst this
  exact ⟨R1, a1, b1, a2⟩
/-- of a return: is a slot pending? -/
theorem open_l {f : T_api_Func} {R : List (List Int)} (ht : Tab f R f.Slots.toNat) (h8 : f.Slots ≤ 8) {a : Nat} (ha : a < f.Code.length) : ∀ (d k i : Nat), i + d = f.Slots.toNat → d < k →
    ((∃ c, i ≤ c ∧ c < f.Slots.toNat ∧ ((a : Int), 2) ∈ reach f c) → plunderref5_slotFault_l1 K (at_ R a) k (i : Int) = some 56 ∧ ∀ g, prog_slots_l2 K R a k g (i : Int) = some 56) ∧
    ((∀ c, i ≤ c → c < f.Slots.toNat → ((a : Int), 2) ∉ reach f c) → plunderref5_slotFault_l1 K (at_ R a) k (i : Int) = some 0 ∧ ∀ g, prog_slots_l2 K R a k g (i : Int) = some g)
  | d, k, i, hd, hk => by
    obtain ⟨k, rfl⟩ : ∃ m, k = m + 1 := ⟨k - 1, by omega⟩
    have hw := ht.wid a ha
    simp only [plunderref5_slotFault_l1, prog_slots_l2, Int.toNat_natCast]
    by_cases hi : i < f.Slots.toNat
    · obtain ⟨d, rfl⟩ : ∃ m, d = m + 1 := ⟨d - 1, by omega⟩
      obtain ⟨ih1, ih2⟩ := open_l ht h8 ha d k (i + 1) (by omega) (by omega)
      have key : band (at_ (at_ R a) i) 2 = 0 ↔ ((a : Int), (2 : Int)) ∉ reach f i := by rw [ht.val a ha i hi hi]; exact band_wt (.inr (.inl rfl))
      rw [if_pos (by omega), if_pos ⟨by omega, by omega⟩, wiN (by omega)]
      by_cases e : ((a : Int), (2 : Int)) ∈ reach f i
      · rw [if_neg (fun h => key.1 h e)]
        refine ⟨fun _ => ⟨rfl, fun g => ?_⟩, fun h => absurd e (h i (Nat.le_refl _) hi)⟩
        rw [if_pos (by omega), if_pos ⟨by omega, by omega⟩, if_neg (fun h => key.1 h e)]
        by_cases e2 : ∃ c, i + 1 ≤ c ∧ c < f.Slots.toNat ∧ ((a : Int), (2 : Int)) ∈ reach f c
        · exact (ih1 e2).2 56
        · exact (ih2 (fun c h1 h2 h3 => e2 ⟨c, h1, h2, h3⟩)).2 56
      · have hb := key.2 e
        rw [if_pos hb]
        refine ⟨fun ⟨c, h1, h2, h3⟩ => ?_, fun h => ?_⟩
        · have : c ≠ i := fun e' => by subst e'; exact e h3
          obtain ⟨x, y⟩ := ih1 ⟨c, by omega, h2, h3⟩
          refine ⟨x, fun g => ?_⟩
          rw [if_pos (by omega), if_pos ⟨by omega, by omega⟩, if_pos hb]; exact y g
        · obtain ⟨x, y⟩ := ih2 (fun c h1 h2 => h c (by omega) h2)
          refine ⟨x, fun g => ?_⟩
          rw [if_pos (by omega), if_pos ⟨by omega, by omega⟩, if_pos hb]; exact y g
    · rw [if_neg (by omega)]
      refine ⟨fun ⟨c, h1, h2, _⟩ => by omega, fun _ => ⟨rfl, fun g => ?_⟩⟩
      rw [if_neg (by omega)]
theorem slots_l {p : T_api_Program} {n : Nat} (hn : n < p.Funcs.length) (hs : Shp (at_ p.Funcs n)) (hc : Code p (at_ p.Funcs n)) (hK : 3000 < K) {R : List (List Int)} (ht : Tab (at_ p.Funcs n) R (at_ p.Funcs n).Slots.toNat) : ∀ (d k i : Nat), i + d = (at_ p.Funcs n).Code.length → d < k → (∀ a, a < i → SlotOK (at_ p.Funcs n) a) →
    (∃ e j : Int, e ≠ 0 ∧ plunderref5_Check_l5 K p (n : Int) R k (i : Int) = some (.inr ⟨e, n, j⟩) ∧ prog_slots_l1 K (n : Int) (at_ p.Funcs n) R k (i : Int) = some (.inr ⟨e, n, j⟩)) ∨
    (plunderref5_Check_l5 K p (n : Int) R k (i : Int) = some (.inl ()) ∧ prog_slots_l1 K (n : Int) (at_ p.Funcs n) R k (i : Int) = some (.inl ()) ∧ ∀ a, a < (at_ p.Funcs n).Code.length → SlotOK (at_ p.Funcs n) a)
  | d, k, i, hd, hk, h => by
    obtain ⟨k, rfl⟩ : ∃ m, k = m + 1 := ⟨k - 1, by omega⟩
    have h512 := hs.c512
    have h8 := hs.s8
    rw [plunderref5_Check_l5, prog_slots_l1]
    by_cases hi : i < (at_ p.Funcs n).Code.length
    · obtain ⟨d, rfl⟩ : ∃ m, d = m + 1 := ⟨d - 1, by omega⟩
      have hl := ht.len
      have hw := ht.wid i hi
      rw [Int.toNat_natCast, if_pos (by omega), if_pos ⟨by omega, by omega⟩, if_pos ⟨by omega, by omega⟩, if_pos (by omega), if_pos ⟨by omega, by omega⟩, Int.toNat_natCast, wiN (by omega)]
      have key : ∃ e : Int, plunderref5_slotFault K (at_ (at_ p.Funcs n).Code i) (at_ R i) = some e ∧
          (if (at_ (at_ p.Funcs n).Code i).Kind = 5 then if inr_ (i : Int) R.length then if inr_ (at_ (at_ p.Funcs n).Code i).A (at_ R i).length then (if (band (at_ (at_ R i) (at_ (at_ p.Funcs n).Code i).A.toNat) (2 : Int)) = 0 then some 0 else some 54) else none else none else (if (at_ (at_ p.Funcs n).Code i).Kind = 7 then if inr_ (i : Int) R.length then if inr_ (at_ (at_ p.Funcs n).Code i).B (at_ R i).length then (if (band (at_ (at_ R i) (at_ (at_ p.Funcs n).Code i).B.toNat) (3 : Int)) = 0 then some 0 else some 55) else none else none else (if (at_ (at_ p.Funcs n).Code i).Kind = 9 then if inr_ (i : Int) R.length then (prog_slots_l2 K R i K 0 0) else none else some 0))) = some e ∧ (e = 0 → SlotOK (at_ p.Funcs n) i) := by
        have hins := (hc.ins i hi).1
        unfold aloneB at hins
        unfold plunderref5_slotFault
        by_cases k5 : (at_ (at_ p.Funcs n).Code i).Kind = 5
        · rw [if_neg (by omega), if_neg (by omega), if_neg (by omega), if_neg (by omega), if_neg (by omega), if_pos k5] at hins
          have hA := bel_iff.1 hins
          have key : band (at_ (at_ R i) (at_ (at_ p.Funcs n).Code i).A.toNat) 2 = 0 ↔ ((i : Int), (2 : Int)) ∉ reach (at_ p.Funcs n) (at_ (at_ p.Funcs n).Code i).A := by
            rw [ht.val i hi _ (by omega) (by omega), show (((at_ (at_ p.Funcs n).Code i).A.toNat : Nat) : Int) = (at_ (at_ p.Funcs n).Code i).A by omega]; exact band_wt (.inr (.inl rfl))
          by_cases e : ((i : Int), (2 : Int)) ∈ reach (at_ p.Funcs n) (at_ (at_ p.Funcs n).Code i).A
          · rw [if_pos k5, if_pos k5, if_pos ⟨hA.1, by omega⟩, if_neg (fun h => key.1 h e), if_pos ⟨by omega, by omega⟩]; exact ⟨54, rfl, rfl, fun h => absurd h (by decide)⟩
          · rw [if_pos k5, if_pos k5, if_pos ⟨hA.1, by omega⟩, if_pos (key.2 e), if_pos ⟨by omega, by omega⟩]; exact ⟨0, rfl, rfl, fun _ => ⟨fun _ => e, fun h => by omega, fun h => by omega⟩⟩
        rw [if_neg k5, if_neg k5]
        by_cases k7 : (at_ (at_ p.Funcs n).Code i).Kind = 7
        · rw [if_neg (by omega), if_neg (by omega), if_neg (by omega), if_neg (by omega), if_neg (by omega), if_neg (by omega), if_neg (by omega), if_pos k7, Bool.and_eq_true] at hins
          have hB := bel_iff.1 hins.2
          have key : band (at_ (at_ R i) (at_ (at_ p.Funcs n).Code i).B.toNat) 3 = 0 ↔ ((i : Int), (1 : Int)) ∉ reach (at_ p.Funcs n) (at_ (at_ p.Funcs n).Code i).B ∧ ((i : Int), (2 : Int)) ∉ reach (at_ p.Funcs n) (at_ (at_ p.Funcs n).Code i).B := by
            rw [ht.val i hi _ (by omega) (by omega), show (((at_ (at_ p.Funcs n).Code i).B.toNat : Nat) : Int) = (at_ (at_ p.Funcs n).Code i).B by omega]; exact band3_wt
          by_cases e : band (at_ (at_ R i) (at_ (at_ p.Funcs n).Code i).B.toNat) 3 = 0
          · rw [if_pos k7, if_pos k7, if_pos ⟨hB.1, by omega⟩, if_pos e, if_pos ⟨by omega, by omega⟩]; exact ⟨0, rfl, rfl, fun _ => ⟨fun h => by omega, fun _ => key.1 e, fun h => by omega⟩⟩
          · rw [if_pos k7, if_pos k7, if_pos ⟨hB.1, by omega⟩, if_neg e, if_pos ⟨by omega, by omega⟩]; exact ⟨55, rfl, rfl, fun h => absurd h (by decide)⟩
        rw [if_neg k7, if_neg k7]
        by_cases k9 : (at_ (at_ p.Funcs n).Code i).Kind = 9
        · rw [if_pos k9, if_pos k9, if_pos ⟨by omega, by omega⟩]
          obtain ⟨o1, o2⟩ := open_l (K := K) ht h8 hi (at_ p.Funcs n).Slots.toNat K 0 (by omega) (by omega)
          rw [Int.ofNat_zero] at o1 o2
          by_cases e : ∃ c, 0 ≤ c ∧ c < (at_ p.Funcs n).Slots.toNat ∧ ((i : Int), (2 : Int)) ∈ reach (at_ p.Funcs n) c
          · exact ⟨56, (o1 e).1, (o1 e).2 0, fun h => absurd h (by decide)⟩
          · have e' : ∀ c, 0 ≤ c → c < (at_ p.Funcs n).Slots.toNat → ((i : Int), (2 : Int)) ∉ reach (at_ p.Funcs n) c := fun c h1 h2 h3 => e ⟨c, h1, h2, h3⟩
            exact ⟨0, (o2 e').1, (o2 e').2 0, fun _ => ⟨fun h => by omega, fun h => by omega, fun _ c hc => e' c (Nat.zero_le _) hc⟩⟩
        · rw [if_neg k9, if_neg k9]; exact ⟨0, rfl, rfl, fun _ => ⟨fun h => absurd h k5, fun h => absurd h k7, fun h => absurd h k9⟩⟩
      obtain ⟨e, e1, e2, e3⟩ := key
      rw [e1, e2, ob1_some, ob1_some]
      by_cases e0 : e = 0
      · rw [if_pos e0, if_pos e0, jn0_inl]
        exact slots_l hn hs hc hK ht d k (i + 1) (by omega) (by omega) (fun a ha => by
          by_cases e : a = i
          · subst e; exact e3 e0
          · exact h a (by omega))
      · rw [if_neg e0, if_neg e0]; left; exact ⟨e, i, e0, rfl, rfl⟩
    · rw [Int.toNat_natCast, if_neg (by omega), if_neg (by omega)]
      right; exact ⟨rfl, rfl, fun a ha => h a (by omega)⟩
theorem pass3 {p : T_api_Program} (hn : p.Funcs.length ≤ 32) (hs : ∀ g ∈ p.Funcs, Shp g) (hc : ∀ a, a < p.Funcs.length → Code p (at_ p.Funcs a)) (hK : 3000 < K) : ∀ (d k i : Nat), i + d = p.Funcs.length → d < k → (∀ a, a < i → ∀ b, b < (at_ p.Funcs a).Code.length → SlotOK (at_ p.Funcs a) b) →
    ∃ x : T_api_Fault, plunderref5_Check_l4 K p k (i : Int) = some x ∧ prog_Check_l3 K p k (i : Int) = some x ∧ (x.Err = 0 → ∀ a, a < p.Funcs.length → ∀ b, b < (at_ p.Funcs a).Code.length → SlotOK (at_ p.Funcs a) b)
  | d, k, i, hd, hk, h => by
    obtain ⟨k, rfl⟩ : ∃ m, k = m + 1 := ⟨k - 1, by omega⟩
    rw [plunderref5_Check_l4, prog_Check_l3]
    by_cases hi : i < p.Funcs.length
    · obtain ⟨d, rfl⟩ : ∃ m, d = m + 1 := ⟨d - 1, by omega⟩
      have hf := hs _ (at_mem_ hi)
      have h512 := hf.c512
      rw [if_pos (by omega), if_pos ⟨by omega, by omega⟩, if_pos (by omega), if_pos ⟨by omega, by omega⟩, Int.toNat_natCast]
      unfold prog_slots
      obtain ⟨R, r1, r2, r3⟩ := flow_ok (K := K) hf (hc i hi) hK
      rw [r1, r2, ob1_some, ob1_some]
      rcases slots_l (K := K) hi hf (hc i hi) hK r3 (at_ p.Funcs i).Code.length K 0 (by omega) (by omega) (fun a ha => by omega) with ⟨e, j, e0, e1, e2⟩ | ⟨e1, e2, e3⟩
      · rw [Int.ofNat_zero] at e1 e2
        rw [e1, e2]; exact ⟨⟨e, i, j⟩, rfl, rfl, fun h => absurd h e0⟩
      · rw [Int.ofNat_zero] at e1 e2
        rw [e1, e2, jn0_inl, ob1_some, wiN (by omega)]
        exact pass3 hn hs hc hK d k (i + 1) (by omega) (by omega) (fun a ha => by
          by_cases e : a = i
          · subst e; exact e3
          · exact h a (by omega))
    · rw [if_neg (by omega), if_neg (by omega)]
      exact ⟨⟨0, 0, 0⟩, rfl, rfl, fun _ a ha => h a (by omega)⟩
/-- a program that both checks find sound -/
structure Valid (p : T_api_Program) : Prop where
  n1 : 1 ≤ p.Funcs.length
  n32 : p.Funcs.length ≤ 32
  shp : ∀ a, a < p.Funcs.length → Shp (at_ p.Funcs a)
  code : ∀ a, a < p.Funcs.length → Code p (at_ p.Funcs a)
  slot : ∀ a, a < p.Funcs.length → ∀ b, b < (at_ p.Funcs a).Code.length → SlotOK (at_ p.Funcs a) b
theorem check_ok (p : T_api_Program) (hK : 3000 < K) : ∃ x : T_api_Fault, plunderref5_Check K p = some x ∧ prog_Check K p = some x ∧ (x.Err = 0 → Valid p) := by
  unfold plunderref5_Check prog_Check
  by_cases h1 : ((p.Funcs.length : Nat) : Int) < 1
  · rw [if_pos h1]; exact ⟨_, rfl, rfl, fun h => absurd h (by decide)⟩
  rw [if_neg h1]
  by_cases h2 : ((p.Funcs.length : Nat) : Int) > 32
  · rw [if_pos h2]; exact ⟨_, rfl, rfl, fun h => absurd h (by decide)⟩
  rw [if_neg h2, jn0_inl, jn0_inl]
  rcases pass1 (K := K) (p := p) (by omega) p.Funcs.length K 0 (by omega) (by omega) (fun a ha => by omega) with ⟨x, e1, e2, e3⟩ | ⟨e1, e2, e3⟩
  · rw [Int.ofNat_zero] at e1 e2; rw [e1, e2]; exact ⟨x, rfl, rfl, fun h => absurd h e3⟩
  rw [Int.ofNat_zero] at e1 e2
  have hs : ∀ g ∈ p.Funcs, Shp g := fun g hg => by
    obtain ⟨i, hi, e⟩ := List.getElem_of_mem hg
    have := e3 i hi
    unfold at_ at this; rw [List.getD_eq_getElem?_getD, List.getElem?_eq_getElem hi] at this
    rw [← e]; exact this
  rw [e1, e2, jn0_inl, jn0_inl]
  rcases pass2 (K := K) (p := p) (by omega) hs hK p.Funcs.length K 0 (by omega) (by omega) (fun a ha => by omega) with ⟨x, a1, a2, a3⟩ | ⟨a1, a2, a3⟩
  · rw [Int.ofNat_zero] at a1 a2; rw [a1, a2]; exact ⟨x, rfl, rfl, fun h => absurd h a3⟩
  rw [Int.ofNat_zero] at a1 a2
  rw [a1, a2, jn0_inl, jn0_inl]
  obtain ⟨x, b1, b2, b3⟩ := pass3 (K := K) (p := p) (by omega) hs a3 hK p.Funcs.length K 0 (by omega) (by omega) (fun a ha => by omega)
  rw [Int.ofNat_zero] at b1 b2
  exact ⟨x, b1, b2, fun h => ⟨by omega, by omega, e3, a3, b3 h⟩⟩
end
end Go.Proofs.YtpikpffbcjpmcaaGreatDoor.Mo
