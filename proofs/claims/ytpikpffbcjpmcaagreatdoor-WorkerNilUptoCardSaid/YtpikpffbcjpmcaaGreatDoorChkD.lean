/- The document's check of a program and the program's own answer the same fault. No memory is spoken of. -/
import Derived.Test.YtpikpffbcjpmcaaGreatDoorChkC
namespace Go.Proofs.YtpikpffbcjpmcaaGreatDoor.Mo
open Go Go.Proofs.YtpikpffbcjpmcaaGreatDoor.SL Go.Proofs.YtpikpffbcjpmcaaGreatDoor.GX
set_option linter.unusedVariables false
set_option linter.unusedSimpArgs false
section
variable {K : Nat}
def in64 (x : Int) : Prop := -9223372036854775808 ≤ x ∧ x ≤ 9223372036854775807
/-- what the reading of the arguments gives -/
structure P64 (p : T_api_Program) : Prop where
  f : ∀ f ∈ p.Funcs, in64 f.Params ∧ in64 f.Regs ∧ in64 f.Slots
  c : ∀ f ∈ p.Funcs, ∀ c ∈ f.Code, in64 c.A ∧ in64 c.B ∧ in64 c.C ∧ in64 c.K
def bel (x n : Int) : Bool := decide (0 ≤ x) && decide (x < n)
theorem bel_iff {x n : Int} : bel x n = true ↔ 0 ≤ x ∧ x < n := by simp [bel]
structure Shp (f : T_api_Func) : Prop where
  p0 : 0 ≤ f.Params
  p8 : f.Params ≤ 8
  r1 : 1 ≤ f.Regs
  rp : f.Params ≤ f.Regs
  r16 : f.Regs ≤ 16
  s0 : 0 ≤ f.Slots
  s8 : f.Slots ≤ 8
  c1 : 1 ≤ f.Code.length
  c512 : f.Code.length ≤ 512
theorem shape_ok (f : T_api_Func) : ∃ b, plunderref5_shaped f = some b ∧ prog_shapeOK f = some b ∧ (b = true → Shp f) := by
  have e : prog_shapeOK f = plunderref5_shaped f := rfl
  rw [e]
  unfold plunderref5_shaped
  by_cases h1 : f.Params < 0
  · rw [if_pos h1]; exact ⟨false, rfl, rfl, fun h => Bool.noConfusion h⟩
  rw [if_neg h1]
  by_cases h2 : f.Params > 8
  · rw [if_pos h2]; exact ⟨false, rfl, rfl, fun h => Bool.noConfusion h⟩
  rw [if_neg h2]
  by_cases h3 : f.Regs < 1
  · rw [if_pos h3]; exact ⟨false, rfl, rfl, fun h => Bool.noConfusion h⟩
  rw [if_neg h3]
  by_cases h4 : f.Regs < f.Params
  · rw [if_pos h4]; exact ⟨false, rfl, rfl, fun h => Bool.noConfusion h⟩
  rw [if_neg h4]
  by_cases h5 : f.Regs > 16
  · rw [if_pos h5]; exact ⟨false, rfl, rfl, fun h => Bool.noConfusion h⟩
  rw [if_neg h5, jn0_inl]
  by_cases h6 : f.Slots ≥ 0
  · rw [if_pos h6]
    by_cases h7 : f.Slots ≤ 8
    · rw [if_pos h7]
      by_cases h8 : ((f.Code.length : Nat) : Int) ≥ 1
      · rw [if_pos h8]
        exact ⟨_, rfl, rfl, fun h => ⟨by omega, by omega, by omega, by omega, by omega, h6, h7, by omega, by have := of_decide_eq_true h; omega⟩⟩
      · rw [if_neg h8]; exact ⟨false, rfl, rfl, fun h => Bool.noConfusion h⟩
    · rw [if_neg h7]; exact ⟨false, rfl, rfl, fun h => Bool.noConfusion h⟩
  · rw [if_neg h6]; exact ⟨false, rfl, rfl, fun h => Bool.noConfusion h⟩
def aloneB (f : T_api_Func) (c : T_api_Instr) : Bool :=
  if c.Kind = 0 ∨ c.Kind = 8 ∨ c.Kind = 9 then bel c.A f.Regs
  else if c.Kind = 1 then bel c.A f.Regs && bel c.B f.Regs
  else if c.Kind = 2 then bel c.A f.Regs && bel c.B f.Regs && bel c.C f.Regs && bel c.K 16
  else if c.Kind = 3 then bel c.A f.Code.length
  else if c.Kind = 4 then bel c.A f.Regs && bel c.B f.Code.length
  else if c.Kind = 5 then bel c.A f.Slots
  else if c.Kind = 6 then true
  else if c.Kind = 7 then bel c.A f.Regs && bel c.B f.Slots
  else false
def calledB (p : T_api_Program) (f : T_api_Func) (c : T_api_Instr) : Bool :=
  if c.Kind = 5 then bel c.B p.Funcs.length && (decide ((at_ p.Funcs c.B.toNat).Params = 0) || (decide (0 ≤ c.C) && decide (c.C ≤ f.Regs - (at_ p.Funcs c.B.toNat).Params))) else true
theorem below_ok (x n : Int) : plunderref5_below x n = some (bel x n) := by
  unfold plunderref5_below bel
  by_cases h : 0 ≤ x
  · rw [if_pos h]; simp [h]
  · rw [if_neg h]; simp [h]
theorem fits_ok (x n : Int) : (if x ≥ 0 then some (decide (x < n)) else some false) = some (bel x n) := by
  unfold bel
  by_cases h : 0 ≤ x
  · rw [if_pos h]; simp [h]
  · rw [if_neg h]; simp [h]
theorem alone_ok (f : T_api_Func) (c : T_api_Instr) : plunderref5_alone f c = some (aloneB f c) := by
  unfold plunderref5_alone aloneB
  simp only [below_ok, ob1_some]
  by_cases h0 : c.Kind = 0
  · simp [h0]
  by_cases h8 : c.Kind = 8
  · simp [h8]
  by_cases h9 : c.Kind = 9
  · simp [h9]
  simp only [h0, h8, h9, if_false, ob1_some, false_or]
  have : ((c.Kind == 9) = true) = False := by simp [h9]
  simp only [this, if_false]
  by_cases h1 : c.Kind = 1
  · simp only [h1, if_true]; cases bel c.A f.Regs <;> simp
  by_cases h2 : c.Kind = 2
  · simp only [h2, if_true, if_neg (show ¬ (2 : Int) = 1 by decide)]; cases bel c.A f.Regs <;> cases bel c.B f.Regs <;> cases bel c.C f.Regs <;> simp [bel]
    by_cases h : 0 ≤ c.K <;> simp [h]
  by_cases h3 : c.Kind = 3
  · simp [h3]
  by_cases h4 : c.Kind = 4
  · simp only [h4, if_true, if_neg (show ¬ (4 : Int) = 1 by decide), if_neg (show ¬ (4 : Int) = 2 by decide), if_neg (show ¬ (4 : Int) = 3 by decide)]; cases bel c.A f.Regs <;> simp
  by_cases h5 : c.Kind = 5
  · simp [h5]
  by_cases h6 : c.Kind = 6
  · simp [h6]
  by_cases h7 : c.Kind = 7
  · simp only [h7, if_true, if_neg (show ¬ (7 : Int) = 1 by decide), if_neg (show ¬ (7 : Int) = 2 by decide), if_neg (show ¬ (7 : Int) = 3 by decide), if_neg (show ¬ (7 : Int) = 4 by decide), if_neg (show ¬ (7 : Int) = 5 by decide), if_neg (show ¬ (7 : Int) = 6 by decide)]; cases bel c.A f.Regs <;> simp
  simp [h1, h2, h3, h4, h5, h6, h7]
theorem called_ok {p : T_api_Program} {f : T_api_Func} {c : T_api_Instr} (hs : ∀ g ∈ p.Funcs, Shp g) (hf : Shp f) : plunderref5_called p f c = some (calledB p f c) := by
  unfold plunderref5_called calledB
  by_cases h5 : c.Kind = 5
  · rw [if_pos h5, if_pos h5, below_ok, ob1_some]
    cases hb : bel c.B p.Funcs.length
    · simp
    · have hb' := bel_iff.1 hb
      have hg := hs _ (at_mem_ (l := p.Funcs) (i := c.B.toNat) (by omega))
      rw [if_pos rfl, if_pos hb']
      by_cases hn : (at_ p.Funcs c.B.toNat).Params = 0
      · rw [if_pos hn]; simp [hn]
      · rw [if_neg hn, below_ok, ob1_some]
        have := hg.p0
        have := hg.p8
        have := hf.r16
        cases hc : bel c.C f.Regs
        · have : ¬ (0 ≤ c.C ∧ c.C ≤ f.Regs - (at_ p.Funcs c.B.toNat).Params) := fun h => by
            have : bel c.C f.Regs = true := bel_iff.2 ⟨h.1, by omega⟩
            rw [hc] at this; exact Bool.noConfusion this
          simp [hn]; intro h; omega
        · have hc' := bel_iff.1 hc
          rw [if_pos rfl, wi_in (x := f.Regs - c.C) (by omega)]
          simp [hn, hc'.1]; omega
  · rw [if_neg h5, if_neg h5]
theorem instr_ok {p : T_api_Program} {f : T_api_Func} {c : T_api_Instr} (hs : ∀ g ∈ p.Funcs, Shp g) (hf : Shp f) (hp : 0 < p.Funcs.length) : prog_instrOK c f p.Funcs = some (aloneB f c && calledB p f c) := by
  unfold prog_instrOK aloneB calledB
  by_cases hk0 : c.Kind < 0
  · rw [if_pos hk0]; simp only [jn0_inr]; rw [if_neg (by omega), if_neg (by omega), if_neg (by omega), if_neg (by omega), if_neg (by omega), if_neg (by omega), if_neg (by omega), if_neg (by omega)]; rfl
  by_cases hk1 : c.Kind ≥ 10
  · rw [if_neg hk0, if_pos hk1]; simp only [jn0_inr]; rw [if_neg (by omega), if_neg (by omega), if_neg (by omega), if_neg (by omega), if_neg (by omega), if_neg (by omega), if_neg (by omega), if_neg (by omega)]; rfl
  rw [if_neg hk0, if_neg hk1, jn0_inl, if_pos ⟨by omega, show c.Kind < 10 by omega⟩, if_pos hp, ob0_some]
  have hl : ¬ ((p.Funcs.length : Nat) : Int) < 0 := by omega
  have hK : (if c.K < 0 then (some (.inr false) : Option (Unit ⊕ Bool)) else (if c.K ≥ 16 then some (.inr false) else some (.inl ()))) = if bel c.K 16 = true then some (.inl ()) else some (.inr false) := by
    unfold bel
    by_cases h : c.K < 0
    · rw [if_pos h]; simp; omega
    · rw [if_neg h]
      by_cases h' : c.K ≥ 16
      · rw [if_pos h']; simp; omega
      · rw [if_neg h']; simp; omega
  unfold prog_fits
  rcases (by omega : c.Kind = 0 ∨ c.Kind = 1 ∨ c.Kind = 2 ∨ c.Kind = 3 ∨ c.Kind = 4 ∨ c.Kind = 5 ∨ c.Kind = 6 ∨ c.Kind = 7 ∨ c.Kind = 8 ∨ c.Kind = 9) with h | h | h | h | h | h | h | h | h | h
  · simp only [h, show (at_ gl1 (0 : Int).toNat) = ⟨1, 0, 0, 0, true⟩ from rfl]; simp [fits_ok]; cases bel c.A f.Regs <;> simp [ob1, jn0]
  · simp only [h, show (at_ gl1 (1 : Int).toNat) = ⟨1, 1, 0, 0, true⟩ from rfl]; simp [fits_ok]; cases bel c.A f.Regs <;> cases bel c.B f.Regs <;> simp [ob1, jn0]
  · simp only [h, show (at_ gl1 (2 : Int).toNat) = ⟨1, 1, 1, 5, true⟩ from rfl]; simp [fits_ok]; cases bel c.A f.Regs <;> cases bel c.B f.Regs <;> cases bel c.C f.Regs <;> simp [ob1, jn0, hK]; cases bel c.K 16 <;> simp
  · simp only [h, show (at_ gl1 (3 : Int).toNat) = ⟨3, 0, 0, 0, false⟩ from rfl]; simp [fits_ok]; cases bel c.A f.Code.length <;> simp [ob1, jn0]
  · simp only [h, show (at_ gl1 (4 : Int).toNat) = ⟨1, 3, 0, 0, true⟩ from rfl]; simp [fits_ok]; cases bel c.A f.Regs <;> cases bel c.B f.Code.length <;> simp [ob1, jn0]
  · simp only [h, show (at_ gl1 (5 : Int).toNat) = ⟨2, 4, 0, 0, true⟩ from rfl]; simp [fits_ok, hl, hp]
    cases hA : bel c.A f.Slots
    · simp [ob1, jn0]
    · cases hB : bel c.B p.Funcs.length
      · simp [ob1, jn0]
      · have hb' := bel_iff.1 hB
        have hg := hs _ (at_mem_ (l := p.Funcs) (i := c.B.toNat) (by omega))
        have := hg.p0
        have := hg.p8
        have := hf.r16
        have := hf.r1
        rw [wi_in (x := f.Regs - (at_ p.Funcs c.B.toNat).Params) (by omega)]
        have hir : inr_ c.B p.Funcs.length := ⟨hb'.1, hb'.2⟩
        simp [ob1, jn0]
        by_cases hn : (at_ p.Funcs c.B.toNat).Params = 0
        · simp [hn]; exact hir
        · simp [hn]; by_cases hc : 0 ≤ c.C <;> simp [hc] <;> exact hir
  · simp only [h, show (at_ gl1 (6 : Int).toNat) = ⟨0, 0, 0, 0, true⟩ from rfl]; simp [fits_ok, ob1, jn0]
  · simp only [h, show (at_ gl1 (7 : Int).toNat) = ⟨1, 2, 0, 0, true⟩ from rfl]; simp [fits_ok]; cases bel c.A f.Regs <;> cases bel c.B f.Slots <;> simp [ob1, jn0]
  · simp only [h, show (at_ gl1 (8 : Int).toNat) = ⟨1, 0, 0, 0, true⟩ from rfl]; simp [fits_ok]; cases bel c.A f.Regs <;> simp [ob1, jn0]
  · simp only [h, show (at_ gl1 (9 : Int).toNat) = ⟨1, 0, 0, 0, false⟩ from rfl]; simp [fits_ok]; cases bel c.A f.Regs <;> simp [ob1, jn0]
end
end Go.Proofs.YtpikpffbcjpmcaaGreatDoor.Mo
