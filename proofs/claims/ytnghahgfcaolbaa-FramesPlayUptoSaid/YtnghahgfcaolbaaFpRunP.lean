/- A play leaves one step less with each pick; the program's loop goes by the machine. -/
import Derived.Test.YtnghahgfcaolbaaFpLeftP
namespace Go.Proofs.Ytnghahgfcaolbaa.Mo
open Go Go.Proofs.Ytnghahgfcaolbaa.SL Go.Proofs.Ytnghahgfcaolbaa.GX
set_option linter.unusedVariables false
set_option linter.unusedSimpArgs false
section
variable {q : List Int} {F : Nat} {s : PM} {P : Int} {p : Nat}
theorem mode_eq {a b : Int} (h : Mode q F s a) (e : a = b) : Mode q F s b := e ▸ h
theorem note_inv (hi : Inv q F s) (hll : s.log.length < 1000000) (s1 : PM) (h1 : s1.rd = s.rd) (h2 : s1.marks = s.marks) (h3 : (s1.made : Int) ≤ s.made + 1) (h4 : (s1.taken : Int) ≤ F) (h5 : s1.holders = s.holders) (h6 : s1.reads.length = s.reads.length) (h7 : s1.live.length ≤ 10) (h8 : s1.log.length = s.log.length + 1) : Inv q F s1 :=
  ⟨hi.q8, hi.q64, hi.fr, by rw [h1]; exact hi.rd, by rw [h2]; exact hi.ml, fun f hf => by rw [h2, h8]; have := hi.mb f hf; omega, by have := hi.made; omega, h4, by rw [h5, h6]; exact hi.hr, by rw [h6]; exact hi.rl, h7, by omega⟩
theorem log1 {l : List T_api_Access} {x : T_api_Access} : (l ++ [x]).length = l.length + 1 := by rw [List.length_append]; rfl
set_option maxHeartbeats 1000000 in
theorem step_mode (hi : Inv q F s) (hm : Mode q F s P) (hd : s.done = false) (hp : p < s.live.length) (hll : s.log.length < 1000000) :
    Inv q F (s.step q p) ∧ Mode q F (s.step q p) (P - 1) ∧ (s.step q p).log.length = s.log.length + 1 := by
  obtain ⟨f1, f2⟩ := hi.f
  cases hm with
  | fin h => rw [hd] at h; cases h
  | ini0 x a1 a2 a3 a4 a5 a6 =>
    have hp0 := one_live a2 hp; subst hp0
    have hb : at_ s.live 0 = (x, .alloc0) := by rw [a2]; rfl
    have hst : s.step q 0 = (({ s with taken := s.taken + 1 } : PM).note x 3 0 1 ((s.taken : Int) + 1)).setb 0 .mark0 := by simp only [PM.step, hb]
    have hlv : ((({ s with taken := s.taken + 1 } : PM).note x 3 0 1 ((s.taken : Int) + 1)).setb 0 .mark0).live = [(x, .mark0)] := by
      show s.live.set 0 ((at_ s.live 0).1, Ab.mark0) = _
      rw [hb, a2]; rfl
    rw [hst]
    refine ⟨note_inv hi hll _ rfl rfl (by show (s.made : Int) ≤ (s.made : Int) + 1; omega) (by show ((s.taken + 1 : Nat) : Int) ≤ F; omega) rfl rfl (by rw [hlv]; simp) log1, ?_, log1⟩
    exact mode_eq (Mode.ini1 x a1 hlv (by show s.taken + 1 = 1; omega) a4 a5 a6) (by omega)
  | ini1 x a1 a2 a3 a4 a5 a6 =>
    have hp0 := one_live a2 hp; subst hp0
    have hb : at_ s.live 0 = (x, .mark0) := by rw [a2]; rfl
    have hst : s.step q 0 = (({ s with marks := s.marks.set 0 (at_ s.marks 0 + 1) } : PM).note x 3 2 1 (at_ s.marks 0 + 1)).enter q 0 := by simp only [PM.step, hb]
    have hi2 : Inv q F (({ s with marks := s.marks.set 0 (at_ s.marks 0 + 1) } : PM).note x 3 2 1 (at_ s.marks 0 + 1)) := by
      refine ⟨hi.q8, hi.q64, hi.fr, hi.rd, by show (s.marks.set _ _).length = F; rw [List.length_set]; exact hi.ml, fun f hf => ?_, by have := hi.made; show (s.made : Int) ≤ ((s.log ++ [_]).length : Int) + 1; rw [log1]; omega, hi.tk, hi.hr, hi.rl, hi.lv, by show (s.log ++ [_]).length ≤ _; rw [log1]; omega⟩
      show 0 ≤ at_ (s.marks.set 0 (at_ s.marks 0 + 1)) f ∧ at_ (s.marks.set 0 (at_ s.marks 0 + 1)) f ≤ ((s.log ++ [(⟨x, 3, 2, 1, at_ s.marks 0 + 1, true⟩ : T_api_Access)]).length : Int)
      rw [log1]
      have hb := hi.mb f hf
      by_cases e : f = 0
      · subst e; rw [at_set_same (by have := hi.ml; omega)]; omega
      · rw [at_set_ne (by omega)]; omega
    obtain ⟨b1, b2, b3, _⟩ := enter_mode hi2 hd (x := (x, .mark0)) a2 a5 (by show (s.taken : Int) = 1 + pre q s.rd; rw [a4, a3]; rfl) (by show s.reads.length = s.rd; omega)
    rw [hst]
    refine ⟨b1, mode_eq b2 (by show fut q s.rd = _; rw [a4]; omega), ?_⟩
    rw [b3]; exact log1
  | fa p0 a1 a2 a3 a4 a5 a6 a7 a8 a9 a10 =>
    have hn := hi.q8 s.rd a5
    by_cases e : p = p0
    · subst e
      have hst : s.step q p = (({ s with taken := s.taken + 1 } : PM).note (at_ s.live p).1 3 0 1 ((s.taken : Int) + 1)).setb p (.fork s.taken) := by simp only [PM.step, a3]
      have hpl := (pre_le hi.q8 (s.rd + 1)).1
      rw [pre_next a5] at hpl
      have hfr := hi.fr
      have hk := ksum_set s.live p ((at_ s.live p).1, .fork s.taken) hp
      have k0 : kw (at_ s.live p).2 = 0 := by rw [a3]; rfl
      have k1 : kw (.fork s.taken) = 0 := rfl
      rw [k0, k1] at hk
      rw [hst]
      refine ⟨note_inv hi hll _ rfl rfl (by show (s.made : Int) ≤ (s.made : Int) + 1; omega) (by show ((s.taken + 1 : Nat) : Int) ≤ F; omega) rfl rfl (by show (s.live.set _ _).length ≤ 10; rw [List.length_set]; exact hi.lv) log1, ?_, log1⟩
      refine mode_eq (Mode.ff (s := (({ s with taken := s.taken + 1 } : PM).note (at_ s.live p).1 3 0 1 ((s.taken : Int) + 1)).setb p (.fork s.taken)) p s.taken a1 (by show p < (s.live.set _ _).length; rw [List.length_set]; exact hp) (by show (at_ (s.live.set p ((at_ s.live p).1, .fork s.taken)) p).2 = _; rw [at_set_same hp]) (by omega) (fun i hi' he => ?_) a5 a6 (by show s.join = ((s.live.set _ _).length : Int); rw [List.length_set]; exact a7) (by show ((s.taken + 1 : Nat) : Int) = 2 + pre q s.rd + s.pos; omega) a9 (by show ((s.live.set _ _).length : Int) ≤ 1 + s.pos; rw [List.length_set]; exact a10)) (by show 5 * (at_ q s.rd - s.pos) + ksum (s.live.set p ((at_ s.live p).1, .fork s.taken)) + (1 + at_ q s.rd + fut q (s.rd + 1)) = _; omega)
      have hi'' : i < s.live.length := by have : i < (s.live.set p ((at_ s.live p).1, .fork s.taken)).length := hi'; rwa [List.length_set] at this
      show kok F (at_ (s.live.set p ((at_ s.live p).1, .fork s.taken)) i).2
      rw [at_set_ne (by omega)]; exact a4 i hi'' he
    · have hH : Hd F s.live p0 .alloc := ⟨a2, a3, a4⟩
      rcases kid_step hi hll hp (a4 p hp e) with ⟨b', c1, c2, c3, c4, c5, c6⟩ | ⟨k, v, c1, c2, c3, c4, c5, c6⟩ | ⟨k, v, c1, c2, _⟩
      · have hS := hH.set (x := (at_ s.live p).1) hp e c1
        have hk := ksum_set s.live p ((at_ s.live p).1, b') hp
        rw [← c2] at hS hk
        have hlen : (s.step q p).live.length = s.live.length := by rw [c2, List.length_set]
        refine ⟨c6, mode_eq (Mode.fa p0 (by rw [c5.done]; exact a1) hS.1 hS.2.1 hS.2.2 (by rw [c5.rd]; exact a5) (by rw [c5.pos, c5.rd]; exact a6) (by rw [c3, hlen]; exact a7) (by rw [c5.taken, c5.rd, c5.pos]; exact a8) (by rw [c5.reads, c5.rd]; exact a9) (by rw [hlen, c5.pos]; exact a10)) ?_, c5.log⟩
        rw [c5.rd, c5.pos]; simp only at hk; omega
      · obtain ⟨p1, hS⟩ := hH.erase hp e
        have hk := ksum_erase s.live p hp
        rw [c1] at hk
        rw [← c3] at hS hk
        have hlen : (s.step q p).live.length = s.live.length - 1 := by rw [c3, List.length_eraseIdx, if_pos hp]
        refine ⟨c6, mode_eq (Mode.fa p1 (by rw [c5.done]; exact a1) hS.1 hS.2.1 hS.2.2 (by rw [c5.rd]; exact a5) (by rw [c5.pos, c5.rd]; exact a6) (by rw [c4, hlen]; omega) (by rw [c5.taken, c5.rd, c5.pos]; exact a8) (by rw [c5.reads, c5.rd]; exact a9) (by rw [hlen, c5.pos]; omega)) ?_, c5.log⟩
        rw [c5.rd, c5.pos]; simp only [kw] at hk; omega
      · omega
  | ff p0 fr a1 a2 a3 a4 a5 a6 a7 a8 a9 a10 a11 =>
    have hn := hi.q8 s.rd a6
    by_cases e : p = p0
    · subst e
      have hst : s.step q p = ({ s with join := s.join + 1, live := s.live ++ [((s.made : Int), .start fr s.pos (100 * (s.rd : Int) + s.pos))], made := s.made + 1, pos := s.pos + 1, log := s.log ++ [⟨(at_ s.live p).1, 3, 1, 1, s.join + 1, true⟩] } : PM).setb p (if at_ q s.rd ≤ (s.pos : Int) + 1 then .sync else .alloc) := by simp only [PM.step, a3]
      have hlen2 : (s.live ++ [((s.made : Int), Ab.start fr s.pos (100 * (s.rd : Int) + s.pos))]).length = s.live.length + 1 := by rw [List.length_append]; rfl
      have hap : at_ (s.live ++ [((s.made : Int), Ab.start fr s.pos (100 * (s.rd : Int) + s.pos))]) p = at_ s.live p := at_app_ne _ hp
      have hks : ksum (s.live ++ [((s.made : Int), Ab.start fr s.pos (100 * (s.rd : Int) + s.pos))]) = ksum s.live + 3 := by rw [ksum_app]; rfl
      have main : ∀ b, kw b = 0 → Hd F ((s.live ++ [((s.made : Int), Ab.start fr s.pos (100 * (s.rd : Int) + s.pos))]).set p ((at_ (s.live ++ [((s.made : Int), Ab.start fr s.pos (100 * (s.rd : Int) + s.pos))]) p).1, b)) p b ∧ ksum ((s.live ++ [((s.made : Int), Ab.start fr s.pos (100 * (s.rd : Int) + s.pos))]).set p ((at_ (s.live ++ [((s.made : Int), Ab.start fr s.pos (100 * (s.rd : Int) + s.pos))]) p).1, b)) = ksum s.live + 3 := by
        intro b hb
        refine ⟨⟨by rw [List.length_set, hlen2]; omega, by rw [at_set_same (by rw [hlen2]; omega)], fun i hi' he => ?_⟩, ?_⟩
        · rw [List.length_set, hlen2] at hi'
          rw [at_set_ne (by omega)]
          by_cases e2 : i < s.live.length
          · rw [at_app_ne _ e2]; exact a5 i e2 he
          · have e3 : i = s.live.length := by omega
            subst e3
            rw [at_app]; exact ⟨a4, by omega⟩
        · have hk := ksum_set _ p ((at_ (s.live ++ [((s.made : Int), Ab.start fr s.pos (100 * (s.rd : Int) + s.pos))]) p).1, b) (by rw [hlen2]; omega : p < (s.live ++ [((s.made : Int), Ab.start fr s.pos (100 * (s.rd : Int) + s.pos))]).length)
          rw [hap, a3, hks] at hk
          simp only [hb] at hk
          have : kw (Ab.fork fr) = 0 := rfl
          rw [hap]; omega
      rw [hst]
      have hlv : ∀ b, ((({ s with join := s.join + 1, live := s.live ++ [((s.made : Int), .start fr s.pos (100 * (s.rd : Int) + s.pos))], made := s.made + 1, pos := s.pos + 1, log := s.log ++ [⟨(at_ s.live p).1, 3, 1, 1, s.join + 1, true⟩] } : PM).setb p b).live.length) = s.live.length + 1 := fun b => by
        show ((s.live ++ [_]).set _ _).length = _
        rw [List.length_set, hlen2]
      refine ⟨note_inv hi hll _ rfl rfl (by show ((s.made + 1 : Nat) : Int) ≤ (s.made : Int) + 1; omega) hi.tk rfl rfl (by rw [hlv]; omega) log1, ?_, log1⟩
      by_cases hq : at_ q s.rd ≤ (s.pos : Int) + 1
      · rw [if_pos hq]
        obtain ⟨m1, m2⟩ := main .sync rfl
        refine mode_eq (Mode.fs (s := ({ s with join := s.join + 1, live := s.live ++ [((s.made : Int), .start fr s.pos (100 * (s.rd : Int) + s.pos))], made := s.made + 1, pos := s.pos + 1, log := s.log ++ [⟨(at_ s.live p).1, 3, 1, 1, s.join + 1, true⟩] } : PM).setb p .sync) p a1 m1.1 m1.2.1 m1.2.2 a6 (by show ((s.pos + 1 : Nat) : Int) = at_ q s.rd; omega) (by rw [hlv]; show s.join + 1 = ((s.live.length + 1 : Nat) : Int); omega) (by show (s.taken : Int) = 1 + pre q s.rd + at_ q s.rd; omega) a10 (by rw [hlv]; show ((s.live.length + 1 : Nat) : Int) ≤ 1 + ((s.pos + 1 : Nat) : Int); omega)) ?_
        show 1 + ksum ((s.live ++ [((s.made : Int), Ab.start fr s.pos (100 * (s.rd : Int) + s.pos))]).set p ((at_ (s.live ++ [((s.made : Int), Ab.start fr s.pos (100 * (s.rd : Int) + s.pos))]) p).1, .sync)) + (1 + at_ q s.rd + fut q (s.rd + 1)) = _
        rw [m2]
        show 1 + (ksum s.live + 3) + (1 + at_ q s.rd + fut q (s.rd + 1)) = _
        omega
      · rw [if_neg hq]
        obtain ⟨m1, m2⟩ := main .alloc rfl
        refine mode_eq (Mode.fa (s := ({ s with join := s.join + 1, live := s.live ++ [((s.made : Int), .start fr s.pos (100 * (s.rd : Int) + s.pos))], made := s.made + 1, pos := s.pos + 1, log := s.log ++ [⟨(at_ s.live p).1, 3, 1, 1, s.join + 1, true⟩] } : PM).setb p .alloc) p a1 m1.1 m1.2.1 m1.2.2 a6 (by show ((s.pos + 1 : Nat) : Int) < at_ q s.rd; omega) (by rw [hlv]; show s.join + 1 = ((s.live.length + 1 : Nat) : Int); omega) (by show (s.taken : Int) = 1 + pre q s.rd + ((s.pos + 1 : Nat) : Int); omega) a10 (by rw [hlv]; show ((s.live.length + 1 : Nat) : Int) ≤ 1 + ((s.pos + 1 : Nat) : Int); omega)) ?_
        show 5 * (at_ q s.rd - ((s.pos + 1 : Nat) : Int)) + 1 + ksum ((s.live ++ [((s.made : Int), Ab.start fr s.pos (100 * (s.rd : Int) + s.pos))]).set p ((at_ (s.live ++ [((s.made : Int), Ab.start fr s.pos (100 * (s.rd : Int) + s.pos))]) p).1, .alloc)) + (1 + at_ q s.rd + fut q (s.rd + 1)) = _
        rw [m2]
        show 5 * (at_ q s.rd - ((s.pos + 1 : Nat) : Int)) + 1 + (ksum s.live + 3) + (1 + at_ q s.rd + fut q (s.rd + 1)) = _
        omega
    · have hH : Hd F s.live p0 (.fork fr) := ⟨a2, a3, a5⟩
      rcases kid_step hi hll hp (a5 p hp e) with ⟨b', c1, c2, c3, c4, c5, c6⟩ | ⟨k, v, c1, c2, c3, c4, c5, c6⟩ | ⟨k, v, c1, c2, _⟩
      · have hS := hH.set (x := (at_ s.live p).1) hp e c1
        have hk := ksum_set s.live p ((at_ s.live p).1, b') hp
        rw [← c2] at hS hk
        have hlen : (s.step q p).live.length = s.live.length := by rw [c2, List.length_set]
        refine ⟨c6, mode_eq (Mode.ff p0 fr (by rw [c5.done]; exact a1) hS.1 hS.2.1 a4 hS.2.2 (by rw [c5.rd]; exact a6) (by rw [c5.pos, c5.rd]; exact a7) (by rw [c3, hlen]; exact a8) (by rw [c5.taken, c5.rd, c5.pos]; exact a9) (by rw [c5.reads, c5.rd]; exact a10) (by rw [hlen, c5.pos]; exact a11)) ?_, c5.log⟩
        rw [c5.rd, c5.pos]; simp only at hk; omega
      · obtain ⟨p1, hS⟩ := hH.erase hp e
        have hk := ksum_erase s.live p hp
        rw [c1] at hk
        rw [← c3] at hS hk
        have hlen : (s.step q p).live.length = s.live.length - 1 := by rw [c3, List.length_eraseIdx, if_pos hp]
        refine ⟨c6, mode_eq (Mode.ff p1 fr (by rw [c5.done]; exact a1) hS.1 hS.2.1 a4 hS.2.2 (by rw [c5.rd]; exact a6) (by rw [c5.pos, c5.rd]; exact a7) (by rw [c4, hlen]; omega) (by rw [c5.taken, c5.rd, c5.pos]; exact a9) (by rw [c5.reads, c5.rd]; exact a10) (by rw [hlen, c5.pos]; omega)) ?_, c5.log⟩
        rw [c5.rd, c5.pos]; simp only [kw] at hk; omega
      · omega
  | fs p0 a1 a2 a3 a4 a5 a6 a7 a8 a9 a10 =>
    have hn := hi.q8 s.rd a5
    have hH : Hd F s.live p0 .sync := ⟨a2, a3, a4⟩
    by_cases e : p = p0
    · subst e
      by_cases hz : s.join - 1 = 0
      · have hst : s.step q p = (({ s with join := s.join - 1 } : PM).note (at_ s.live p).1 3 1 (-1) (s.join - 1)).setb p .back := by simp only [PM.step, a3, if_pos hz]
        have hl1 : s.live.length = 1 := by omega
        obtain ⟨y, hy⟩ : ∃ y, s.live = [y] := List.length_eq_one_iff.1 hl1
        have hp0 := one_live hy hp; subst hp0
        have hks : ksum s.live = 0 := by
          rw [hy, ksum_cons]
          have : (at_ s.live 0) = y := by rw [hy]; rfl
          rw [← this, a3]; rfl
        have hlv : ((({ s with join := s.join - 1 } : PM).note (at_ s.live 0).1 3 1 (-1) (s.join - 1)).setb 0 .back).live = [((at_ s.live 0).1, .back)] := by
          show s.live.set 0 ((at_ s.live 0).1, Ab.back) = _
          rw [hy]; rfl
        rw [hst]
        refine ⟨note_inv hi hll _ rfl rfl (Int.le_add_one (Int.le_refl _)) hi.tk rfl rfl (by rw [hlv]; simp) log1, mode_eq (Mode.l _ _ a1 hlv (.inl rfl) a5 a6 hz a8 a9) ?_, log1⟩
        show 1 + at_ q s.rd + fut q (s.rd + 1) = _
        omega
      · have hst : s.step q p = ({ s with join := s.join - 1, live := s.live.eraseIdx p } : PM).note (at_ s.live p).1 3 1 (-1) (s.join - 1) := by simp only [PM.step, a3, if_neg hz]
        have hk := ksum_erase s.live p hp
        have k0 : kw (at_ s.live p).2 = 0 := by rw [a3]; rfl
        have hlen : (s.live.eraseIdx p).length = s.live.length - 1 := by rw [List.length_eraseIdx, if_pos hp]
        rw [hst]
        refine ⟨note_inv hi hll _ rfl rfl (Int.le_add_one (Int.le_refl _)) hi.tk rfl rfl (by show (s.live.eraseIdx p).length ≤ 10; have := hi.lv; omega) log1, mode_eq (Mode.w (s := ({ s with join := s.join - 1, live := s.live.eraseIdx p } : PM).note (at_ s.live p).1 3 1 (-1) (s.join - 1)) a1 (by show 0 < (s.live.eraseIdx p).length; omega) hH.gone a5 a6 (by show s.join - 1 = ((s.live.eraseIdx p).length : Int); omega) a8 a9 (by show ((s.live.eraseIdx p).length : Int) ≤ 1 + s.pos; omega)) ?_, log1⟩
        show ksum (s.live.eraseIdx p) + (1 + at_ q s.rd + fut q (s.rd + 1)) = _
        omega
    · rcases kid_step hi hll hp (a4 p hp e) with ⟨b', c1, c2, c3, c4, c5, c6⟩ | ⟨k, v, c1, c2, c3, c4, c5, c6⟩ | ⟨k, v, c1, c2, _⟩
      · have hS := hH.set (x := (at_ s.live p).1) hp e c1
        have hk := ksum_set s.live p ((at_ s.live p).1, b') hp
        rw [← c2] at hS hk
        have hlen : (s.step q p).live.length = s.live.length := by rw [c2, List.length_set]
        refine ⟨c6, mode_eq (Mode.fs p0 (by rw [c5.done]; exact a1) hS.1 hS.2.1 hS.2.2 (by rw [c5.rd]; exact a5) (by rw [c5.pos, c5.rd]; exact a6) (by rw [c3, hlen]; exact a7) (by rw [c5.taken, c5.rd]; exact a8) (by rw [c5.reads, c5.rd]; exact a9) (by rw [hlen, c5.pos]; exact a10)) ?_, c5.log⟩
        rw [c5.rd]; simp only at hk; omega
      · obtain ⟨p1, hS⟩ := hH.erase hp e
        have hk := ksum_erase s.live p hp
        rw [c1] at hk
        rw [← c3] at hS hk
        have hlen : (s.step q p).live.length = s.live.length - 1 := by rw [c3, List.length_eraseIdx, if_pos hp]
        refine ⟨c6, mode_eq (Mode.fs p1 (by rw [c5.done]; exact a1) hS.1 hS.2.1 hS.2.2 (by rw [c5.rd]; exact a5) (by rw [c5.pos, c5.rd]; exact a6) (by rw [c4, hlen]; omega) (by rw [c5.taken, c5.rd]; exact a8) (by rw [c5.reads, c5.rd]; exact a9) (by rw [hlen, c5.pos]; omega)) ?_, c5.log⟩
        rw [c5.rd]; simp only [kw] at hk; omega
      · omega
  | w a1 a2 a3 a4 a5 a6 a7 a8 a9 =>
    have hn := hi.q8 s.rd a4
    have hK : Kd F s.live := a3
    rcases kid_step hi hll hp (a3 p hp) with ⟨b', c1, c2, c3, c4, c5, c6⟩ | ⟨k, v, c1, c2, c3, c4, c5, c6⟩ | ⟨k, v, c1, c2, c3, c4, c5, c6⟩
    · have hS := hK.set (p := p) (x := (at_ s.live p).1) c1
      have hk := ksum_set s.live p ((at_ s.live p).1, b') hp
      rw [← c2] at hS hk
      have hlen : (s.step q p).live.length = s.live.length := by rw [c2, List.length_set]
      refine ⟨c6, mode_eq (Mode.w (by rw [c5.done]; exact a1) (by rw [hlen]; exact a2) hS (by rw [c5.rd]; exact a4) (by rw [c5.pos, c5.rd]; exact a5) (by rw [c3, hlen]; exact a6) (by rw [c5.taken, c5.rd]; exact a7) (by rw [c5.reads, c5.rd]; exact a8) (by rw [hlen, c5.pos]; exact a9)) ?_, c5.log⟩
      rw [c5.rd]; simp only at hk; omega
    · have hS := hK.erase hp
      have hk := ksum_erase s.live p hp
      rw [c1] at hk
      rw [← c3] at hS hk
      have hlen : (s.step q p).live.length = s.live.length - 1 := by rw [c3, List.length_eraseIdx, if_pos hp]
      refine ⟨c6, mode_eq (Mode.w (by rw [c5.done]; exact a1) (by rw [hlen]; omega) hS (by rw [c5.rd]; exact a4) (by rw [c5.pos, c5.rd]; exact a5) (by rw [c4, hlen]; omega) (by rw [c5.taken, c5.rd]; exact a7) (by rw [c5.reads, c5.rd]; exact a8) (by rw [hlen, c5.pos]; omega)) ?_, c5.log⟩
      rw [c5.rd]; simp only [kw] at hk; omega
    · have hl1 : s.live.length = 1 := by omega
      obtain ⟨y, hy⟩ : ∃ y, s.live = [y] := List.length_eq_one_iff.1 hl1
      have hp0 := one_live hy hp; subst hp0
      have hks : ksum s.live = 1 := by
        rw [hy, ksum_cons]
        have : (at_ s.live 0) = y := by rw [hy]; rfl
        rw [← this, c1]; rfl
      have hlv : (s.step q 0).live = [((at_ s.live 0).1, .last k v)] := by rw [c3, hy]; rfl
      refine ⟨c6, mode_eq (Mode.l _ _ (by rw [c5.done]; exact a1) hlv (.inr ⟨k, v, rfl⟩) (by rw [c5.rd]; exact a4) (by rw [c5.pos, c5.rd]; exact a5) (by rw [c4]; exact c2) (by rw [c5.taken, c5.rd]; exact a7) (by rw [c5.reads, c5.rd]; exact a8)) ?_, c5.log⟩
      rw [c5.rd]; omega
  | l x b a1 a2 a3 a4 a5 a6 a7 a8 =>
    have hp0 := one_live a2 hp; subst hp0
    have hb : at_ s.live 0 = (x, b) := by rw [a2]; rfl
    have hst : s.step q 0 = (({ s with join := 1 } : PM).note x 1 1 1 0).hold q 0 := by
      rcases a3 with rfl | ⟨k, v, rfl⟩ <;> simp only [PM.step, hb]
    have hi2 : Inv q F (({ s with join := 1 } : PM).note x 1 1 1 0) := note_inv hi hll _ rfl rfl (Int.le_add_one (Int.le_refl _)) hi.tk rfl rfl hi.lv log1
    obtain ⟨b1, b2, b3⟩ := hold_mode hi2 hd (x := (x, b)) a2 rfl a4 a7 a8
    rw [hst]
    refine ⟨b1, mode_eq b2 (by show at_ q s.rd + fut q (s.rd + 1) = _; omega), ?_⟩
    rw [b3]; exact log1
  | r x a1 a2 a3 a4 a5 a6 a7 a8 =>
    have hp0 := one_live a2 hp; subst hp0
    have hb : at_ s.live 0 = (x, .read) := by rw [a2]; rfl
    have hst : s.step q 0 = (({ s with reads := s.reads.set (s.reads.length - 1) (at_ s.reads (s.reads.length - 1) ++ [at_ s.slots s.pos]), pos := s.pos + 1 } : PM).note x 0 (3 + (s.pos : Int)) (at_ s.slots s.pos) 0).rdg q 0 := by simp only [PM.step, hb]
    have hlr : s.reads.length - 1 = s.rd := by omega
    have hi2 : Inv q F (({ s with reads := s.reads.set (s.reads.length - 1) (at_ s.reads (s.reads.length - 1) ++ [at_ s.slots s.pos]), pos := s.pos + 1 } : PM).note x 0 (3 + (s.pos : Int)) (at_ s.slots s.pos) 0) := note_inv hi hll _ rfl rfl (Int.le_add_one (Int.le_refl _)) hi.tk rfl (by show (s.reads.set _ _).length = _; rw [List.length_set]) hi.lv log1
    obtain ⟨b1, b2, b3, _⟩ := rdg_mode hi2 hd (x := (x, .read)) a2 a5 a3 (by show ((s.pos + 1 : Nat) : Int) ≤ at_ q s.rd; omega) a6 (by show (s.reads.set _ _).length = s.rd + 1; rw [List.length_set]; exact a7) (by
      show (at_ (s.reads.set (s.reads.length - 1) (at_ s.reads (s.reads.length - 1) ++ [at_ s.slots s.pos])) s.rd).length = s.pos + 1
      rw [hlr, at_set_same (by omega), List.length_append, a8]; rfl)
    rw [hst]
    refine ⟨b1, mode_eq b2 (by show at_ q s.rd - ((s.pos + 1 : Nat) : Int) + fut q (s.rd + 1) = _; omega), ?_⟩
    rw [b3]; exact log1
end
end Go.Proofs.Ytnghahgfcaolbaa.Mo
