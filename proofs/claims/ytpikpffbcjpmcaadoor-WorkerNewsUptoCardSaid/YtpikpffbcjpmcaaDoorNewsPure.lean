/- WorkerNews answers true. No memory is spoken of. -/
import Derived.Test.YtpikpffbcjpmcaaDoorTwin
namespace Go.Proofs.YtpikpffbcjpmcaaDoor.Mo
open Go Go.Proofs.YtpikpffbcjpmcaaDoor.SL Go.Proofs.YtpikpffbcjpmcaaDoor.GX
set_option linter.unusedVariables false
set_option linter.unusedSimpArgs false
set_option maxRecDepth 100000
section
variable {K : Nat}
theorem la1 {F : Nat} (hF : F ≤ 4096) {lim : T_api_Limits} (hL : lim.Frames = F) : ∀ (d k i : Nat) (l : List T_api_Access), i + d = F → d < k → l.length = i + 2 → plunderlaw11_laid_l1 K lim k l (i : Int) = some (l ++ stF 0 i d)
  | d, k, i, l, hd, hk, hl => by
    obtain ⟨k, rfl⟩ : ∃ m, k = m + 1 := ⟨k - 1, by omega⟩
    rw [plunderlaw11_laid_l1, hL]
    by_cases hi : i < F
    · obtain ⟨d, rfl⟩ : ∃ m, d = m + 1 := ⟨d - 1, by omega⟩
      rw [if_pos (by omega), if_pos (by omega), wi_in (x := (10 : Int) * (i : Int)) (by omega), wi_in (x := (2 : Int) + 10 * (i : Int)) (by omega), wiN (by omega), la1 hF hL d k (i + 1) _ (by omega) (by omega) (by simp [hl]), stF, List.append_assoc]; rfl
    · rw [if_neg (by omega)]
      obtain rfl : d = 0 := by omega
      rw [stF, List.append_nil]
theorem la2 {N : Nat} (hN : N ≤ 64) {lim : T_api_Limits} (h1 : 1 ≤ lim.First) (h2 : lim.First ≤ 4096) : ∀ (d k i : Nat) (l : List T_api_Access) (x : Int), i + d = N → d < k → l.length ≤ 10000 + 3 * i → 0 ≤ x → x ≤ 100000 + i * 10000 → plunderlaw11_laid_l2 K (N : Int) lim k l x (i : Int) = some (l ++ dqL 0 lim.First x d)
  | d, k, i, l, x, hd, hk, hl, hx, hx2 => by
    obtain ⟨k, rfl⟩ : ∃ m, k = m + 1 := ⟨k - 1, by omega⟩
    rw [plunderlaw11_laid_l2]
    by_cases hi : i < N
    · obtain ⟨d, rfl⟩ : ∃ m, d = m + 1 := ⟨d - 1, by omega⟩
      rw [if_pos (by omega), if_pos (by omega), if_pos (by rw [List.length_append, List.length_singleton]; omega), if_pos (by rw [List.length_append, List.length_append, List.length_singleton, List.length_singleton]; omega), wi_in (x := 4 + lim.First) (by omega), wi_in (x := x + 2) (by omega), wi_in (x := x + 3) (by omega), wi_in (x := x + 4) (by omega), wi_in (x := x + 4 + lim.First) (by omega), wiN (by omega),
        la2 hN h1 h2 d k (i + 1) _ _ (by omega) (by omega) (by simp; omega) (by omega) (by omega), dqL, show x + 4 + lim.First = x + (4 + lim.First) by omega]
      simp only [List.append_assoc, List.cons_append, List.nil_append]
    · rw [if_neg (by omega)]
      obtain rfl : d = 0 := by omega
      rw [dqL, List.append_nil]
theorem la3 {sz : Int} (hsz : 0 ≤ sz) {m : List T_api_Access} (hm : (m ++ [(⟨0, 3, 1, 1, 1, true⟩ : T_api_Access)]).length ≤ 100000) (hb : ∀ x ∈ m ++ [(⟨0, 3, 1, 1, 1, true⟩ : T_api_Access)], 0 ≤ x.Addr ∧ x.Addr ≤ 100000000 ∧ 0 ≤ x.A ∧ x.A ≤ 100000000) : ∀ (d k i : Nat), i + d = (m ++ [(⟨0, 3, 1, 1, 1, true⟩ : T_api_Access)]).length → d < k →
    plunderlaw11_laid_l3 K sz m k (i : Int) = some ((m ++ [(⟨0, 3, 1, 1, 1, true⟩ : T_api_Access)]).take i ++ cutL sz ((m ++ [(⟨0, 3, 1, 1, 1, true⟩ : T_api_Access)]).drop i))
  | d, k, i, hd, hk => by
    obtain ⟨k, rfl⟩ : ∃ m, k = m + 1 := ⟨k - 1, by omega⟩
    rw [plunderlaw11_laid_l3]
    generalize hq : m ++ [(⟨0, 3, 1, 1, 1, true⟩ : T_api_Access)] = q at *
    by_cases hi : i < q.length
    · obtain ⟨d, rfl⟩ : ∃ m, d = m + 1 := ⟨d - 1, by omega⟩
      have ih := la3 hsz (m := m) (by rw [hq]; exact hm) (by rw [hq]; exact hb) d k (i + 1) (by rw [hq]; omega) (by omega)
      rw [hq] at ih
      obtain ⟨b1, b2, b3, b4⟩ := hb _ (at_mem_ hi)
      have ht : q.take (i + 1) = q.take i ++ [at_ q i] := by
        rw [List.take_add_one, List.getElem?_eq_getElem hi]; unfold at_; rw [List.getD_eq_getElem?_getD, List.getElem?_eq_getElem hi]; rfl
      rw [if_pos (by omega), if_pos ⟨by omega, by omega⟩, Int.toNat_natCast, wi_in (x := (at_ q i).Addr + (at_ q i).A) (by omega), wiN (by omega), drop_at hi, cutL]
      by_cases e : (at_ q i).Kind = 4
      · rw [if_pos e]
        by_cases e2 : (at_ q i).Addr + (at_ q i).A > sz
        · rw [if_pos e2, if_pos ⟨by omega, by omega⟩, if_pos ⟨e, e2⟩, List.append_nil]
        · rw [if_neg e2, if_neg (fun h => e2 h.2), ih, ht, List.append_assoc]; rfl
      · rw [if_neg e, if_neg (fun h => e h.1), ih, ht, List.append_assoc]; rfl
    · rw [if_neg (by omega), List.drop_of_length_le (by omega), List.take_of_length_le (by omega), cutL, List.append_nil]
theorem stF_b {a : Int} : ∀ (d i : Nat), i + d ≤ 4096 → ∀ x ∈ stF a i d, 0 ≤ x.Addr ∧ x.Addr ≤ 100000000 ∧ 0 ≤ x.A ∧ x.A ≤ 100000000
  | 0, i, _, x, h => by simp [stF] at h
  | d + 1, i, hi, x, h => by
    rcases List.mem_cons.1 h with rfl | h
    · exact ⟨by show (0 : Int) ≤ 2 + 10 * (i : Int); omega, by show (2 : Int) + 10 * (i : Int) ≤ 100000000; omega, by show (0 : Int) ≤ 1; decide, by show (1 : Int) ≤ 100000000; decide⟩
    · exact stF_b d (i + 1) (by omega) x h
theorem dqL_b {a first : Int} (h1 : 1 ≤ first) (h2 : first ≤ 4096) : ∀ (d : Nat) (at_ : Int), 0 ≤ at_ → at_ + d * 10000 ≤ 10000000 → ∀ x ∈ dqL a first at_ d, 0 ≤ x.Addr ∧ x.Addr ≤ 100000000 ∧ 0 ≤ x.A ∧ x.A ≤ 100000000
  | 0, y, _, _, x, h => by simp [dqL] at h
  | d + 1, y, h0, hy, x, h => by
    rcases List.mem_cons.1 h with rfl | h
    · exact ⟨h0, by show y ≤ 100000000; omega, by show (0 : Int) ≤ 4 + first; omega, by show 4 + first ≤ 100000000; omega⟩
    · rcases List.mem_cons.1 h with rfl | h
      · exact ⟨by show 0 ≤ y + 2; omega, by show y + 2 ≤ 100000000; omega, by show (0 : Int) ≤ y + 3; omega, by show y + 3 ≤ 100000000; omega⟩
      · rcases List.mem_cons.1 h with rfl | h
        · exact ⟨by show 0 ≤ y + 3; omega, by show y + 3 ≤ 100000000; omega, by show (0 : Int) ≤ first; omega, by show first ≤ 100000000; omega⟩
        · exact dqL_b h1 h2 d (y + (4 + first)) (by omega) (by omega) x h
theorem laid_ok {sz : Int} (hsz : 0 ≤ sz) {N F : Nat} {lim : T_api_Limits} (hl : Lim lim.Frames lim.First lim.Most) (hF : lim.Frames = F) (hN1 : 1 ≤ N) (hN : N ≤ 64) (hK : 200000 < K) : plunderlaw11_laid K sz (N : Int) lim = some (cutL sz (laidL 0 N F lim.First)) := by
  have f2 := hl.f2
  have a1 := hl.a1
  have a2 := hl.a2
  have m2 := hl.m2
  unfold plunderlaw11_laid
  rw [hF, wi_in (x := (10 : Int) * (F : Int)) (by omega), wi_in (x := (1 : Int) + 10 * (F : Int)) (by omega), wi_in (x := (2 : Int) + 10 * (F : Int)) (by omega), wi_in (x := (2 : Int) + (N : Int)) (by omega), wi_in (x := (2 : Int) + 10 * (F : Int) + 2) (by omega), wi_in (x := (2 : Int) + 10 * (F : Int) + 2 + (N : Int)) (by omega)]
  have e1 := la1 (K := K) (F := F) (by omega) hF F K 0 ((([] : List T_api_Access) ++ [(⟨0, 4, 0, 1, 0, true⟩ : T_api_Access)]) ++ [(⟨0, 4, 1, 1 + 10 * (F : Int), 0, true⟩ : T_api_Access)]) (by omega) (by omega) rfl
  rw [Int.ofNat_zero] at e1
  rw [if_pos (by simp), if_pos (by simp), e1, ob1_some, if_pos (by simp [stF_len]; omega)]
  have e2 := la2 (K := K) hN a1 (by omega) N K 0 (((([] : List T_api_Access) ++ [(⟨0, 4, 0, 1, 0, true⟩ : T_api_Access)]) ++ [(⟨0, 4, 1, 1 + 10 * (F : Int), 0, true⟩ : T_api_Access)]) ++ stF 0 0 F ++ [(⟨0, 4, 2 + 10 * (F : Int), 2 + (N : Int), 0, true⟩ : T_api_Access)]) (2 + 10 * (F : Int) + 2 + (N : Int)) (by omega) (by omega) (by simp [stF_len]; omega) (by omega) (by omega)
  rw [Int.ofNat_zero] at e2
  rw [e2, ob1_some, if_pos (by simp [stF_len, dqL_len]; omega)]
  have hq : ((((([] : List T_api_Access) ++ [(⟨0, 4, 0, 1, 0, true⟩ : T_api_Access)]) ++ [(⟨0, 4, 1, 1 + 10 * (F : Int), 0, true⟩ : T_api_Access)]) ++ stF 0 0 F ++ [(⟨0, 4, 2 + 10 * (F : Int), 2 + (N : Int), 0, true⟩ : T_api_Access)]) ++ dqL 0 lim.First (2 + 10 * (F : Int) + 2 + (N : Int)) N) ++ [(⟨0, 3, 1, 1, 1, true⟩ : T_api_Access)] = laidL 0 N F lim.First := by
    rw [laidL, show ((4 + 10 * F + N : Nat) : Int) = 2 + 10 * (F : Int) + 2 + (N : Int) by omega]
    simp only [List.nil_append, List.append_assoc, List.cons_append]
  have hlen : (laidL 0 N F lim.First).length = F + 3 * N + 4 := by
    rw [laidL]; simp [stF_len, dqL_len]; omega
  have e3 := la3 (K := K) hsz (m := (((([] : List T_api_Access) ++ [(⟨0, 4, 0, 1, 0, true⟩ : T_api_Access)]) ++ [(⟨0, 4, 1, 1 + 10 * (F : Int), 0, true⟩ : T_api_Access)]) ++ stF 0 0 F ++ [(⟨0, 4, 2 + 10 * (F : Int), 2 + (N : Int), 0, true⟩ : T_api_Access)]) ++ dqL 0 lim.First (2 + 10 * (F : Int) + 2 + (N : Int)) N) (by rw [hq, hlen]; omega) (fun x hx => by
    rw [hq, laidL] at hx
    simp only [List.cons_append, List.nil_append, List.mem_cons, List.mem_append, List.not_mem_nil, or_false] at hx
    rcases hx with rfl | rfl | hx | rfl | hx | rfl
    · simp
    · simp; omega
    · exact stF_b F 0 (by omega) x hx
    · simp; omega
    · exact dqL_b a1 (by omega) N _ (by omega) (by omega) x hx
    · simp) _ K 0 (Nat.zero_add _) (by rw [hq, hlen]; omega)
  rw [Int.ofNat_zero, hq, List.take_zero, List.drop_zero, List.nil_append] at e3
  exact e3
theorem wnew_at {p : T_api_Program} {args : List Int} {N F W : Nat} {most : Int} {i : Nat} (hi : i < N) : at_ (wNew p args N F W most).workers i = if i = 0 then { actor0 0 with frame := 0, from_ := -1, about := 0 } else actor0 i := by
  show at_ ((actors 0 N).set 0 _) i = _
  rw [setat (by rw [actors_len]; omega)]
  split
  · rfl
  · rw [actors_at N 0 i hi, Nat.zero_add]
theorem wnew_len {p : T_api_Program} {args : List Int} {N F W : Nat} {most : Int} : (wNew p args N F W most).workers.length = N := by
  show ((actors 0 N).set 0 _).length = N
  rw [List.length_set, actors_len]
theorem holds0 {p : T_api_Program} {args : List Int} {N F W : Nat} {most : Int} {S : T_cells_Arena} {lim : T_api_Limits} {c : List Int} {fs : List T_api_Func} {ds : List Int} (hN : N ≤ 64) {i : Nat} (hi : i < N) :
    worker_World_Halted (wNew p args N F W most) S (i : Int) = some false ∧ ∃ x, worker_World_Holds (wNew p args N F W most) S (i : Int) = some x ∧ plunderref11_World_Holds (rNew p args N F lim c) fs ds (i : Int) = some x := by
  unfold worker_World_Halted worker_World_Holds plunderref11_World_Holds
  have hir : inr_ (i : Int) (wNew p args N F W most).workers.length := ⟨by omega, by rw [wnew_len]; omega⟩
  have hir2 : inr_ (i : Int) (rNew p args N F lim c).Workers.length := ⟨by omega, by show (i : Int) < (((List.replicate N rWk0).set 0 _).length : Nat); rw [List.length_set, List.length_replicate]; omega⟩
  rw [if_pos (show (i : Int) ≥ 0 by omega), if_pos (show (i : Int) < (((wNew p args N F W most).workers.length : Nat) : Int) by rw [wnew_len]; omega), if_pos hir, if_neg (show ¬ (i : Int) < 0 by omega), if_neg (show ¬ (i : Int) ≥ (((wNew p args N F W most).workers.length : Nat) : Int) by rw [wnew_len]; omega), if_pos hir, if_neg (show ¬ (i : Int) < 0 by omega), if_neg (show ¬ (i : Int) ≥ (rNew p args N F lim c).N by show ¬ (i : Int) ≥ (N : Int); omega), if_pos hir2, Int.toNat_natCast, wnew_at hi]
  have hr : at_ (rNew p args N F lim c).Workers i = if i = 0 then { rWk0 with Frame := 0, Now_K := 2, Now_A := 0, Now_B := -1, Now_C := 0 } else rWk0 := by
    show at_ ((List.replicate N rWk0).set 0 _) i = _
    rw [setat (by rw [List.length_replicate]; omega)]
    split
    · rfl
    · exact at_reps hi
  rw [hr]
  by_cases e : i = 0
  · subst e; exact ⟨rfl, 0, rfl, rfl⟩
  · rw [if_neg e, if_neg e]; exact ⟨rfl, -1, rfl, rfl⟩
theorem news_l {c : T_plunderlaw11_Case} {S : T_cells_Arena} {N F W : Nat} {most : Int} {lim : T_api_Limits} {cs : List Int} {p : T_api_Program} {args : List Int} (hN : N ≤ 64) (hw : c.Workers = N) : ∀ (d k i : Nat), i + d = N → d < k → plunderlaw11_WorkerNews_l1 K c S (wNew p args N F W most) (rNew p args N F lim cs) k (i : Int) = some (.inl ())
  | d, k, i, hd, hk => by
    obtain ⟨k, rfl⟩ : ∃ m, k = m + 1 := ⟨k - 1, by omega⟩
    rw [plunderlaw11_WorkerNews_l1, hw]
    by_cases hi : i < N
    · obtain ⟨d, rfl⟩ : ∃ m, d = m + 1 := ⟨d - 1, by omega⟩
      obtain ⟨h1, x, h2, h3⟩ := holds0 (p := p) (args := args) (F := F) (W := W) (most := most) (S := S) (lim := lim) (c := cs) (fs := c.P_Funcs) (ds := []) hN hi
      rw [if_pos (by omega), h1, ob1_some, if_neg (by decide), h2, ob1_some, h3, ob1_some, if_pos rfl, wiN (by omega)]
      exact news_l hN hw d k (i + 1) (by omega) (by omega)
    · rw [if_neg (by omega)]
theorem first_ok {N F W : Nat} {lim : T_api_Limits} (hl : Lim lim.Frames lim.First lim.Most) (hF : lim.Frames = F) (hN : N ≤ 64) (hW : (W : Int) = 4 + lim.First) : plunderlaw11_first (N : Int) lim = some ((4 + 10 * F + N + N * W : Nat) : Int) := by
  have f2 := hl.f2
  have a1 := hl.a1
  have a2 := hl.a2
  have m2 := hl.m2
  have hNW : N * W ≤ 64 * 4100 := Nat.mul_le_mul hN (by omega)
  have e : (N : Int) * (W : Int) = ((N * W : Nat) : Int) := by simp
  unfold plunderlaw11_first
  rw [hF, wi_in (x := (10 : Int) * (F : Int)) (by omega), wi_in (x := (2 : Int) + 10 * (F : Int)) (by omega), wi_in (x := (2 : Int) + 10 * (F : Int) + 2) (by omega), wi_in (x := (2 : Int) + 10 * (F : Int) + 2 + (N : Int)) (by omega), wi_in (x := 4 + lim.First) (by omega), ← hW, e, wi_in (x := ((N * W : Nat) : Int)) (by omega), wi_in (by omega)]
  congr 1; omega
theorem alog_ok {S : T_cells_Arena} (h : S.log.length ≤ 1000000000) : cells_Arena_Log S = some S.log := by
  unfold cells_Arena_Log
  rw [if_pos ⟨by omega, by omega⟩, if_pos (by simp)]
theorem acells_ok {S : T_cells_Arena} (h : S.cell.length ≤ 1000000000) : cells_Arena_Cells S = some S.cell := by
  unfold cells_Arena_Cells
  rw [if_pos ⟨by omega, by omega⟩, if_pos (by simp)]
theorem news_true (size : Int) {c : T_plunderlaw11_Case} (h : Small c) (hK : 4000000 < K) : plunderlaw11_WorkerNews K size c = some true := by
  unfold plunderlaw11_WorkerNews worker_New
  rw [ob1_some, if_pos rfl]
  by_cases s0 : size < 0
  · rw [if_pos s0, jn0_inr]
  rw [if_neg s0]
  by_cases s1 : size > 1048576
  · rw [if_pos s1, jn0_inr]
  rw [if_neg s1, jn0_inl]
  unfold cells_New cells_good
  rw [if_pos (show size ≥ 0 by omega), decide_eq_true (show size ≤ 1048576 by omega), ob1_some, if_pos rfl, ob2_some]
  dsimp only
  obtain ⟨e, r1, r2, r3, r4⟩ := refuse_ok (K := K) ⟨c.P_Funcs⟩ c.Args c.Workers ⟨c.Lim_Frames, c.Lim_First, c.Lim_Most⟩ (by omega)
  rw [r1, ob1_some]
  unfold cells_Arena_Watch
  by_cases he : e = 0
  · subst he
    obtain ⟨hv, ha, hn1, hn2, hl⟩ := r4 rfl
    obtain ⟨N, hN⟩ : ∃ N : Nat, c.Workers = N := ⟨c.Workers.toNat, by omega⟩
    have f1 := hl.f1
    have f2 := hl.f2
    have a1 := hl.a1
    have a2 := hl.a2
    have m2 := hl.m2
    simp only at f1 f2 a1 a2 m2
    obtain ⟨F, hF⟩ : ∃ F : Nat, c.Lim_Frames = F := ⟨c.Lim_Frames.toNat, by omega⟩
    obtain ⟨W, hW⟩ : ∃ W : Nat, (W : Int) = 4 + c.Lim_First := ⟨(4 + c.Lim_First).toNat, by omega⟩
    have hNW : N * W ≤ 64 * 4100 := Nat.mul_le_mul (by omega) (by omega)
    rw [hN] at r2 hn1 hn2 ⊢
    rw [if_pos rfl, first_ok (lim := ⟨c.Lim_Frames, c.Lim_First, c.Lim_Most⟩) hl hF (by omega) hW, ob1_some]
    obtain ⟨n1, n2⟩ := new_ok (K := K) (sz := size) (a := 0) (w := true) (N := N) (F := F) (W := W) hv ha hl hF (by omega) (by omega) hW (by omega) (by omega) (by omega) r2
    have hll : (laidL 0 N F c.Lim_First).length ≤ 10000 := by
      rw [laidL]; simp [stF_len, dqL_len]; omega
    by_cases hf : ((4 + 10 * F + N + N * W : Nat) : Int) ≤ size
    · rw [if_neg (show ¬ size < ((4 + 10 * F + N + N * W : Nat) : Int) by omega), ob1_some, ob1_some, twin_ok h (by omega), ob1_some, hN]
      obtain ⟨cs, e1, e2, e3⟩ := n1 hf
      obtain ⟨cr, g1, g2⟩ := rnew_ok (K := K) (p := ⟨c.P_Funcs⟩) (args := c.Args) (ds := []) (N := N) (F := F) (W := W) (lim := ⟨c.Lim_Frames, c.Lim_First, c.Lim_Most⟩) hv ha hl hF (by omega) (by omega) hW (by omega)
      obtain rfl : cs = cr := e3.eq (by omega) g2
      have hcl := e3.len
      dsimp only at e1 e2 hcl
      rw [show (⟨size, 0, ([] : List Int), ([] : List T_api_Access), 0, true⟩ : T_cells_Arena) = ar size [] [] 0 true from rfl, e1, ob3_some]
      dsimp only
      have nl := news_l (K := K) (c := c) (S := ar size cs (wl true [] (laidL 0 N F c.Lim_First)) 0 true) (F := F) (W := W) (most := c.Lim_Most) (lim := ⟨c.Lim_Frames, c.Lim_First, c.Lim_Most⟩) (cs := cs) (p := ⟨c.P_Funcs⟩) (args := c.Args) (by omega : N ≤ 64) hN N K 0 (by omega) (by omega)
      rw [Int.ofNat_zero] at nl
      have hlog : wl true [] (laidL 0 N F c.Lim_First) = laidL 0 N F c.Lim_First := rfl
      simp only [if_true]
      rw [if_pos (show (false = ((0 : Int) != 0)) from rfl), unchanged_ok h (by omega), ob1_some, if_pos rfl, jn0_inl, alog_ok (by show (wl true [] _).length ≤ _; rw [hlog]; omega), ob1_some, jn0_inl, laid_ok (by omega) hl hF (by omega) (by omega) (by omega), ob1_some, e2, hlog, slog_ok (p := laidL 0 N F c.Lim_First) (by omega) (by omega), ob1_some, if_pos rfl, g1, ob1_some,
        acells_ok (by show cs.length ≤ _; omega), ob1_some, show (rNew ⟨c.P_Funcs⟩ c.Args N F ⟨c.Lim_Frames, c.Lim_First, c.Lim_Most⟩ cs).Cells = cs from rfl, scel_ok (p := cs) (by omega) (by omega), ob1_some, if_pos rfl]
      unfold worker_World_Result
      rw [hlog] at nl
      rw [ob2_some, nl, jn0_inl]
      unfold worker_World_Holds worker_World_Halted
      rw [show (wNew ⟨c.P_Funcs⟩ c.Args N F W c.Lim_Most).left = false from rfl, if_neg (by decide), if_pos (show (-1 : Int) < 0 by decide), ob1_some, if_pos rfl, wnew_len, if_neg (show ¬ (N : Int) < 0 by omega), if_pos (show (N : Int) ≥ (N : Int) by omega), ob1_some, if_pos rfl, if_neg (show ¬ (-1 : Int) ≥ 0 by decide), ob1_some, if_neg (by decide), if_pos (show (N : Int) ≥ 0 by omega), if_neg (show ¬ (N : Int) < (N : Int) by omega), ob1_some]
      rfl
    · rw [if_pos (show size < ((4 + 10 * F + N + N * W : Nat) : Int) by omega), ob1_some, ob1_some, twin_ok h (by omega), ob1_some, hN]
      obtain ⟨cs, e1⟩ := n2 hf
      dsimp only at e1
      rw [show (⟨size, 0, ([] : List Int), ([] : List T_api_Access), 0, true⟩ : T_cells_Arena) = ar size [] [] 0 true from rfl, e1, ob3_some]
      dsimp only
      have hlog : wl true [] (cutL size (laidL 0 N F c.Lim_First)) = cutL size (laidL 0 N F c.Lim_First) := rfl
      have hcl := cutL_len (sz := size) (laidL 0 N F c.Lim_First)
      rw [if_pos rfl, if_pos (by decide), unchanged_ok h (by omega), ob1_some, if_pos rfl, jn0_inl, alog_ok (by show (wl true [] _).length ≤ _; rw [hlog]; omega), ob1_some, if_neg (by decide), if_pos rfl, jn0_inl, laid_ok (by omega) hl hF (by omega) (by omega) (by omega), ob1_some, hlog, slog_ok (p := cutL size (laidL 0 N F c.Lim_First)) (by omega) (by omega), ob1_some, if_pos rfl, if_neg (by decide)]
  · rw [if_neg he, ob1_some, ob1_some, twin_ok h (by omega), ob1_some, new_no r2 he, ob3_some]
    dsimp only
    have hne : (true = (e != 0)) := by simp [he]
    have h22 : ¬ e = 22 := by rcases r3 with h | h | h | h | h <;> omega
    rw [if_pos rfl, if_pos hne, unchanged_ok h (by omega), ob1_some, if_pos rfl, jn0_inl, alog_ok (by simp), ob1_some, if_neg he, if_neg h22, jn0_inr]
    rfl
end
end Go.Proofs.YtpikpffbcjpmcaaDoor.Mo
